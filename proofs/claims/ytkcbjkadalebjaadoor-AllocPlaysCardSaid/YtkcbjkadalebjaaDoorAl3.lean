/-
  Handles (alloc.Alloc), 3: At, Counts, Mask, all, Live, New.
-/
import Derived.Test.YtkcbjkadalebjaaDoorAl2
set_option maxRecDepth 100000
namespace Go.Proofs.YtkcbjkadalebjaaDoor
open Go Go.RowKit
attribute [local irreducible] wpList Calls Code.wp

/-! ### At -/
def atA (cs : List ACell) (i : Int) : Hdl × Bool := if 0 ≤ i ∧ i < cs.length ∧ (stA cs i.toNat = 1 ∨ stA cs i.toNat = 2) then ((i, gnA cs i.toNat), true) else ((0, 0), false)
theorem memS_ex {S : List Nat} {i : Int} (h : memS S i = true) : ∃ k : Nat, i = (k : Int) ∧ k ∈ S := by
  unfold memS at h
  obtain ⟨k, hk, he⟩ := List.any_eq_true.1 h
  exact ⟨k, (by simpa using he : (k : Int) = i).symm, hk⟩
theorem atA_in {cs : List ACell} {i : Int} {s : Nat} (h : memS (idxS s cs) i = true) (hs : s = 1 ∨ s = 2) : ∃ k : Nat, i = (k : Int) ∧ k < cs.length ∧ atA cs i = ((i, gnA cs k), true) := by
  obtain ⟨k, rfl, hk⟩ := memS_ex h
  obtain ⟨h1, h2⟩ := mem_idxS.1 hk
  refine ⟨k, rfl, h1, ?_⟩
  unfold atA
  rw [if_pos ⟨by omega, by omega, by rw [Int.toNat_natCast, h2]; exact hs⟩]
  rfl
theorem atA_out {cs : List ACell} {i : Int} (h1 : memS (idxS 1 cs) i = false) (h2 : memS (idxS 2 cs) i = false) : atA cs i = ((0, 0), false) := by
  refine if_neg fun ⟨h3, h4, h5⟩ => ?_
  obtain ⟨k, rfl⟩ := Int.eq_ofNat_of_zero_le h3
  have hk : k < cs.length := by omega
  rw [Int.toNat_natCast] at h5
  rcases h5 with h5 | h5
  · have := memS_nat' (mem_idxS.2 ⟨hk, h5⟩); rw [h1] at this; cases this
  · have := memS_nat' (mem_idxS.2 ⟨hk, h5⟩); rw [h2] at this; cases this
attribute [local irreducible] idxS addS okN memS remS errN insS delS nextS stA gnA stV atA
set_option maxHeartbeats 1000000 in
theorem aat_c {w0 w : World} {L : List As} {D : Nat} {top : Int} {cs : List ACell} (hs : St w0 (AlB D top cs :: L) w) {i : Int} {v : Hdl} {b : Bool} (HV : Hid (atA cs i = (v, b))) :
    Calls Tryd.prog 25 #[.pointer (some ⟨D, 0, none⟩), .int .i64 i] w fun e w' => e = .returned (.tuple #[hv v, .bool b]) ∧ Grew w w' := by
  obtain ⟨hok, TF, TL, TR, G, cap, hs⟩ := hs.alopen
  cases hb1 : memS (idxS 1 cs) i with
  | true =>
    have HB1 := Lib.hid hb1
    have HB2 : Hid (memS (idxS 2 cs) i = memS (idxS 2 cs) i) := rfl
    clear hb1
    obtain ⟨k, rfl, hk, hv⟩ := atA_in HB1.out (.inl rfl)
    obtain ⟨g, HG⟩ : ∃ g, Hid (gnA cs k = g) := ⟨_, rfl⟩
    rw [hv, HG.out] at HV
    cases HV.out
    clear hv
    go_enter Tryd.func25, Tryd.ntmps25
    go_upto_region 1 with (fail)
    have hw := (St.start w).alloc (h2 (0, 0)).toArray 30
    generalize w.heap.size = g4 at hw ⊢
    refine wp_gen hw ?_
    clear hw
    intro w1 hw
    replace hs := hs.grew hw.made_grew
    obtain ⟨_, d1, d2, _, _, _⟩ := alRd hs
    go_wp2_with (first
      | (go_at_call 33; refine (has_gv hs.up2 HB1).mono ?_; clear d1 d2; rintro e w' ⟨rfl, hg⟩; replace hs := hs.grew hg; replace hw := hw.grew hg; clear hg; obtain ⟨_, d1, d2, _, _, _⟩ := alRd hs)
      | (go_at_call 33; refine (has_gv hs.up3 HB2).mono ?_; clear d1 d2; rintro e w' ⟨rfl, hg⟩; replace hs := hs.grew hg; replace hw := hw.grew hg; clear hg; obtain ⟨_, d1, d2, _, _, _⟩ := alRd hs)
      | (go_at_call 41; refine (handle_c (hs.alshut hok) hk HG).mono ?_; clear d1 d2; rintro e w' ⟨rfl, hg⟩; replace hw := hw.grew hg; clear hg)
      | (refine wpl_store_agg (v := hv ((k : Int), g)) rfl rfl (sizeH _) hw WrA.slotH ?_; clear hw; intro w3 hw))
    refine bodyPost_at (results_cell_tmp Tryd.results25 rfl (hw.slot_run aggH (sizeH _))) rfl ?_
    exact ⟨rfl, hw.made_grew⟩
  | false =>
    cases hb2 : memS (idxS 2 cs) i with
    | true =>
    have HB1 := Lib.hid hb1
    have HB2 := Lib.hid hb2
    clear hb1 hb2
    obtain ⟨k, rfl, hk, hv⟩ := atA_in HB2.out (.inr rfl)
    obtain ⟨g, HG⟩ : ∃ g, Hid (gnA cs k = g) := ⟨_, rfl⟩
    rw [hv, HG.out] at HV
    cases HV.out
    clear hv
    go_enter Tryd.func25, Tryd.ntmps25
    go_upto_region 1 with (fail)
    have hw := (St.start w).alloc (h2 (0, 0)).toArray 30
    generalize w.heap.size = g4 at hw ⊢
    refine wp_gen hw ?_
    clear hw
    intro w1 hw
    replace hs := hs.grew hw.made_grew
    obtain ⟨_, d1, d2, _, _, _⟩ := alRd hs
    go_wp2_with (first
      | (go_at_call 33; refine (has_gv hs.up2 HB1).mono ?_; clear d1 d2; rintro e w' ⟨rfl, hg⟩; replace hs := hs.grew hg; replace hw := hw.grew hg; clear hg; obtain ⟨_, d1, d2, _, _, _⟩ := alRd hs)
      | (go_at_call 33; refine (has_gv hs.up3 HB2).mono ?_; clear d1 d2; rintro e w' ⟨rfl, hg⟩; replace hs := hs.grew hg; replace hw := hw.grew hg; clear hg; obtain ⟨_, d1, d2, _, _, _⟩ := alRd hs)
      | (go_at_call 41; refine (handle_c (hs.alshut hok) hk HG).mono ?_; clear d1 d2; rintro e w' ⟨rfl, hg⟩; replace hw := hw.grew hg; clear hg)
      | (refine wpl_store_agg (v := hv ((k : Int), g)) rfl rfl (sizeH _) hw WrA.slotH ?_; clear hw; intro w3 hw))
    refine bodyPost_at (results_cell_tmp Tryd.results25 rfl (hw.slot_run aggH (sizeH _))) rfl ?_
    exact ⟨rfl, hw.made_grew⟩
    | false =>
    rw [atA_out hb1 hb2] at HV
    cases HV.out
    have HB1 := Lib.hid hb1
    have HB2 := Lib.hid hb2
    clear hb1 hb2
    go_enter Tryd.func25, Tryd.ntmps25
    go_upto_region 1 with (fail)
    have hw := (St.start w).alloc (h2 (0, 0)).toArray 30
    generalize w.heap.size = g4 at hw ⊢
    refine wp_gen hw ?_
    clear hw
    intro w1 hw
    replace hs := hs.grew hw.made_grew
    obtain ⟨_, d1, d2, _, _, _⟩ := alRd hs
    go_wp2_with (first
      | (go_at_call 33; refine (has_gv hs.up2 HB1).mono ?_; clear d1 d2; rintro e w' ⟨rfl, hg⟩; replace hs := hs.grew hg; replace hw := hw.grew hg; clear hg; obtain ⟨_, d1, d2, _, _, _⟩ := alRd hs)
      | (go_at_call 33; refine (has_gv hs.up3 HB2).mono ?_; clear d1 d2; rintro e w' ⟨rfl, hg⟩; replace hs := hs.grew hg; replace hw := hw.grew hg; clear hg; obtain ⟨_, d1, d2, _, _, _⟩ := alRd hs)
      | (refine wpl_buildS (parts := []) build_h0 rfl ?_)
      | (refine wpl_store_agg (v := hv (0, 0)) rfl rfl (sizeH _) hw WrA.slotH ?_; clear hw; intro w3 hw))
    refine bodyPost_at (results_cell_tmp Tryd.results25 rfl (hw.slot_run aggH (sizeH _))) rfl ?_
    exact ⟨rfl, hw.made_grew⟩
/-! ### Counts, Mask -/
set_option maxHeartbeats 1000000 in
theorem counts_c {w0 w : World} {L : List As} {D : Nat} {top : Int} {cs : List ACell} (hs : St w0 (AlB D top cs :: L) w) {a b c : Nat} (HA : Hid ((idxS 1 cs).length = a)) (HB : Hid ((idxS 2 cs).length = b)) (HC : Hid (retA cs = c)) :
    Calls Tryd.prog 16 #[.pointer (some ⟨D, 0, none⟩)] w fun e w' => e = .returned (.tuple #[.int .i64 (a : Nat), .int .i64 (b : Nat), .int .i64 (c : Nat)]) ∧ Grew w w' := by
  obtain ⟨_, TF, TL, TR, G, cap, hs⟩ := hs.alopen
  obtain ⟨_, d1, d2, _, _, d5⟩ := alRd hs
  rw [HC.out] at d5
  go_enter Tryd.func16, Tryd.ntmps16
  go_upto_region 1 with (fail)
  refine wp_region_grow (by kernel_rfl) (by kernel_rfl) fun hne => ?_
  have g1 := fun p : GW _ => p.grew.cell d1
  have g2 := fun p : GW _ => p.grew.cell d2
  have g5 := fun p : GW _ => p.grew.cell d5
  repeat (go_big_quiet_step ((first
    | (go_at_call 35; exact in_gsame (hlen_v (hs.up2.grew (GW.grew _)) HA))
    | (go_at_call 35; exact in_gsame (hlen_v (hs.up3.grew (GW.grew _)) HB)))))
  refine wpQuiet_nil ?_
  clear hne g1 g2 g5
  intro u hu
  go_wp2
  go_ret3
  exact ⟨rfl, hu⟩
theorem mask_c {w0 w : World} {L : List As} {D : Nat} {top : Int} {cs : List ACell} (hs : St w0 (AlB D top cs :: L) w) :
    Calls Tryd.prog 43 #[.pointer (some ⟨D, 0, none⟩)] w fun e w' => ∃ T', e = .returned (.pointer (some ⟨T', 0, none⟩)) ∧ St w [HSet T' (idxS 1 cs)] w' := by
  obtain ⟨_, TF, TL, TR, G, cap, hs⟩ := hs.alopen
  obtain ⟨_, d1, _, _, _, _⟩ := alRd hs
  go_enter Tryd.func43, Tryd.ntmps43
  go_wp2_with (first
    | (go_at_call 54; refine (copy_h hs.up2).mono ?_; rintro e w' ⟨T', rfl, hm⟩))
  go_ret
  exact ⟨T', rfl, hm⟩
end Go.Proofs.YtkcbjkadalebjaaDoor
