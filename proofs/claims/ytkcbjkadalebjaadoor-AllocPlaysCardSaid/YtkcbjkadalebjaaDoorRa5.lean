/-
  The document's Alloc (vivariumref5), 5: At, NewAlloc, AllocMay; the statements' Same.
-/
import Derived.Test.YtkcbjkadalebjaaDoorRa4
set_option maxRecDepth 100000
namespace Go.Proofs.YtkcbjkadalebjaaDoor
open Go Go.RowKit
attribute [local irreducible] wpList Calls Code.wp

theorem listS_all {S : List Nat} {n : Nat} (hn : S.length = n) (h : n ≤ 90000) : listS S 0 ((n : Int) + 1) = S := by
  unfold listS
  rw [fromS_zero, List.take_of_length_le (by omega)]
attribute [local irreducible] idxS addS okN memS remS errN insS delS nextS stA gnA stV atA hsV mergeA giveV delA newA bsV padA idxU listS
set_option maxHeartbeats 1000000 in
theorem at_r {w0 w : World} {L : List As} {E n : Nat} {top : Int} {c : List ACell} (hs : St w0 (RaB E n top c :: L) w) {i : Int} {v : Hdl} {b : Bool} (HV : Hid (atA c i = (v, b))) :
    Calls Tryd.prog 26 #[.pointer (some ⟨E, 0, none⟩), .int .i64 i] w fun e w' => e = .returned (.tuple #[hv v, .bool b]) ∧ Grew w w' := by
  obtain ⟨hok, A, capA, B, capB, hs⟩ := hs.raopen
  obtain ⟨_, _, d2, d3⟩ := raRd hs
  have hfew : c.length ≤ 65536 := Nat.le_trans hok.fits hok.few
  by_cases ho : 0 ≤ i ∧ i < c.length
  · obtain ⟨h0, h1⟩ := ho
    obtain ⟨k, rfl⟩ := Int.eq_ofNat_of_zero_le h0
    have hk : k < c.length := by omega
    obtain ⟨gA, rfl⟩ := hs.rot.own_at (by omega)
    obtain ⟨gB, rfl⟩ := hs.up2.own_at (by omega)
    have dg := Rd.own (gensV_get hk) _ hs.rot
    have ds := Rd.own (stsV_get hk) _ hs.up2
    have hn1 := hs.rot.own_len
    have hn2 := hs.up2.own_len
    by_cases hst : stA c k = 1 ∨ stA c k = 2
    · have hat : atA c (k : Int) = (((k : Int), gnA c k), true) := by unfold atA; rw [if_pos ⟨by omega, by omega, by simpa using hst⟩]; rfl
      rw [hat] at HV
      cases HV.out
      generalize gnA c k = g at *
      clear hat
      generalize stA c k = q at *
      generalize c.length = m at *
      clear hok h0 h1
      rcases hst with rfl | rfl
      · skip
        go_enter Tryd.func26, Tryd.ntmps26
        go_upto_region 1 with (fail)
        have hw := (St.start w).alloc (h2 (0, 0)).toArray 30
        generalize w.heap.size = g4 at hw ⊢
        refine wp_gen hw ?_
        clear hw
        intro w1 hw
        replace d2 := hw.made_grew.cell d2
        replace d3 := hw.made_grew.cell d3
        replace dg := hw.made_grew.cell dg
        replace ds := hw.made_grew.cell ds
        go_wp2_with (first
          | (refine wpl_buildS (build_h2 _ _) rfl ?_)
          | (refine wpl_store_agg (v := hv ((k : Int), g)) rfl rfl (sizeH _) hw WrA.slotH ?_; clear hw; intro w3 hw))
        refine bodyPost_at (results_cell_tmp Tryd.results26 rfl (hw.slot_run aggH (sizeH _))) rfl ?_
        exact ⟨rfl, hw.made_grew⟩
      · skip
        go_enter Tryd.func26, Tryd.ntmps26
        go_upto_region 1 with (fail)
        have hw := (St.start w).alloc (h2 (0, 0)).toArray 30
        generalize w.heap.size = g4 at hw ⊢
        refine wp_gen hw ?_
        clear hw
        intro w1 hw
        replace d2 := hw.made_grew.cell d2
        replace d3 := hw.made_grew.cell d3
        replace dg := hw.made_grew.cell dg
        replace ds := hw.made_grew.cell ds
        go_wp2_with (first
          | (refine wpl_buildS (build_h2 _ _) rfl ?_)
          | (refine wpl_store_agg (v := hv ((k : Int), g)) rfl rfl (sizeH _) hw WrA.slotH ?_; clear hw; intro w3 hw))
        refine bodyPost_at (results_cell_tmp Tryd.results26 rfl (hw.slot_run aggH (sizeH _))) rfl ?_
        exact ⟨rfl, hw.made_grew⟩
    · have hat : atA c (k : Int) = ((0, 0), false) := by unfold atA; rw [if_neg (fun h => hst (by simpa using h.2.2))]
      rw [hat] at HV
      cases HV.out
      clear hat dg
      generalize stA c k = q at *
      generalize c.length = m at *
      have e1 : ((q : Int) != 1) = true := by simp; omega
      have e2 : ((q : Int) != 2) = true := by simp; omega
      clear hok h0 h1 hst
      go_enter Tryd.func26, Tryd.ntmps26
      go_upto_region 1 with (fail)
      have hw := (St.start w).alloc (h2 (0, 0)).toArray 30
      generalize w.heap.size = g4 at hw ⊢
      refine wp_gen hw ?_
      clear hw
      intro w1 hw
      replace d2 := hw.made_grew.cell d2
      replace d3 := hw.made_grew.cell d3
      replace ds := hw.made_grew.cell ds
      go_wp2_with (first
        | (refine wpl_buildS (parts := []) build_h0 rfl ?_)
        | (refine wpl_store_agg (v := hv (0, 0)) rfl rfl (sizeH _) hw WrA.slotH ?_; clear hw; intro w3 hw))
      refine bodyPost_at (results_cell_tmp Tryd.results26 rfl (hw.slot_run aggH (sizeH _))) rfl ?_
      exact ⟨rfl, hw.made_grew⟩
  · have hat : atA c i = ((0, 0), false) := by unfold atA; rw [if_neg (fun h => ho ⟨h.1, h.2.1⟩)]
    rw [hat] at HV
    cases HV.out
    clear hat
    generalize c.length = m at *
    clear hok
    by_cases hi : i < 0
    · clear ho
      go_enter Tryd.func26, Tryd.ntmps26
      go_upto_region 1 with (fail)
      have hw := (St.start w).alloc (h2 (0, 0)).toArray 30
      generalize w.heap.size = g4 at hw ⊢
      refine wp_gen hw ?_
      clear hw
      intro w1 hw
      replace d2 := hw.made_grew.cell d2
      replace d3 := hw.made_grew.cell d3
      go_wp2_with (first
        | (refine wpl_buildS (parts := []) build_h0 rfl ?_)
        | (refine wpl_store_agg (v := hv (0, 0)) rfl rfl (sizeH _) hw WrA.slotH ?_; clear hw; intro w3 hw))
      refine bodyPost_at (results_cell_tmp Tryd.results26 rfl (hw.slot_run aggH (sizeH _))) rfl ?_
      exact ⟨rfl, hw.made_grew⟩
    · have hni : (m : Int) ≤ i := by omega
      clear ho
      go_enter Tryd.func26, Tryd.ntmps26
      go_upto_region 1 with (fail)
      have hw := (St.start w).alloc (h2 (0, 0)).toArray 30
      generalize w.heap.size = g4 at hw ⊢
      refine wp_gen hw ?_
      clear hw
      intro w1 hw
      replace d2 := hw.made_grew.cell d2
      replace d3 := hw.made_grew.cell d3
      go_wp2_with (first
        | (refine wpl_buildS (parts := []) build_h0 rfl ?_)
        | (refine wpl_store_agg (v := hv (0, 0)) rfl rfl (sizeH _) hw WrA.slotH ?_; clear hw; intro w3 hw))
      refine bodyPost_at (results_cell_tmp Tryd.results26 rfl (hw.slot_run aggH (sizeH _))) rfl ?_
      exact ⟨rfl, hw.made_grew⟩
end Go.Proofs.YtkcbjkadalebjaaDoor
