/-
  Handles (alloc.Alloc), 2: State, Delete, At, Counts, Mask.
-/
import Derived.Test.YtkcbjkadalebjaaDoorAl
set_option maxRecDepth 100000
namespace Go.Proofs.YtkcbjkadalebjaaDoor
open Go Go.RowKit
attribute [local irreducible] wpList Calls Code.wp

/-- What a handle is. -/
def stV (cs : List ACell) (h : Hdl) : Int := if 0 ≤ h.1 ∧ h.1 < cs.length ∧ gnA cs h.1.toNat = h.2 then (if stA cs h.1.toNat = 1 then 1 else if stA cs h.1.toNat = 2 then 2 else 0) else 0
theorem stV_out {cs : List ACell} {h : Hdl} (ho : ¬ (0 ≤ h.1 ∧ h.1 < cs.length)) : stV cs h = 0 := if_neg fun h' => ho ⟨h'.1, h'.2.1⟩
theorem stV_gen {cs : List ACell} {k : Nat} {g : Int} (ho : gnA cs k ≠ g) : stV cs ((k : Int), g) = 0 := if_neg fun h' => ho (by simpa using h'.2.2)
theorem stV_in {cs : List ACell} {k : Nat} {g : Int} (hk : k < cs.length) (hg : gnA cs k = g) : stV cs ((k : Int), g) = if stA cs k = 1 then 1 else if stA cs k = 2 then 2 else 0 := by
  unfold stV
  rw [if_pos ⟨by omega, by omega, by simpa using hg⟩]
  rfl
theorem memS_idx {s k : Nat} {cs : List ACell} (hk : k < cs.length) : memS (idxS s cs) (k : Int) = decide (stA cs k = s) := by
  rw [Bool.eq_iff_iff, memS_nat, mem_idxS, decide_eq_true_iff]
  exact ⟨fun h => h.2, fun h => ⟨hk, h⟩⟩
theorem size_one3 : one1 Tryd.prog 3 = true := by kernel_rfl
attribute [local irreducible] idxS addS okN memS remS errN insS delS nextS stA gnA stV
set_option maxHeartbeats 1000000 in
theorem state_c {w0 w : World} {L : List As} {D : Nat} {top : Int} {cs : List ACell} (hs : St w0 (AlB D top cs :: L) w) {h : Hdl} {v : Int} (HV : Hid (stV cs h = v)) :
    Calls Tryd.prog 11 #[.pointer (some ⟨D, 0, none⟩), hv h] w fun e w' => e = .returned (.int .i64 v) ∧ Grew w w' := by
  obtain ⟨hok, TF, TL, TR, G, cap, hs⟩ := hs.alopen
  obtain ⟨_, d1, d2, _, d4, _⟩ := alRd hs
  have hfew := hok.few
  obtain ⟨i, g⟩ := h
  by_cases ho : 0 ≤ i ∧ i < cs.length
  · obtain ⟨h0, h1⟩ := ho
    obtain ⟨k, rfl⟩ := Int.eq_ofNat_of_zero_le h0
    have hk : k < cs.length := by omega
    have dg := Rd.own (gensV_get hk) _ hs.up4
    have hnl := hs.up4.own_len
    have hsL := hs.up2
    have hsR := hs.up3
    by_cases hgg : gnA cs k = g
    · have HV2 : Hid ((if stA cs k = 1 then (1 : Int) else if stA cs k = 2 then 2 else 0) = v) := by rw [Hid, ← stV_in hk hgg]; exact HV.out
      obtain ⟨b1, HB1⟩ : ∃ b, Hid (memS (idxS 1 cs) (k : Int) = b) := ⟨_, rfl⟩
      obtain ⟨b2, HB2⟩ : ∃ b, Hid (memS (idxS 2 cs) (k : Int) = b) := ⟨_, rfl⟩
      have h1b : b1 = decide (stA cs k = 1) := by rw [← HB1.out, memS_idx hk]
      have h2b : b2 = decide (stA cs k = 2) := by rw [← HB2.out, memS_idx hk]
      have HVV : Hid (v = if b1 then 1 else if b2 then 2 else 0) := by rw [Hid, ← HV2.out, h1b, h2b]; simp
      rw [hgg] at dg
      clear HV HV2 h1b h2b hgg h0 h1
      generalize cs.length = n at *
      clear hok
      go_enter Tryd.func11, Tryd.ntmps11
      go_upto_region 1 with (first
        | (refine wpl_box_v (v := hv ((k : Int), g)) rfl (St.start w) ?_; intro g3 w1 hw; replace hw : St w [blk g3 (h2 ((k : Int), g)).toArray 30] w1 := hw))
      have f0 : w1.cell? ⟨g3, 0, none⟩ = some (.int .i64 (k : Int)) := Rd.blk (L := []) (by rfl) _ hw
      have f1 : w1.cell? ⟨g3, 1, none⟩ = some (.int .i64 g) := Rd.blk (L := []) (by rfl) _ hw
      replace d1 := hw.made_grew.cell d1
      replace d2 := hw.made_grew.cell d2
      replace d4 := hw.made_grew.cell d4
      replace dg := hw.made_grew.cell dg
      replace hsL := hsL.grew hw.made_grew
      replace hsR := hsR.grew hw.made_grew
      replace hw := hw.made_grew
      refine wp_region_grow (by kernel_rfl) (by kernel_rfl) fun hne => ?_
      have g0 := fun p : GW _ => p.grew.cell f0
      have g1 := fun p : GW _ => p.grew.cell f1
      have g4 := fun p : GW _ => p.grew.cell d4
      have gg := fun p : GW _ => p.grew.cell dg
      have e1 : decide ((k : Int) < 0) = false := decide_eq_false (by omega)
      have e2 : decide (n ≤ k) = false := decide_eq_false (by omega)
      repeat (go_big_quiet_step (fail))
      refine wpQuiet_nil ?_
      clear hne g0 g1 g4 gg e1 e2
      intro u hu
      replace hw := hw.trans hu
      replace d1 := hu.cell d1
      replace d2 := hu.cell d2
      replace f0 := hu.cell f0
      replace hsL := hsL.grew hu
      replace hsR := hsR.grew hu
      clear hu
      go_upto_region 3 with (fail)
      refine wp_region_grow (by kernel_rfl) (by kernel_rfl) fun hne => ?_
      have g0 := fun p : GW _ => p.grew.cell f0
      have g1 := fun p : GW _ => p.grew.cell d1
      repeat (go_big_quiet_step ((first
        | (go_at_call 33; exact in_grew (has_gv (hsL.grew (GW.grew _)) HB1)))))
      refine wpQuiet_nil ?_
      clear hne g0 g1
      intro u hu
      replace hw := hw.trans hu
      replace d2 := hu.cell d2
      replace f0 := hu.cell f0
      replace hsR := hsR.grew hu
      clear hu hsL
      cases b1 with
      | true =>
        go_wp2
        go_ret
        exact ⟨by rw [HVV.out]; rfl, hw⟩
      | false =>
        go_upto_region 5 with (fail)
        refine wp_region_grow (by kernel_rfl) (by kernel_rfl) fun hne => ?_
        have g0 := fun p : GW _ => p.grew.cell f0
        have g1 := fun p : GW _ => p.grew.cell d2
        repeat (go_big_quiet_step ((first
          | (go_at_call 33; exact in_grew (has_gv (hsR.grew (GW.grew _)) HB2)))))
        refine wpQuiet_nil ?_
        clear hne g0 g1
        intro u hu
        replace hw := hw.trans hu
        clear hu hsR
        cases b2 with
        | true =>
          go_wp2
          go_ret
          exact ⟨by rw [HVV.out]; rfl, hw⟩
        | false =>
          go_wp2
          go_ret
          exact ⟨by rw [HVV.out]; rfl, hw⟩
    · have HVV : Hid (v = 0) := by rw [Hid, ← HV.out]; exact stV_gen hgg
      generalize gnA cs k = g' at *
      clear HV h0 h1
      generalize cs.length = n at *
      clear hok
      go_enter Tryd.func11, Tryd.ntmps11
      go_upto_region 1 with (first
        | (refine wpl_box_v (v := hv ((k : Int), g)) rfl (St.start w) ?_; intro g3 w1 hw; replace hw : St w [blk g3 (h2 ((k : Int), g)).toArray 30] w1 := hw))
      have f0 : w1.cell? ⟨g3, 0, none⟩ = some (.int .i64 (k : Int)) := Rd.blk (L := []) (by rfl) _ hw
      have f1 : w1.cell? ⟨g3, 1, none⟩ = some (.int .i64 g) := Rd.blk (L := []) (by rfl) _ hw
      replace d4 := hw.made_grew.cell d4
      replace dg := hw.made_grew.cell dg
      replace hw := hw.made_grew
      refine wp_region_grow (by kernel_rfl) (by kernel_rfl) fun hne => ?_
      have g0 := fun p : GW _ => p.grew.cell f0
      have g1 := fun p : GW _ => p.grew.cell f1
      have g4 := fun p : GW _ => p.grew.cell d4
      have gg := fun p : GW _ => p.grew.cell dg
      have e1 : decide ((k : Int) < 0) = false := decide_eq_false (by omega)
      have e2 : decide (n ≤ k) = false := decide_eq_false (by omega)
      have e3 : (g' != g) = true := by simpa using hgg
      repeat (go_big_quiet_step (fail))
      refine wpQuiet_nil ?_
      clear hne g0 g1 g4 gg e1 e2 e3
      intro u hu
      replace hw := hw.trans hu
      clear hu
      go_wp2
      go_ret
      exact ⟨by rw [HVV.out]; rfl, hw⟩
  · have HVV : Hid (v = 0) := by rw [Hid, ← HV.out]; exact stV_out ho
    clear HV
    generalize cs.length = n at *
    clear hok
    by_cases hi : i < 0
    · clear ho
      go_enter Tryd.func11, Tryd.ntmps11
      go_upto_region 1 with (first
        | (refine wpl_box_v (v := hv (i, g)) rfl (St.start w) ?_; intro g3 w1 hw; replace hw : St w [blk g3 (h2 (i, g)).toArray 30] w1 := hw))
      have f0 : w1.cell? ⟨g3, 0, none⟩ = some (.int .i64 i) := Rd.blk (L := []) (by rfl) _ hw
      have f1 : w1.cell? ⟨g3, 1, none⟩ = some (.int .i64 g) := Rd.blk (L := []) (by rfl) _ hw
      replace d4 := hw.made_grew.cell d4
      replace hw := hw.made_grew
      refine wp_region_grow (by kernel_rfl) (by kernel_rfl) fun hne => ?_
      have g0 := fun p : GW _ => p.grew.cell f0
      have g1 := fun p : GW _ => p.grew.cell f1
      have g4 := fun p : GW _ => p.grew.cell d4
      have e1 : decide (i < 0) = true := decide_eq_true (by omega)
      repeat (go_big_quiet_step (fail))
      refine wpQuiet_nil ?_
      clear hne g0 g1 g4 e1
      intro u hu
      replace hw := hw.trans hu
      clear hu
      go_wp2
      go_ret
      exact ⟨by rw [HVV.out]; rfl, hw⟩
    · have hni : (n : Int) ≤ i := by omega
      clear ho
      go_enter Tryd.func11, Tryd.ntmps11
      go_upto_region 1 with (first
        | (refine wpl_box_v (v := hv (i, g)) rfl (St.start w) ?_; intro g3 w1 hw; replace hw : St w [blk g3 (h2 (i, g)).toArray 30] w1 := hw))
      have f0 : w1.cell? ⟨g3, 0, none⟩ = some (.int .i64 i) := Rd.blk (L := []) (by rfl) _ hw
      have f1 : w1.cell? ⟨g3, 1, none⟩ = some (.int .i64 g) := Rd.blk (L := []) (by rfl) _ hw
      replace d4 := hw.made_grew.cell d4
      replace hw := hw.made_grew
      refine wp_region_grow (by kernel_rfl) (by kernel_rfl) fun hne => ?_
      have g0 := fun p : GW _ => p.grew.cell f0
      have g1 := fun p : GW _ => p.grew.cell f1
      have g4 := fun p : GW _ => p.grew.cell d4
      have e1 : decide (i < 0) = false := decide_eq_false (by omega)
      have e2 : decide ((n : Int) ≤ i) = true := decide_eq_true (by omega)
      repeat (go_big_quiet_step (fail))
      refine wpQuiet_nil ?_
      clear hne g0 g1 g4 e1 e2
      intro u hu
      replace hw := hw.trans hu
      clear hu
      go_wp2
      go_ret
      exact ⟨by rw [HVV.out]; rfl, hw⟩
/-! ### Delete -/
def delA (top : Int) (cs : List ACell) (h : Hdl) : Int × List ACell := if stV cs h = 0 then (4, cs) else if stV cs h = 2 then (5, cs) else (0, cs.set h.1.toNat (if top ≤ h.2 then 9 else 0, h.2))
theorem stV_one {cs : List ACell} {h : Hdl} (h1 : stV cs h = 1) : ∃ k : Nat, h.1 = (k : Int) ∧ k < cs.length ∧ gnA cs k = h.2 ∧ stA cs k = 1 := by
  unfold stV at h1
  split at h1
  · rename_i h2
    obtain ⟨k, hk⟩ := Int.eq_ofNat_of_zero_le h2.1
    rw [hk, Int.toNat_natCast] at h1 h2
    refine ⟨k, hk, by omega, h2.2.2, ?_⟩
    split at h1
    · assumption
    · split at h1 <;> cases h1
  · cases h1
theorem stV_cases (cs : List ACell) (h : Hdl) : stV cs h = 0 ∨ stV cs h = 2 ∨ stV cs h = 1 := by
  unfold stV
  split
  · split
    · exact .inr (.inr rfl)
    · split
      · exact .inr (.inl rfl)
      · exact .inl rfl
  · exact .inl rfl
theorem gensV_same {cs : List ACell} {k s : Nat} (hk : k < cs.length) : gensV (cs.set k (s, gnA cs k)) = gensV cs := by
  rw [← gensV_set]
  have := gensV_get hk
  have hl : k < (gensV cs).length := by rw [gensV_len]; exact hk
  rw [List.getElem?_eq_getElem hl] at this
  rw [← Option.some.inj this]
  exact List.set_getElem_self hl
theorem Wr.alRet {w0 : World} {D TF TL TR G n cap ret : Nat} {top : Int} {t : TypeId} {L : List As} : Wr w0 (YtkcbjkadalebjaaDoor.blk D (alC TF TL TR top G n cap ret).toArray t :: L) ⟨D, 5, none⟩ (.int .i64 ((ret : Int) + 1)) (YtkcbjkadalebjaaDoor.blk D (alC TF TL TR top G n cap (ret + 1)).toArray t :: L) :=
  Wr.blk (k := 5) (v := .int .i64 ((ret : Int) + 1)) (cs := (alC TF TL TR top G n cap ret).toArray) (by simp [alC])
theorem size_int3 : (Tryd.prog.info? 3).map (·.size) = some 1 := by kernel_rfl
set_option maxHeartbeats 1000000 in
theorem delete_c {w0 w : World} {L : List As} {D : Nat} {top : Int} {cs : List ACell} (hs : St w0 (AlB D top cs :: L) w) {h : Hdl} {x : Int} {c : List ACell} (HV : Hid (delA top cs h = (x, c))) :
    Calls Tryd.prog 10 #[.pointer (some ⟨D, 0, none⟩), hv h] w fun e w' => e = .returned (.int .i64 x) ∧ St w0 (AlB D top c :: L) w' := by
  obtain ⟨i, g⟩ := h
  rcases stV_cases cs (i, g) with h1 | h1 | h1
  · skip
    have HVV : Hid (delA top cs (i, g) = (4, cs)) := by rw [Hid]; unfold delA; rw [h1]; rfl
    rw [HVV.out] at HV
    have HS := Lib.hid h1
    clear h1
    go_enter Tryd.func10, Tryd.ntmps10
    go_wp2_with (first
      | (refine wpl_box_v (v := hv (i, g)) rfl hs ?_; clear hs; intro g3 w1 hs; replace hs : St w0 (blk g3 (h2 (i, g)).toArray 30 :: _) w1 := hs)
      | (refine wpl_load_agg (cs := h2 (i, g)) (b := g3) (o := 0) rfl aggH (sizeH _) hs ?hh ?_; case hh => exact fun j x hx => Rd.blk (by simpa using hx))
      | (go_at_call 11; refine (state_c hs.rot HS).mono ?_; rintro e w' ⟨rfl, hg⟩; replace hs := hs.grew hg; clear hg))
    go_ret
    cases HV.out
    exact ⟨rfl, hs.drop⟩
  · skip
    have HVV : Hid (delA top cs (i, g) = (5, cs)) := by rw [Hid]; unfold delA; rw [h1]; rfl
    rw [HVV.out] at HV
    have HS := Lib.hid h1
    clear h1
    go_enter Tryd.func10, Tryd.ntmps10
    go_wp2_with (first
      | (refine wpl_box_v (v := hv (i, g)) rfl hs ?_; clear hs; intro g3 w1 hs; replace hs : St w0 (blk g3 (h2 (i, g)).toArray 30 :: _) w1 := hs)
      | (refine wpl_load_agg (cs := h2 (i, g)) (b := g3) (o := 0) rfl aggH (sizeH _) hs ?hh ?_; case hh => exact fun j x hx => Rd.blk (by simpa using hx))
      | (go_at_call 11; refine (state_c hs.rot HS).mono ?_; rintro e w' ⟨rfl, hg⟩; replace hs := hs.grew hg; clear hg))
    go_ret
    cases HV.out
    exact ⟨rfl, hs.drop⟩
  · obtain ⟨k, hik, hk, hgk, hsk⟩ := stV_one h1
    simp only at hik hgk
    subst hik
    have HS := Lib.hid h1
    have hok := hs.alopen.1
    have hgb := hok.gen0 k hk
    have hkm : k < 16777216 := by have := hok.few; omega
    obtain ⟨s', hs'⟩ : ∃ s' : Nat, (if top ≤ g then 9 else 0) = s' := ⟨_, rfl⟩
    have HVV : delA top cs ((k : Int), g) = (0, cs.set k (s', g)) := by unfold delA; rw [h1, ← hs']; rfl
    rw [HVV] at HV
    cases HV.out
    have hok' : AlOk top (cs.set k (s', g)) := hok.set hk (by rw [← hgk]; exact hgb.1) (by rw [← hgk]; exact hgb.2) (fun h0 => by
      rw [h0] at hs'
      split at hs'
      · cases hs'
      · omega)
    have HM : Hid (memS (idxS 1 cs) (k : Int) = true) := memS_nat' (mem_idxS.2 ⟨hk, hsk⟩)
    have HE : Hid (errN (k : Int) = 0) := errN_le hkm
    have hs1 : s' ≠ 1 := by rw [← hs']; split <;> decide
    have hs2 : s' ≠ 2 := by rw [← hs']; split <;> decide
    have HR : Hid (remS (idxS 1 cs) (k : Int) = idxS 1 (cs.set k (s', g))) := by rw [Hid, remS_le hkm, idxS_out hk hs1]
    have HO : Hid (idxS 2 cs = idxS 2 (cs.set k (s', g))) := by rw [Hid, idxS_off hk hs2 (by rw [hsk]; decide)]
    have HG : Hid (gensV cs = gensV (cs.set k (s', g))) := by rw [Hid, ← hgk, gensV_same hk]
    have HLn : Hid ((cs.set k (s', g)).length = cs.length) := by rw [Hid, List.length_set]
    have hrl : retA cs ≤ 65536 := by have := idx_len 9 cs; have := hok.few; unfold retA; omega
    clear h1 HVV HV
    have hgt : g ≤ 4294967295 := by have := hok.top2; rw [← hgk]; omega
    by_cases htg : top ≤ g
    · obtain rfl : 9 = s' := by rw [← hs', if_pos htg]
      have HF : Hid (idxS 0 cs = idxS 0 (cs.set k (9, g))) := by rw [Hid, idxS_off hk (by decide) (by rw [hsk]; decide)]
      have HRt : Hid (retA cs + 1 = retA (cs.set k (9, g))) := by rw [Hid]; unfold retA; rw [len_in hk (by rw [hsk]; decide)]
      generalize cs.set k (9, g) = c' at *
      clear hs' hs1 hs2 hgk hsk hgb hok
      go_enter Tryd.func10, Tryd.ntmps10
      go_upto_region 6 with (first
        | (refine wpl_box_v (v := hv ((k : Int), g)) rfl hs ?_; clear hs; intro g3 w1 hs; replace hs : St w0 (blk g3 (h2 ((k : Int), g)).toArray 30 :: _) w1 := hs)
        | (refine wpl_load_agg (cs := h2 ((k : Int), g)) (b := g3) (o := 0) rfl aggH (sizeH _) hs ?hh ?_; case hh => exact fun j x hx => Rd.blk (by simpa using hx))
        | (go_at_call 11; refine (state_c hs.rot HS).mono ?_; rintro e w' ⟨rfl, hg⟩; replace hs := hs.grew hg; clear hg))
      obtain ⟨_, TF, TL, TR, G, cap, hs⟩ := hs.rot.alopen
      have hsN := hs.up5.only2
      refine wp_region_plain [false, false, false, false, false, false, false, true] hsN (by kernel_rfl) (by kernel_rfl) fun hne => ?_
      have g0 := (Rd.blk (w0 := w0) (g := g3) (k := 0) (cs := (h2 ((k : Int), g)).toArray) (v := .int .i64 (k : Int)) (t := 30) (L := [blk D (alC TF TL TR top G cs.length cap (retA cs)).toArray 63]) (by rfl)).alln
      have g1 := ((Rd.blk (w0 := w0) (g := D) (k := 1) (cs := (alC TF TL TR top G cs.length cap (retA cs)).toArray) (v := .pointer (some ⟨TL, 0, none⟩)) (t := 63) (L := []) (by rfl)).tail (p := blk g3 (h2 ((k : Int), g)).toArray 30)).alln
      simp only [pickOps]
      repeat (go_big_quiet_step (fail))
      refine wpQuiet_nil ?_
      clear hne g0 g1
      simp only [chainIx]
      refine wpChain_last rfl ?_
      replace hs := hs.drew
      clear hsN
      go_upto_region 7 with (first
        | (go_at_call 32; refine (remove_v hs.up2 HM HE HR).mono ?_; clear hs; rintro e w' ⟨rfl, hs⟩; replace hs := hs.dn2))
      obtain ⟨_, _, _, d3, _, _⟩ := alRd hs
      have f1 : World.cell? _ ⟨g3, 1, none⟩ = some (.int .i64 g) := Rd.blk (by rfl) _ hs.up5
      refine wp_region_grow (by kernel_rfl) (by kernel_rfl) fun hne => ?_
      have g0 := fun p : GW _ => p.grew.cell f1
      have g1 := fun p : GW _ => p.grew.cell d3
      repeat (go_big_quiet_step (fail))
      refine wpQuiet_nil ?_
      clear hne g0 g1 f1 d3
      intro u hu
      replace hs := hs.grew hu
      clear hu
      obtain ⟨d0, d1, d2, d3, d4, d5⟩ := alRd hs
      go_wp2_with (first
        | (refine wpl_store (ad := ⟨D, 5, none⟩) (v := .int .i64 ((retA cs : Int) + 1)) rfl rfl rfl size_int3 hs Wr.alRet ?_; clear hs d0 d1 d2 d3 d4 d5; intro w3 hs))
      go_ret
      rw [HF.out, HO.out, HG.out, HRt.out, ← HLn.out] at hs
      exact ⟨rfl, (hs.alshut hok').rot.drop⟩
    · obtain rfl : 0 = s' := by rw [← hs', if_neg htg]
      have HA : Hid (addS (idxS 0 cs) (k : Int) = idxS 0 (cs.set k (0, g))) := by rw [Hid, addS_le hkm, idxS_in hk]
      obtain ⟨b0, HD⟩ : ∃ b, Hid ((okN (k : Int) && !memS (idxS 0 cs) (k : Int)) = b) := ⟨_, rfl⟩
      have HRt : Hid (retA cs = retA (cs.set k (0, g))) := by rw [Hid]; unfold retA; rw [idxS_off hk (by decide) (by rw [hsk]; decide)]
      generalize cs.set k (0, g) = c' at *
      clear hs' hs1 hs2 hgk hsk hgb hok
      go_enter Tryd.func10, Tryd.ntmps10
      go_upto_region 6 with (first
        | (refine wpl_box_v (v := hv ((k : Int), g)) rfl hs ?_; clear hs; intro g3 w1 hs; replace hs : St w0 (blk g3 (h2 ((k : Int), g)).toArray 30 :: _) w1 := hs)
        | (refine wpl_load_agg (cs := h2 ((k : Int), g)) (b := g3) (o := 0) rfl aggH (sizeH _) hs ?hh ?_; case hh => exact fun j x hx => Rd.blk (by simpa using hx))
        | (go_at_call 11; refine (state_c hs.rot HS).mono ?_; rintro e w' ⟨rfl, hg⟩; replace hs := hs.grew hg; clear hg))
      obtain ⟨_, TF, TL, TR, G, cap, hs⟩ := hs.rot.alopen
      have hsN := hs.up5.only2
      refine wp_region_plain [false, false, false, false, false, false, false, true] hsN (by kernel_rfl) (by kernel_rfl) fun hne => ?_
      have g0 := (Rd.blk (w0 := w0) (g := g3) (k := 0) (cs := (h2 ((k : Int), g)).toArray) (v := .int .i64 (k : Int)) (t := 30) (L := [blk D (alC TF TL TR top G cs.length cap (retA cs)).toArray 63]) (by rfl)).alln
      have g1 := ((Rd.blk (w0 := w0) (g := D) (k := 1) (cs := (alC TF TL TR top G cs.length cap (retA cs)).toArray) (v := .pointer (some ⟨TL, 0, none⟩)) (t := 63) (L := []) (by rfl)).tail (p := blk g3 (h2 ((k : Int), g)).toArray 30)).alln
      simp only [pickOps]
      repeat (go_big_quiet_step (fail))
      refine wpQuiet_nil ?_
      clear hne g0 g1
      simp only [chainIx]
      refine wpChain_last rfl ?_
      replace hs := hs.drew
      clear hsN
      go_upto_region 7 with (first
        | (go_at_call 32; refine (remove_v hs.up2 HM HE HR).mono ?_; clear hs; rintro e w' ⟨rfl, hs⟩; replace hs := hs.dn2))
      obtain ⟨_, _, _, d3, _, _⟩ := alRd hs
      have f1 : World.cell? _ ⟨g3, 1, none⟩ = some (.int .i64 g) := Rd.blk (by rfl) _ hs.up5
      refine wp_region_grow (by kernel_rfl) (by kernel_rfl) fun hne => ?_
      have g0 := fun p : GW _ => p.grew.cell f1
      have g1 := fun p : GW _ => p.grew.cell d3
      repeat (go_big_quiet_step (fail))
      refine wpQuiet_nil ?_
      clear hne g0 g1 f1 d3
      intro u hu
      replace hs := hs.grew hu
      clear hu
      go_upto_region 9 with (fail)
      have hsN := hs.up5.only2
      refine wp_region_plain [false, false, false, false, false, false, false, true] hsN (by kernel_rfl) (by kernel_rfl) fun hne => ?_
      have g0 := (Rd.blk (w0 := w0) (g := g3) (k := 0) (cs := (h2 ((k : Int), g)).toArray) (v := .int .i64 (k : Int)) (t := 30) (L := [blk D (alC TF TL TR top G cs.length cap (retA cs)).toArray 63]) (by rfl)).alln
      have g1 := ((Rd.blk (w0 := w0) (g := D) (k := 0) (cs := (alC TF TL TR top G cs.length cap (retA cs)).toArray) (v := .pointer (some ⟨TF, 0, none⟩)) (t := 63) (L := []) (by rfl)).tail (p := blk g3 (h2 ((k : Int), g)).toArray 30)).alln
      simp only [pickOps]
      repeat (go_big_quiet_step (fail))
      refine wpQuiet_nil ?_
      clear hne g0 g1
      simp only [chainIx]
      refine wpChain_last rfl ?_
      replace hs := hs.drew
      clear hsN
      go_wp2_with (first
        | (go_at_call 30; refine (add_v hs.rot HD HE HA).mono ?_; clear hs; rintro e w' ⟨rfl, hs⟩; replace hs := hs.rot))
      go_ret
      rw [HO.out, HG.out, HRt.out, ← HLn.out] at hs
      exact ⟨rfl, (hs.alshut hok').rot.drop⟩
end Go.Proofs.YtkcbjkadalebjaaDoor
