/-
  The document's Alloc (vivariumref5): its memory; Of, May.
-/
import Derived.Test.YtkcbjkadalebjaaDoorAlOn2
set_option maxRecDepth 100000
namespace Go.Proofs.YtkcbjkadalebjaaDoor
open Go Go.RowKit
attribute [local irreducible] wpList Calls Code.wp

/-! ### Plain law: the cells that are there are the first ones; the others are free and were never made -/
def padA (n : Nat) (c : List ACell) : List ACell := c ++ List.replicate (n - c.length) (0, 0)
theorem padA_len {n : Nat} {c : List ACell} (h : c.length ≤ n) : (padA n c).length = n := by simp [padA]; omega
theorem padA_get {n i : Nat} {c : List ACell} (h : i < c.length) : (padA n c)[i]? = c[i]? := by unfold padA; rw [List.getElem?_append_left h]
theorem stA_pad {n i : Nat} {c : List ACell} (h : i < n) : stA (padA n c) i = if i < c.length then stA c i else 0 := by
  unfold stA
  rw [List.getD_eq_getElem?_getD, List.getD_eq_getElem?_getD]
  split
  · rename_i h1; rw [padA_get h1]
  · rename_i h1
    unfold padA
    rw [List.getElem?_append_right (by omega), List.getElem?_replicate, if_pos (by omega)]
    rfl
theorem gnA_pad {n i : Nat} {c : List ACell} (h : i < n) : gnA (padA n c) i = if i < c.length then gnA c i else 0 := by
  unfold gnA
  rw [List.getD_eq_getElem?_getD, List.getD_eq_getElem?_getD]
  split
  · rename_i h1; rw [padA_get h1]
  · rename_i h1
    unfold padA
    rw [List.getElem?_append_right (by omega), List.getElem?_replicate, if_pos (by omega)]
    rfl
theorem padA_set {n i : Nat} {c : List ACell} {x : ACell} (h : i < c.length) : padA n (c.set i x) = (padA n c).set i x := by
  unfold padA
  rw [List.length_set, List.set_append_left _ _ h]
theorem padA_more {n : Nat} {c : List ACell} (h : c.length < n) : padA n (c ++ [(0, 0)]) = padA n c := by
  unfold padA
  rw [List.length_append, List.append_assoc]
  congr 1
  have : n - c.length = (n - (c.length + 1)) + 1 := by omega
  rw [this, List.replicate_succ]
  rfl
theorem padA_nil (n : Nat) : padA n [] = newA n := by simp [padA, newA]
/-- What is true of the document's. -/
structure RaOk (n : Nat) (top : Int) (c : List ACell) : Prop where
  fits : c.length ≤ n
  few : n ≤ 65536
  top2 : top ≤ 4294967295
  gen : ∀ i, i < c.length → 0 ≤ gnA c i ∧ gnA c i ≤ top
  st : ∀ i, i < c.length → stA c i = 0 ∨ stA c i = 1 ∨ stA c i = 2 ∨ stA c i = 9
  free : ∀ i, i < c.length → stA c i = 0 → gnA c i < top
  top1 : 1 ≤ top
def stsV (c : List ACell) : List Value := c.map fun x => Value.int .i64 (x.1 : Nat)
theorem stsV_len (c : List ACell) : (stsV c).length = c.length := by simp [stsV]
theorem stsV_get {c : List ACell} {i : Nat} (h : i < c.length) : (stsV c)[i]? = some (.int .i64 (stA c i : Nat)) := by simp [stsV, stA, h]
theorem stsV_set {c : List ACell} {i s : Nat} {g : Int} : (stsV c).set i (.int .i64 (s : Nat)) = stsV (c.set i (s, g)) := by
  unfold stsV
  rw [List.map_set]
theorem gensV_same' {c : List ACell} {k s : Nat} (hk : k < c.length) : gensV (c.set k (s, gnA c k)) = gensV c := gensV_same hk
def raC (n : Nat) (top : Int) (A : Option Addr) (m capA : Nat) (B : Option Addr) (capB : Nat) : List Value := [.int .i64 (n : Nat), .int .i64 top, .slice A m capA, .slice B m capB]
def RaB (E n : Nat) (top : Int) (c : List ACell) : As := fun h => ∃ A capA B capB, RaOk n top c ∧
  big [blk E (raC n top A c.length capA B capB).toArray 73, own A c.length capA 2 1 (gensV c), own B c.length capB 3 1 (stsV c)] h
theorem St.raopen {w0 w : World} {E n : Nat} {top : Int} {c : List ACell} {L : List As} (hs : St w0 (RaB E n top c :: L) w) : RaOk n top c ∧ ∃ A capA B capB,
    St w0 (YtkcbjkadalebjaaDoor.blk E (raC n top A c.length capA B capB).toArray 73 :: YtkcbjkadalebjaaDoor.own A c.length capA 2 1 (gensV c) :: YtkcbjkadalebjaaDoor.own B c.length capB 3 1 (stsV c) :: L) w := by
  obtain ⟨hb, x, r, hd, hx, y, z, hyz, e, ⟨A, capA, B, capB, hok, hh⟩, hz⟩ := hs
  refine ⟨hok, A, capA, B, capB, ?_⟩
  have h1 : St w0 (big [YtkcbjkadalebjaaDoor.blk E (raC n top A c.length capA B capB).toArray 73, YtkcbjkadalebjaaDoor.own A c.length capA 2 1 (gensV c), YtkcbjkadalebjaaDoor.own B c.length capB 3 1 (stsV c)] :: L) w := ⟨hb, x, r, hd, hx, y, z, hyz, e, hh, hz⟩
  exact h1.ent (Ent.flat _ L)
theorem St.rashut {w0 w : World} {E n m capA capB : Nat} {A B : Option Addr} {top : Int} {c : List ACell} {L : List As} (hok : RaOk n top c) (hm : c.length = m)
    (hs : St w0 (YtkcbjkadalebjaaDoor.blk E (raC n top A m capA B capB).toArray 73 :: YtkcbjkadalebjaaDoor.own A m capA 2 1 (gensV c) :: YtkcbjkadalebjaaDoor.own B m capB 3 1 (stsV c) :: L) w) : St w0 (RaB E n top c :: L) w := by
  subst hm
  exact (hs.ent (Ent.unflat [_, _, _] L)).conv fun _ h => ⟨A, capA, B, capB, hok, h⟩
theorem raRd {w0 w : World} {E n m capA capB : Nat} {A B : Option Addr} {top : Int} {t : TypeId} {L : List As} (hs : St w0 (blk E (raC n top A m capA B capB).toArray t :: L) w) :
    w.cell? ⟨E, 0, none⟩ = some (.int .i64 (n : Nat)) ∧ w.cell? ⟨E, 1, none⟩ = some (.int .i64 top) ∧ w.cell? ⟨E, 2, none⟩ = some (.slice A m capA) ∧ w.cell? ⟨E, 3, none⟩ = some (.slice B m capB) :=
  ⟨Rd.blk (by rfl) w hs, Rd.blk (by rfl) w hs, Rd.blk (by rfl) w hs, Rd.blk (by rfl) w hs⟩
/-- Of over the first cells is State over all. -/
theorem of_pad {n : Nat} {c : List ACell} {h : Hdl} (hf : c.length ≤ n) : stV (padA n c) h = stV c h := by
  obtain ⟨i, g⟩ := h
  by_cases hi : 0 ≤ i
  · obtain ⟨k, rfl⟩ := Int.eq_ofNat_of_zero_le hi
    by_cases hk : k < c.length
    · by_cases hg : gnA c k = g
      · rw [stV_in (by rw [padA_len hf]; omega) (by rw [gnA_pad (by omega), if_pos hk]; exact hg), stV_in hk hg, stA_pad (by omega), if_pos hk]
      · rw [stV_gen hg, stV_gen (by rw [gnA_pad (by omega), if_pos hk]; exact hg)]
    · rw [stV_out (cs := c) (by simp only; omega)]
      by_cases hkn : k < n
      · by_cases hg : g = 0
        · rw [stV_in (by rw [padA_len hf]; omega) (by rw [gnA_pad hkn, if_neg hk, hg]), stA_pad hkn, if_neg hk]; rfl
        · rw [stV_gen (by rw [gnA_pad hkn, if_neg hk]; exact fun e => hg e.symm)]
      · exact stV_out (by simp only [padA_len hf]; omega)
  · rw [stV_out (by simp only; omega), stV_out (by simp only; omega)]
attribute [local irreducible] idxS addS okN memS remS errN insS delS nextS stA gnA stV atA hsV mergeA giveV delA newA bsV padA
set_option maxHeartbeats 1000000 in
theorem of_c {w0 w : World} {L : List As} {E n : Nat} {top : Int} {c : List ACell} (hs : St w0 (RaB E n top c :: L) w) {h : Hdl} {v : Int} (HV : Hid (stV c h = v)) :
    Calls Tryd.prog 27 #[.pointer (some ⟨E, 0, none⟩), hv h] w fun e w' => e = .returned (.int .i64 v) ∧ Grew w w' := by
  obtain ⟨hok, A, capA, B, capB, hs⟩ := hs.raopen
  obtain ⟨_, _, d2, d3⟩ := raRd hs
  have hfew : c.length ≤ 65536 := Nat.le_trans hok.fits hok.few
  obtain ⟨i, g⟩ := h
  by_cases ho : 0 ≤ i ∧ i < c.length
  · obtain ⟨h0, h1⟩ := ho
    obtain ⟨k, rfl⟩ := Int.eq_ofNat_of_zero_le h0
    have hk : k < c.length := by omega
    obtain ⟨gA, rfl⟩ := hs.rot.own_at (by omega)
    obtain ⟨gB, rfl⟩ := hs.up2.own_at (by omega)
    have dg := Rd.own (gensV_get hk) _ hs.rot
    have ds := Rd.own (stsV_get hk) _ hs.up2
    have hn1 := hs.rot.own_len
    have hn2 := hs.up2.own_len
    by_cases hgg : gnA c k = g
    · have HVV : Hid (v = if stA c k = 1 then 1 else if stA c k = 2 then 2 else 0) := by rw [Hid, ← HV.out]; exact stV_in hk hgg
      rw [hgg] at dg
      generalize stA c k = s at ds HVV
      clear HV hgg h0 h1
      generalize c.length = m at *
      clear hok
      go_enter Tryd.func27, Tryd.ntmps27
      go_upto_region 1 with (first
        | (refine wpl_box_v (v := hv ((k : Int), g)) rfl (St.start w) ?_; intro g3 w1 hw; replace hw : St w [blk g3 (h2 ((k : Int), g)).toArray 30] w1 := hw))
      have f0 : w1.cell? ⟨g3, 0, none⟩ = some (.int .i64 (k : Int)) := Rd.blk (L := []) (by rfl) _ hw
      have f1 : w1.cell? ⟨g3, 1, none⟩ = some (.int .i64 g) := Rd.blk (L := []) (by rfl) _ hw
      replace d2 := hw.made_grew.cell d2
      replace d3 := hw.made_grew.cell d3
      replace dg := hw.made_grew.cell dg
      replace ds := hw.made_grew.cell ds
      replace hw := hw.made_grew
      refine wp_region_grow (by kernel_rfl) (by kernel_rfl) fun hne => ?_
      have g0 := fun p : GW _ => p.grew.cell f0
      have g1 := fun p : GW _ => p.grew.cell f1
      have g4 := fun p : GW _ => p.grew.cell d2
      have g5 := fun p : GW _ => p.grew.cell d3
      have gg := fun p : GW _ => p.grew.cell dg
      have e1 : decide ((k : Int) < 0) = false := decide_eq_false (by omega)
      have e2 : decide (m ≤ k) = false := decide_eq_false (by omega)
      repeat (go_big_quiet_step (fail))
      refine wpQuiet_nil ?_
      clear hne g0 g1 g4 g5 gg e1 e2
      intro u hu
      replace hw := hw.trans hu
      replace d3 := hu.cell d3
      replace f0 := hu.cell f0
      replace ds := hu.cell ds
      clear hu
      go_upto_region 3 with (fail)
      refine wp_region_grow (by kernel_rfl) (by kernel_rfl) fun hne => ?_
      have g0 := fun p : GW _ => p.grew.cell f0
      have g1 := fun p : GW _ => p.grew.cell d3
      have g2 := fun p : GW _ => p.grew.cell ds
      repeat (go_big_quiet_step (fail))
      refine wpQuiet_nil ?_
      clear hne g0 g1 g2
      intro u2 hu
      replace hw := hw.trans hu
      clear hu
      by_cases hs1 : s = 1
      · subst hs1
        go_wp2
        go_ret
        exact ⟨by rw [HVV.out]; rfl, hw⟩
      · by_cases hs2 : s = 2
        · subst hs2
          go_wp2
          go_ret
          exact ⟨by rw [HVV.out]; rfl, hw⟩
        · have HV0 : Hid (v = 0) := by rw [Hid, HVV.out, if_neg hs1, if_neg hs2]
          have e1 : ((s : Int) == 1) = false := by simp; omega
          have e2 : ((s : Int) == 2) = false := by simp; omega
          clear HVV
          go_wp2
          go_ret
          exact ⟨by rw [HV0.out]; rfl, hw⟩
    · have HVV : Hid (v = 0) := by rw [Hid, ← HV.out]; exact stV_gen hgg
      generalize gnA c k = g' at *
      clear HV h0 h1
      generalize c.length = m at *
      clear hok
      go_enter Tryd.func27, Tryd.ntmps27
      go_upto_region 1 with (first
        | (refine wpl_box_v (v := hv ((k : Int), g)) rfl (St.start w) ?_; intro g3 w1 hw; replace hw : St w [blk g3 (h2 ((k : Int), g)).toArray 30] w1 := hw))
      have f0 : w1.cell? ⟨g3, 0, none⟩ = some (.int .i64 (k : Int)) := Rd.blk (L := []) (by rfl) _ hw
      have f1 : w1.cell? ⟨g3, 1, none⟩ = some (.int .i64 g) := Rd.blk (L := []) (by rfl) _ hw
      replace d2 := hw.made_grew.cell d2
      replace d3 := hw.made_grew.cell d3
      replace dg := hw.made_grew.cell dg
      replace hw := hw.made_grew
      refine wp_region_grow (by kernel_rfl) (by kernel_rfl) fun hne => ?_
      have g0 := fun p : GW _ => p.grew.cell f0
      have g1 := fun p : GW _ => p.grew.cell f1
      have g4 := fun p : GW _ => p.grew.cell d2
      have g5 := fun p : GW _ => p.grew.cell d3
      have gg := fun p : GW _ => p.grew.cell dg
      have e1 : decide ((k : Int) < 0) = false := decide_eq_false (by omega)
      have e2 : decide (m ≤ k) = false := decide_eq_false (by omega)
      have e3 : (g' != g) = true := by simpa using hgg
      repeat (go_big_quiet_step (fail))
      refine wpQuiet_nil ?_
      clear hne g0 g1 g4 g5 gg e1 e2 e3
      intro u hu
      replace hw := hw.trans hu
      clear hu
      go_wp2
      go_ret
      exact ⟨by rw [HVV.out]; rfl, hw⟩
  · have HVV : Hid (v = 0) := by rw [Hid, ← HV.out]; exact stV_out ho
    clear HV
    generalize c.length = m at *
    clear hok
    by_cases hi : i < 0
    · clear ho
      go_enter Tryd.func27, Tryd.ntmps27
      go_upto_region 1 with (first
        | (refine wpl_box_v (v := hv (i, g)) rfl (St.start w) ?_; intro g3 w1 hw; replace hw : St w [blk g3 (h2 (i, g)).toArray 30] w1 := hw))
      have f0 : w1.cell? ⟨g3, 0, none⟩ = some (.int .i64 i) := Rd.blk (L := []) (by rfl) _ hw
      have f1 : w1.cell? ⟨g3, 1, none⟩ = some (.int .i64 g) := Rd.blk (L := []) (by rfl) _ hw
      replace d3 := hw.made_grew.cell d3
      replace hw := hw.made_grew
      refine wp_region_grow (by kernel_rfl) (by kernel_rfl) fun hne => ?_
      have g0 := fun p : GW _ => p.grew.cell f0
      have g1 := fun p : GW _ => p.grew.cell f1
      have g4 := fun p : GW _ => p.grew.cell d3
      have e1 : decide (i < 0) = true := decide_eq_true (by omega)
      repeat (go_big_quiet_step (fail))
      refine wpQuiet_nil ?_
      clear hne g0 g1 g4 e1
      intro u hu
      replace hw := hw.trans hu
      clear hu
      go_wp2
      go_ret
      exact ⟨by rw [HVV.out]; rfl, hw⟩
    · have hni : (m : Int) ≤ i := by omega
      clear ho
      go_enter Tryd.func27, Tryd.ntmps27
      go_upto_region 1 with (first
        | (refine wpl_box_v (v := hv (i, g)) rfl (St.start w) ?_; intro g3 w1 hw; replace hw : St w [blk g3 (h2 (i, g)).toArray 30] w1 := hw))
      have f0 : w1.cell? ⟨g3, 0, none⟩ = some (.int .i64 i) := Rd.blk (L := []) (by rfl) _ hw
      have f1 : w1.cell? ⟨g3, 1, none⟩ = some (.int .i64 g) := Rd.blk (L := []) (by rfl) _ hw
      replace d3 := hw.made_grew.cell d3
      replace hw := hw.made_grew
      refine wp_region_grow (by kernel_rfl) (by kernel_rfl) fun hne => ?_
      have g0 := fun p : GW _ => p.grew.cell f0
      have g1 := fun p : GW _ => p.grew.cell f1
      have g4 := fun p : GW _ => p.grew.cell d3
      have e1 : decide (i < 0) = false := decide_eq_false (by omega)
      have e2 : decide ((m : Int) ≤ i) = true := decide_eq_true (by omega)
      repeat (go_big_quiet_step (fail))
      refine wpQuiet_nil ?_
      clear hne g0 g1 g4 e1 e2
      intro u hu
      replace hw := hw.trans hu
      clear hu
      go_wp2
      go_ret
      exact ⟨by rw [HVV.out]; rfl, hw⟩
/-- May: 0, or the error of a handle that is not live. -/
def mayR (v : Int) : Int := if v = 0 then 4 else if v = 2 then 5 else 0
set_option maxHeartbeats 1000000 in
theorem may_c {w0 w : World} {L : List As} {E n : Nat} {top : Int} {c : List ACell} (hs : St w0 (RaB E n top c :: L) w) {h : Hdl} :
    Calls Tryd.prog 39 #[.pointer (some ⟨E, 0, none⟩), hv h] w fun e w' => e = .returned (.int .i64 (mayR (stV c h))) ∧ Grew w w' := by
  obtain ⟨i, g⟩ := h
  rcases stV_cases c (i, g) with h1 | h1 | h1
  · skip
    have HS := Lib.hid h1
    rw [h1]
    clear h1
    go_enter Tryd.func39, Tryd.ntmps39
    go_wp2_with (first
      | (refine wpl_box_v (v := hv (i, g)) rfl (St.start w) ?_; intro g3 w1 hw; replace hw : St w [blk g3 (h2 (i, g)).toArray 30] w1 := hw)
      | (refine wpl_load_agg (cs := h2 (i, g)) (b := g3) (o := 0) rfl aggH (sizeH _) hw ?hh ?_; case hh => exact fun j x hx => Rd.blk (by simpa using hx))
      | (go_at_call 27; refine (of_c (hs.grew hw.made_grew) HS).mono ?_; rintro e w' ⟨rfl, hg⟩; replace hw := hw.grew hg; clear hg))
    go_ret
    exact ⟨rfl, hw.made_grew⟩
  · skip
    have HS := Lib.hid h1
    rw [h1]
    clear h1
    go_enter Tryd.func39, Tryd.ntmps39
    go_wp2_with (first
      | (refine wpl_box_v (v := hv (i, g)) rfl (St.start w) ?_; intro g3 w1 hw; replace hw : St w [blk g3 (h2 (i, g)).toArray 30] w1 := hw)
      | (refine wpl_load_agg (cs := h2 (i, g)) (b := g3) (o := 0) rfl aggH (sizeH _) hw ?hh ?_; case hh => exact fun j x hx => Rd.blk (by simpa using hx))
      | (go_at_call 27; refine (of_c (hs.grew hw.made_grew) HS).mono ?_; rintro e w' ⟨rfl, hg⟩; replace hw := hw.grew hg; clear hg))
    go_ret
    exact ⟨rfl, hw.made_grew⟩
  · skip
    have HS := Lib.hid h1
    rw [h1]
    clear h1
    go_enter Tryd.func39, Tryd.ntmps39
    go_wp2_with (first
      | (refine wpl_box_v (v := hv (i, g)) rfl (St.start w) ?_; intro g3 w1 hw; replace hw : St w [blk g3 (h2 (i, g)).toArray 30] w1 := hw)
      | (refine wpl_load_agg (cs := h2 (i, g)) (b := g3) (o := 0) rfl aggH (sizeH _) hw ?hh ?_; case hh => exact fun j x hx => Rd.blk (by simpa using hx))
      | (go_at_call 27; refine (of_c (hs.grew hw.made_grew) HS).mono ?_; rintro e w' ⟨rfl, hg⟩; replace hw := hw.grew hg; clear hg))
    go_ret
    exact ⟨rfl, hw.made_grew⟩
end Go.Proofs.YtkcbjkadalebjaaDoor
