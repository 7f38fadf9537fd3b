/-
  Expressions (expr.Arena), 12: Load.
-/
import Derived.Test.YtkcbjkadalebjaaEx11
set_option maxRecDepth 100000
namespace Go.Proofs.Ytkcbjkadalebjaa
open Go Go.RowKit
attribute [local irreducible] wpList Calls Code.wp

def toE (x : RNode) : NodeE := ⟨x.k.toNat, x.kids.map Int.toNat⟩
/-- What a node without fault is. -/
theorem nodeErr_ok {x : RNode} {i : Nat} {m : Nat} (h : nodeErr x i (m : Int) = 0) : 1 ≤ x.k ∧ x.k ≤ 5 ∧ x.kids.length ≤ 64 ∧ (x.k = 1 → ∃ s : Nat, x.kids = [(s : Int)] ∧ s < m) ∧ (x.k = 5 → x.kids.length = 1) ∧ (x.k ≠ 1 → ∀ y ∈ x.kids, 0 ≤ y ∧ y < i) := by
  unfold nodeErr at h
  split at h
  · cases h
  · rename_i h1
    have hl : (x.k = 1 ∨ x.k = 5) → x.kids.length = 1 := fun hk => Classical.byContradiction fun hn => h1 (.inr (.inr (.inr ⟨hk, hn⟩)))
    refine ⟨by omega, by omega, by omega, fun hk => ?_, fun hk => hl (.inr hk), fun hk => ?_⟩
    · rw [if_pos hk] at h
      obtain ⟨y, hy⟩ : ∃ y, x.kids = [y] := List.length_eq_one_iff.1 (hl (.inl hk))
      rw [hy] at h
      split at h
      · cases h
      · rename_i h2
        simp only [List.headD_cons] at h2
        obtain ⟨s, rfl⟩ := Int.eq_ofNat_of_zero_le (show 0 ≤ y by omega)
        exact ⟨s, hy, by omega⟩
    · rw [if_neg hk] at h
      split at h
      · cases h
      · rename_i h2
        intro y hy
        have h3 : x.kids.any (bad i) = false := by simpa using h2
        have := List.any_eq_false.1 h3 y hy
        simp [bad] at this
        omega
theorem nodesErr_all {m : Nat} : ∀ {xs : List RNode} {j : Nat}, nodesErr (m : Int) xs j = 0 → ∀ i x, xs[i]? = some x → nodeErr x (j + i) (m : Int) = 0
  | [], _, _, i, x, hx => by simp at hx
  | y :: xs, j, h, i, x, hx => by
    have h' : (if nodeErr y j (m : Int) ≠ 0 then nodeErr y j (m : Int) else nodesErr (m : Int) xs (j + 1)) = 0 := h
    split at h'
    · rename_i h1; exact absurd h' h1
    · rename_i h1
      cases i with
      | zero =>
        simp at hx
        subst hx
        exact Classical.byContradiction fun h2 => h1 h2
      | succ i =>
        have := nodesErr_all h' i x (by simpa using hx)
        rwa [show j + 1 + i = j + (i + 1) by omega] at this
theorem toR_toE {x : RNode} (h0 : 0 ≤ x.k) (h : ∀ y ∈ x.kids, 0 ≤ y) : toR (toE x) = x := by
  obtain ⟨k, kids⟩ := x
  unfold toR toE kI
  simp only
  rw [nat_ints h, Int.toNat_of_nonneg h0]
/-- Nodes without fault. -/
structure LoadOk (xs : List RNode) (m : Nat) : Prop where
  ok : ArOk (xs.map toE) m
  back : ∀ x ∈ xs, toR (toE x) = x
theorem checkV_ok {xs : List RNode} {m : Nat} (h : checkV xs (m : Int) = 0) : LoadOk xs m := by
  unfold checkV at h
  split at h
  · cases h
  · rename_i hl
    have hall := nodesErr_all h
    have hx : ∀ (i : Nat) (x : RNode), xs[i]? = some x → nodeErr x i (m : Int) = 0 := fun i x hx => by have := hall i x hx; rwa [Nat.zero_add] at this
    have hpos : ∀ (i : Nat) (x : RNode), xs[i]? = some x → ∀ y ∈ x.kids, 0 ≤ y := fun i x hi y hy => by
      obtain ⟨h1, h2, h3, h4, h5, h6⟩ := nodeErr_ok (hx i x hi)
      by_cases hk : x.k = 1
      · obtain ⟨s, hs, _⟩ := h4 hk
        rw [hs, List.mem_singleton] at hy
        omega
      · exact (h6 hk y hy).1
    have get : ∀ (i : Nat) (e : NodeE), (xs.map toE)[i]? = some e → ∃ x, xs[i]? = some x ∧ toE x = e := fun i e he => by
      rw [List.getElem?_map] at he
      cases hh : xs[i]? with
      | none => rw [hh] at he; cases he
      | some x => rw [hh] at he; exact ⟨x, rfl, by simpa using he⟩
    refine ⟨⟨by rw [List.length_map]; omega, fun i e he => ?_, fun i e he hk => ?_, fun i e he hk => ?_, fun i e he hk y hy => ?_⟩, fun x hxm => ?_⟩
    · obtain ⟨x, hi, rfl⟩ := get i e he
      obtain ⟨h1, h2, h3, _⟩ := nodeErr_ok (hx i x hi)
      refine ⟨?_, ?_, ?_⟩
      · show 1 ≤ x.k.toNat; omega
      · show x.k.toNat ≤ 5; omega
      · show (x.kids.map Int.toNat).length ≤ 64; rw [List.length_map]; exact h3
    · obtain ⟨x, hi, rfl⟩ := get i e he
      obtain ⟨h1, h2, h3, h4, _⟩ := nodeErr_ok (hx i x hi)
      have hk' : x.k.toNat = 1 := hk
      obtain ⟨s, h5, h6⟩ := h4 (by omega)
      refine ⟨s, ?_, h6⟩
      show x.kids.map Int.toNat = [s]
      rw [h5]
      rfl
    · obtain ⟨x, hi, rfl⟩ := get i e he
      obtain ⟨h1, h2, h3, h4, h5, _⟩ := nodeErr_ok (hx i x hi)
      have hk' : x.k.toNat = 5 := hk
      show (x.kids.map Int.toNat).length = 1
      rw [List.length_map]
      exact h5 (by omega)
    · obtain ⟨x, hi, rfl⟩ := get i e he
      obtain ⟨h1, h2, h3, h4, h5, h6⟩ := nodeErr_ok (hx i x hi)
      have hk' : ¬ x.k.toNat = 1 := hk
      obtain ⟨z, hz, rfl⟩ := List.mem_map.1 hy
      have := h6 (by omega) z hz
      omega
    · obtain ⟨i, hi⟩ := List.mem_iff_getElem?.1 hxm
      obtain ⟨h1, _⟩ := nodeErr_ok (hx i x hi)
      exact toR_toE (by omega) (hpos i x hi)
/-- Pointers in memory. -/
def PtrsR (w : World) (S : Option Addr) (ss : List Value) : Prop := ∀ (i : Nat) (v : Value), ss[i]? = some v → ∃ b o, S = some ⟨b, o, none⟩ ∧ w.cell? ⟨b, o + i, none⟩ = some v
theorem RdS.ptrs {w : World} {S : Option Addr} {ss : List Value} {L : List As} (h : PtrsR w S ss) : RdS w L S ss := fun k u hu => by
  obtain ⟨b, o, rfl, hc⟩ := h k u hu
  exact ⟨_, rfl, rfl, Rd.old hc⟩
attribute [local irreducible] checkV
set_option maxHeartbeats 1000000 in
theorem load_no {w : World} {A S : Option Addr} {xs : List RNode} {n cap m cap2 : Nat} (hn : Hid (xs.length = n)) (hm : n ≤ 4000000000) (hv : NdV w A xs) {v : Int} (hc : Hid (checkV xs (m : Int) = v)) (hne : v ≠ 0) :
    Calls Try.prog 30 #[.slice A n cap, .slice S m cap2] w fun e w' => e = .returned (.tuple #[.pointer none, .int .i64 v]) ∧ Grew w w' := by
  have hv1 : (v == 0) = false := by simp; exact hne
  have hv2 : (v != 0) = true := by simp; exact hne
  clear hne
  go_enter Try.func30, Try.ntmps30
  go_wp2_with (first
    | (go_at_call 26; refine (chk_c hn hm hv hc).mono ?_; rintro e w' ⟨rfl, hg⟩))
  go_ret2
  exact ⟨rfl, hg⟩
set_option maxHeartbeats 2000000 in
theorem load_c {w : World} {A S : Option Addr} {xs : List RNode} {ss : List Value} {n cap m cap2 : Nat} (hn : Hid (xs.length = n)) (hm : n ≤ 4000000000) (hv : NdV w A xs) (hc : Hid (checkV xs (m : Int) = 0)) (hp : PtrsR w S ss) (hss : Hid (ss.length = m)) (hm2 : m ≤ 1000000) (h1 : ∀ v ∈ ss, v.oneCell' = true) :
    Calls Try.prog 30 #[.slice A n cap, .slice S m cap2] w fun e w' => ∃ D, e = .returned (.tuple #[ptr D, .int .i64 0]) ∧ St w [ExB D (xs.map toE) ss] w' := by
  have HV := Lib.hid hv
  have hw := St.start w
  have HL := Lib.hid (checkV_ok hc.out)
  have hfew : n ≤ 1000 := by have := HL.out.ok.few; rw [List.length_map, hn.out] at this; exact this
  go_enter Try.func30, Try.ntmps30
  go_wp2_with (first
    | (go_at_call 26; refine (chk_c hn hm hv hc).mono ?_; rintro e w' ⟨rfl, hg⟩; replace hw := hw.grew hg; clear hg hv)
    | (go_at_call 12; refine (exnew_c hw).mono ?_; clear hw; rintro e w' ⟨D, rfl, hw⟩; obtain ⟨rs, N, capN, P, capP, hrs, hw⟩ := hw.exopen; obtain rfl : rs = [] := List.map_eq_nil_iff.1 hrs; clear hrs; obtain ⟨d0, d1⟩ := exRd hw)
    | (refine wpl_append (A := P) (n := 0) (m := m) (news := ss) elemP rfl rfl hw (Ent.skip (Ent.skip (Ent.refl _))) (RdS.ptrs hp) (by rw [hss.out, Nat.mul_one]) h1 (by unfold maxLen; omega) (by omega) ?_; clear hw; intro P2 capP2 w2 hw; rw [Nat.zero_add, List.nil_append] at hw)
    | (refine wpl_store (v := .slice P2 m capP2) rfl rfl rfl size_slP hw.rot (Wr.blk (by simp [exC])) ?_; clear hw; intro w2 hw))
  have hs : St w [ExB D ((xs.take 0).map toE) ss] w2 := by
    replace hw : St w (Ytkcbjkadalebjaa.blk D (exC N P2 0 capN m capP2).toArray 62 :: own P2 m capP2 27 1 ss :: own N 0 capN 38 2 [] :: []) w2 := hw
    have := Ent.exshut (D := D) (n := 0) (m := m) (cap := capN) (cap2 := capP2) (N := N) (P := P2) (rs := []) (l := []) (ss := ss) (L := []) rfl rfl hss.out.symm
    exact (hw.up2.rot).ent this
  clear hw d0 d1
  go_loopw [29] (fun cv wr => ∃ i : Nat, i ≤ n ∧ cv = .int .i64 (i : Nat) ∧ St w [ExB D ((xs.take i).map toE) ss] wr) (fun cv _ => n - (intOf cv).toNat)
  case atStart => exact ⟨0, Nat.zero_le _, rfl, hs⟩
  case round =>
    clear hs
    obtain ⟨i, hi, rfl, hs⟩ := hrel
    by_cases hlt : i < n
    · obtain ⟨x, hx⟩ : ∃ x, xs[i]? = some x := ⟨_, List.getElem?_eq_getElem (by rw [hn.out]; exact hlt)⟩
      obtain ⟨g, o, B, bc, rfl, x1, x2, x3, x4, x5⟩ := HV.out.row i x hx
      have hb := HL.out.back x (List.mem_of_getElem? hx)
      have HT : Hid ((xs.take (i + 1)).map toE = (xs.take i).map toE ++ [toE x]) := by
        obtain ⟨hi', rfl⟩ := List.getElem?_eq_some_iff.1 hx
        rw [Hid, List.take_succ_eq_append_getElem hi', List.map_append]
        rfl
      have HLi : Hid (((xs.take i).map toE).length = i) := by rw [Hid, List.length_map, List.length_take, hn.out]; omega
      have HX3 := Lib.hid x3
      have HB := Lib.hid x5
      have hk64 := HL.out.ok.kids64 (toE x) (List.mem_map.2 ⟨x, List.mem_of_getElem? hx, rfl⟩)
      have hkn : (x.k.toNat : Int) = x.k := by have := congrArg RNode.k hb; exact this
      have HNa : Hid ((x.kids.map Int.toNat).map Int.ofNat = x.kids) := by have := congrArg RNode.kids hb; exact this
      obtain ⟨mk, HMK⟩ : ∃ m, Hid (x.kids.length = m) := ⟨_, rfl⟩
      have hxm : mk ≤ 64 := by rw [← HMK.out, ← List.length_map (f := Int.toNat)]; exact hk64
      obtain ⟨k, HK⟩ : ∃ k, Hid (x.k.toNat = k) := ⟨_, rfl⟩
      rw [← hkn, HK.out] at x1
      rw [HMK.out] at x2
      replace x1 := hs.made_grew.cell x1
      replace x2 := hs.made_grew.cell x2
      have HE : Hid (toE x = ⟨k, x.kids.map Int.toNat⟩) := by rw [Hid, ← HK.out]; rfl
      clear x3 x5 x4 hx hb hkn hk64
      go_upto_region 9 with (fail)
      have hw := (St.start wr).alloc #[.int .i64 (k : Nat), .slice B mk bc] 38
      generalize wr.heap.size = g9 at hw ⊢
      refine wp_gen hw ?_
      clear hw x1 x2
      intro w1 hw
      have hs2 := hs.made hw
      clear hw hs
      obtain ⟨rs, N2, capN2, P3, capP3, hrs, hs2⟩ := hs2.rot.exopen
      rw [HLi.out, hss.out] at hs2
      have HRs := Lib.hid hrs
      clear hrs
      replace hs2 := (hs2.ent (Ent.cons _ (Ent.cons _ (Ent.cons _ (Ent.comm (rs.map krA) _))))).up3
      have hsN := hs2.only2
      refine wp_region_plain [false, false, false, false, false, false, false, false, false, true, true, true, true, false, false, true] hsN (by kernel_rfl) (by kernel_rfl) fun hne => ?_
      have e0 := (Rd.blk (w0 := w) (g := g9) (k := 0) (cs := #[.int .i64 (k : Nat), .slice B mk bc]) (v := .int .i64 (k : Nat)) (t := 38) (L := [Ytkcbjkadalebjaa.blk D (exC N2 P3 i capN2 m capP3).toArray 62]) (by rfl)).alln
      have e1 := (Rd.blk (w0 := w) (g := g9) (k := 1) (cs := #[.int .i64 (k : Nat), .slice B mk bc]) (v := .slice B mk bc) (t := 38) (L := [Ytkcbjkadalebjaa.blk D (exC N2 P3 i capN2 m capP3).toArray 62]) (by rfl)).alln
      have e2 := (Rd.blk (w0 := w) (g := D) (k := 0) (cs := (exC N2 P3 i capN2 m capP3).toArray) (v := .slice N2 i capN2) (t := 62) (L := []) (by rfl)).tail (p := Ytkcbjkadalebjaa.blk g9 #[.int .i64 (k : Nat), .slice B mk bc] 38) |>.alln
      simp only [pickOps]
      repeat (go_big_quiet_step (fail))
      refine wpQuiet_nil ?_
      clear hne e0 e1 e2
      simp only [chainIx]
      replace hs2 := hs2.drew
      clear hsN
      refine wpChainP_next rfl ?_
      go_wp2_with (first
        | (go_at_call 41; refine (clone_c (fun h => ⟨by have := (HB.out h).1; rw [HMK.out] at this; exact this, (HB.out h).2⟩) HMK.out (by omega) hs2 (RdS.kids HX3.out)).mono ?_; clear hs2; rintro e w' ⟨Bn, capB, rfl, hs2⟩))
      refine ⟨(hs2.ent (Ent.step (Ent.skip (Ent.refl _)) (Ent.step (Ent.skip (Ent.refl _)) (Ent.refl _)))).only2, ?_⟩
      refine wpChainP_next rfl ?_
      refine wpl_buildS (build_nodeE _ _ _ _) rfl ?_
      refine wpList_nil ⟨rfl, (hs2.ent (Ent.step (Ent.skip (Ent.refl _)) (Ent.step (Ent.skip (Ent.refl _)) (Ent.refl _)))).only2, ?_⟩
      refine wpChainP_next rfl ?_
      refine wpl_build1 (v := .agg #[.int .i64 (k : Nat), .slice Bn mk capB]) elemN (by decide) rfl rfl hs2 ?_
      clear hs2
      intro gb w2 hs2
      replace hs2 : St w (Ytkcbjkadalebjaa.blk gb #[.int .i64 (k : Nat), .slice Bn mk capB] 38 :: _) w2 := hs2
      refine wpList_nil ⟨rfl, (hs2.ent (Ent.step (Ent.skip (Ent.skip (Ent.refl _))) (Ent.step (Ent.skip (Ent.skip (Ent.refl _))) (Ent.refl _)))).only2, ?_⟩
      refine wpChainP_next rfl ?_
      refine wpl_append (A := N2) (B := some ⟨gb, 0, none⟩) (n := i) (m := 1) (news := [.int .i64 (k : Nat), .slice Bn mk capB]) elemN rfl rfl hs2 (Ent.skip (Ent.skip (Ent.skip (Ent.skip (Ent.refl _))))) RdS.blk rfl (by intro u hu; simp at hu; rcases hu with rfl | rfl <;> rfl) (by unfold maxLen; omega) (by omega) ?_
      clear hs2
      intro N3 capN3 w3 hs2
      refine wpList_nil ⟨rfl, (hs2.ent (Ent.step (Ent.skip (Ent.skip (Ent.skip (Ent.refl _)))) (Ent.step (Ent.skip (Ent.skip (Ent.skip (Ent.refl _)))) (Ent.refl _)))).only2, ?_⟩
      refine wpChain_last rfl ?_
      replace hs2 := hs2.up4
      refine wpl_store (v := .slice N3 (i + 1) capN3) rfl rfl rfl size_slN hs2 (Wr.blk (by simp [exC])) ?_
      clear hs2
      intro w4 hs2
      replace hs2 : St w (Ytkcbjkadalebjaa.blk D (exC N3 P3 (i + 1) capN3 m capP3).toArray 62 :: _) w4 := hs2
      refine wpList_nil ⟨rfl, ?_⟩
      replace hs2 := hs2.up2.drop.up3.drop
      have hs3 : St w [ExB D ((xs.take (i + 1)).map toE) ss] w4 := by
        rw [HT.out, HE.out]
        refine ex_grown (N := N3) (P := P3) (capN := capN3) (capP := capP3) (B := Bn) (capB := capB) (m := mk) (rs := rs) HRs.out HNa.out HMK ?_
        rw [HLi.out, hss.out, List.append_nil]
        exact hs2.up2.rot
      simp only [Act.put, List.setIfInBounds_toArray, List.set_cons_succ, List.set_cons_zero]
      go_wp2
      go_roundw
      case rel => exact ⟨i + 1, by omega, by go_num, hs3⟩
      case measure => simp [intOf] <;> omega
    · have hin : i = n := by omega
      subst hin
      have hT : xs.take i = xs := List.take_of_length_le (by rw [hn.out]; exact Nat.le_refl _)
      rw [hT] at hs
      clear hT
      go_wp2
      go_ret2
      exact ⟨D, rfl, hs⟩
end Go.Proofs.Ytkcbjkadalebjaa
