/-
  Expressions (expr.Arena), 10: rows of nodes compared.
-/
import Derived.Test.YtkcbjkadalebjaaEx9
import Derived.Test.YtkcbjkadalebjaaFlat
set_option maxRecDepth 100000
namespace Go.Proofs.Ytkcbjkadalebjaa
open Go Go.RowKit
attribute [local irreducible] wpList Calls Code.wp

theorem takeI_snoc {S1 S2 : List Int} {k : Nat} {x y : Int} (h : S1.take k = S2.take k) (hx : S1[k]? = some x) (hy : S2[k]? = some y) (e : x = y) : S1.take (k + 1) = S2.take (k + 1) := by
  obtain ⟨h1, e1⟩ := List.getElem?_eq_some_iff.1 hx
  obtain ⟨h2, e2⟩ := List.getElem?_eq_some_iff.1 hy
  rw [List.take_succ_eq_append_getElem h1, List.take_succ_eq_append_getElem h2, h, e1, e2, e]
theorem rsame_i {w : World} {S1 S2 : List Int} {A B : Option Addr} {n1 n2 c1 c2 : Nat} {b : Bool} (HL1 : Hid (S1.length = n1)) (HL2 : Hid (S2.length = n2)) (hm1 : n1 ≤ 4000000000) (hr1 : KidsR w A S1) (hr2 : KidsR w B S2) (hb : Hid (decide (S1 = S2) = b)) :
    Calls Try.prog 40 #[.slice A n1 c1, .slice B n2 c2] w fun e w' => e = .returned (.bool b) ∧ Grew w w' := by
  by_cases hne : n1 = n2
  · go_enter Try.func40, Try.ntmps40
    go_wp2
    go_loopw [5] (fun iv wr => ∃ k : Nat, k ≤ n1 ∧ iv = .int .i64 (k : Nat) ∧ Hid (S1.take k = S2.take k) ∧ Grew w wr) (fun iv _ => n1 - (intOf iv).toNat)
    case atStart => exact ⟨0, Nat.zero_le _, rfl, rfl, Grew.refl w⟩
    case round =>
      obtain ⟨k, hk, rfl, HT, hg⟩ := hrel
      by_cases hlt : k < n1
      · obtain ⟨x, hx⟩ : ∃ x, S1[k]? = some x := ⟨_, List.getElem?_eq_getElem (by rw [HL1.out]; omega)⟩
        obtain ⟨y, hy⟩ : ∃ y, S2[k]? = some y := ⟨_, List.getElem?_eq_getElem (by rw [HL2.out]; omega)⟩
        obtain ⟨p, o, rfl, hcx⟩ := hr1 k x hx
        obtain ⟨p', o', rfl, hcy⟩ := hr2 k y hy
        replace hcx := hg.cell hcx
        replace hcy := hg.cell hcy
        by_cases hxy : x = y
        · have HT2 := Lib.hid (takeI_snoc HT.out hx hy hxy)
          clear HT hx hy
          go_wp2
          refine wp_region_grow (by kernel_rfl) (by kernel_rfl) fun hne2 => ?_
          have g1 := fun p : GW wr => p.grew.cell hcx
          have g2 := fun p : GW wr => p.grew.cell hcy
          repeat (go_big_quiet_step (fail))
          refine wpQuiet_nil ?_
          clear hne2 g1 g2
          intro u hu
          go_wp2
          go_roundw
          case rel => exact ⟨k + 1, by omega, by go_num, HT2, hg.trans hu⟩
          case measure => simp [intOf] <;> omega
        · have HF : Hid (b = false) := by
            rw [Hid, ← hb.out]
            refine decide_eq_false fun e => ?_
            rw [e, hy] at hx
            exact absurd (Option.some.inj hx).symm hxy
          have hx1 : (x != y) = true := by simp; exact hxy
          have hx2 : (x == y) = false := by simp; exact hxy
          clear HT hx hy hxy
          go_wp2
          refine wp_region_grow (by kernel_rfl) (by kernel_rfl) fun hne2 => ?_
          have g1 := fun p : GW wr => p.grew.cell hcx
          have g2 := fun p : GW wr => p.grew.cell hcy
          repeat (go_big_quiet_step (fail))
          refine wpQuiet_nil ?_
          clear hne2 g1 g2
          intro u hu
          go_wp2
          go_ret
          exact ⟨by rw [HF.out]; rfl, hg.trans hu⟩
      · have HF : Hid (b = true) := by
          have e1 : S1.take k = S1 := List.take_of_length_le (by rw [HL1.out]; omega)
          have e2 : S2.take k = S2 := List.take_of_length_le (by rw [HL2.out]; omega)
          have := HT.out
          rw [e1, e2] at this
          rw [Hid, ← hb.out]
          exact decide_eq_true this
        clear HT
        go_wp2
        go_ret
        exact ⟨by rw [HF.out]; rfl, hg⟩
  · obtain rfl : b = false := by
      rw [← hb.out]
      exact decide_eq_false fun e => hne (by rw [← HL1.out, ← HL2.out, e])
    have n1' : ((n1 : Int) != (n2 : Int)) = true := by simp; omega
    have n2' : ((n1 : Int) == (n2 : Int)) = false := by simp; omega
    clear hne
    go_enter Try.func40, Try.ntmps40
    go_wp2
    go_ret
    exact ⟨rfl, Grew.refl w⟩
/-- Are rows of nodes the same? -/
def sameNd : List RNode → List RNode → Bool
  | [], [] => true
  | x :: xs, y :: ys => (decide (x.k = y.k) && decide (x.kids = y.kids)) && sameNd xs ys
  | _, _ => false
theorem sameNd_refl : ∀ xs, sameNd xs xs = true
  | [] => rfl
  | x :: xs => by
    show ((decide (x.k = x.k) && decide (x.kids = x.kids)) && sameNd xs xs) = true
    rw [decide_eq_true rfl, decide_eq_true rfl, sameNd_refl xs]
    rfl
theorem sameNd_len : ∀ {xs ys : List RNode}, xs.length ≠ ys.length → sameNd xs ys = false
  | [], [], h => absurd rfl h
  | [], _ :: _, _ => rfl
  | _ :: _, [], _ => rfl
  | x :: xs, y :: ys, h => by
    show ((decide (x.k = y.k) && decide (x.kids = y.kids)) && sameNd xs ys) = false
    rw [sameNd_len (fun e => h (by simp [e])), Bool.and_false]
theorem sameNd_at {xs ys : List RNode} {i : Nat} {x y : RNode} (hx : xs[i]? = some x) (hy : ys[i]? = some y) : sameNd (xs.drop i) (ys.drop i) = ((decide (x.k = y.k) && decide (x.kids = y.kids)) && sameNd (xs.drop (i + 1)) (ys.drop (i + 1))) := by
  obtain ⟨h1, rfl⟩ := List.getElem?_eq_some_iff.1 hx
  obtain ⟨h2, rfl⟩ := List.getElem?_eq_some_iff.1 hy
  rw [List.drop_eq_getElem_cons h1, List.drop_eq_getElem_cons h2]
  rfl
attribute [local irreducible] sameNd
set_option maxHeartbeats 1000000 in
theorem samenodes_c {w : World} {A B : Option Addr} {xs ys : List RNode} {n1 n2 c1 c2 : Nat} {b : Bool} (HL1 : Hid (xs.length = n1)) (HL2 : Hid (ys.length = n2)) (hm1 : n1 ≤ 4000000000) (hv1 : NdV w A xs) (hv2 : NdV w B ys) (hb : Hid (sameNd xs ys = b)) :
    Calls Try.prog 21 #[.slice A n1 c1, .slice B n2 c2] w fun e w' => e = .returned (.bool b) ∧ Grew w w' := by
  have HV1 := Lib.hid hv1
  have HV2 := Lib.hid hv2
  clear hv1 hv2
  by_cases hne : n1 = n2
  · subst hne
    go_enter Try.func21, Try.ntmps21
    go_wp2
    go_loopw [5] (fun iv wr => ∃ k : Nat, k ≤ n1 ∧ iv = .int .i64 (k : Nat) ∧ Hid (sameNd (xs.drop k) (ys.drop k) = b) ∧ Grew w wr) (fun iv _ => n1 - (intOf iv).toNat)
    case atStart => exact ⟨0, Nat.zero_le _, rfl, hb, Grew.refl w⟩
    case round =>
      obtain ⟨k, hk, rfl, HT, hg⟩ := hrel
      by_cases hlt : k < n1
      · obtain ⟨x, hx⟩ : ∃ x, xs[k]? = some x := ⟨_, List.getElem?_eq_getElem (by rw [HL1.out]; omega)⟩
        obtain ⟨y, hy⟩ : ∃ y, ys[k]? = some y := ⟨_, List.getElem?_eq_getElem (by rw [HL2.out]; omega)⟩
        have HA := Lib.hid (sameNd_at hx hy)
        rw [HT.out] at HA
        obtain ⟨p, o, X, bx, rfl, x1, x2, x3, x4, x5⟩ := (HV1.out.grew hg).row k x hx
        obtain ⟨q, o', Y, by_, rfl, y1, y2, y3, y4, y5⟩ := (HV2.out.grew hg).row k y hy
        obtain ⟨d, HD⟩ : ∃ d, Hid (decide (x.kids = y.kids) = d) := ⟨_, rfl⟩
        rw [HD.out] at HA
        obtain ⟨mx, HMx⟩ : ∃ m, Hid (x.kids.length = m) := ⟨_, rfl⟩
        obtain ⟨my, HMy⟩ : ∃ m, Hid (y.kids.length = m) := ⟨_, rfl⟩
        rw [HMx.out] at x2 x4
        rw [HMy.out] at y2
        have X3 := Lib.hid x3
        have Y3 := Lib.hid y3
        clear x3 y3 x5 y5 y4 hx hy HT
        by_cases hk1 : x.k = y.k
        · rw [decide_eq_true hk1] at HA
          have e1 : (x.k != y.k) = false := by simp; exact hk1
          clear hk1
          cases d with
          | true =>
            replace HA : Hid (sameNd (xs.drop (k + 1)) (ys.drop (k + 1)) = b) := by rw [Hid, HA.out]; simp
            go_wp2
            refine wp_region_grow (by kernel_rfl) (by kernel_rfl) fun hne2 => ?_
            have g1 := fun p : GW wr => p.grew.cell x1
            have g2 := fun p : GW wr => p.grew.cell x2
            have g3 := fun p : GW wr => p.grew.cell y1
            have g4 := fun p : GW wr => p.grew.cell y2
            repeat (go_big_quiet_step ((first
              | (go_at_call 40; exact in_grew (rsame_i HMx HMy x4 (X3.out.grew (GW.grew _)) (Y3.out.grew (GW.grew _)) HD)))))
            refine wpQuiet_nil ?_
            clear hne2 g1 g2 g3 g4
            intro u hu
            go_wp2
            go_roundw
            case rel => exact ⟨k + 1, by omega, by go_num, HA, hg.trans hu⟩
            case measure => simp [intOf] <;> omega
          | false =>
            replace HA : Hid (b = false) := by rw [Hid, HA.out]; simp
            go_wp2
            refine wp_region_grow (by kernel_rfl) (by kernel_rfl) fun hne2 => ?_
            have g1 := fun p : GW wr => p.grew.cell x1
            have g2 := fun p : GW wr => p.grew.cell x2
            have g3 := fun p : GW wr => p.grew.cell y1
            have g4 := fun p : GW wr => p.grew.cell y2
            repeat (go_big_quiet_step ((first
              | (go_at_call 40; exact in_grew (rsame_i HMx HMy x4 (X3.out.grew (GW.grew _)) (Y3.out.grew (GW.grew _)) HD)))))
            refine wpQuiet_nil ?_
            clear hne2 g1 g2 g3 g4
            intro u hu
            go_wp2
            go_ret
            exact ⟨by rw [HA.out]; rfl, hg.trans hu⟩
        · rw [decide_eq_false hk1] at HA
          replace HA : Hid (b = false) := by rw [Hid, HA.out]; simp
          have e1 : (x.k != y.k) = true := by simp; exact hk1
          clear hk1
          go_wp2
          refine wp_region_grow (by kernel_rfl) (by kernel_rfl) fun hne2 => ?_
          have g1 := fun p : GW wr => p.grew.cell x1
          have g2 := fun p : GW wr => p.grew.cell x2
          have g3 := fun p : GW wr => p.grew.cell y1
          have g4 := fun p : GW wr => p.grew.cell y2
          repeat (go_big_quiet_step ((first
            | (go_at_call 40; exact in_grew (rsame_i HMx HMy x4 (X3.out.grew (GW.grew _)) (Y3.out.grew (GW.grew _)) HD)))))
          refine wpQuiet_nil ?_
          clear hne2 g1 g2 g3 g4
          intro u hu
          go_wp2
          go_ret
          exact ⟨by rw [HA.out]; rfl, hg.trans hu⟩
      · have HF : Hid (b = true) := by
          have h := HT.out
          rw [List.drop_of_length_le (by rw [HL1.out]; omega), List.drop_of_length_le (by rw [HL2.out]; omega)] at h
          rw [Hid, ← h]
          unfold sameNd
          rfl
        clear HT
        go_wp2
        go_ret
        exact ⟨by rw [HF.out]; rfl, hg⟩
  · obtain rfl : b = false := by
      rw [← hb.out]
      exact sameNd_len (by rw [HL1.out, HL2.out]; exact hne)
    have n1' : ((n1 : Int) != (n2 : Int)) = true := by simp; omega
    have n2' : ((n1 : Int) == (n2 : Int)) = false := by simp; omega
    clear hne
    go_enter Try.func21, Try.ntmps21
    go_wp2
    go_ret
    exact ⟨rfl, Grew.refl w⟩
end Go.Proofs.Ytkcbjkadalebjaa
