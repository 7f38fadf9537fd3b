/-
  Variants turned (twin.Turn), 1: Clone of Descs and of int64s.
-/
import Derived.Test.YtcnbmfaicbkhcaaGreatDoorTwLaw
import Derived.Test.YtcnbmfaicbkhcaaGreatDoorJM
set_option maxRecDepth 100000
namespace Go.Proofs.YtcnbmfaicbkhcaaGreatDoor
open Go Go.RowKit
attribute [local irreducible] wpList Calls Code.wp
theorem elemI64w : ElemOk Tryz.prog 25 2 1 8 := ElemOk.of Tryz.underlying25 (z := .int .i64 0) (by kernel_rfl) rfl (by decide)
theorem nil_ds (w : World) : (binOp .eql 24 (.slice none 0 0) (.slice none 0 0)).run Tryz.prog w = .ok (.bool true) w := by kernel_rfl
theorem some_ds (a : Addr) (n cap : Nat) (w : World) : (binOp .eql 24 (.slice (some a) n cap) (.slice none 0 0)).run Tryz.prog w = .ok (.bool false) w := by kernel_rfl
theorem clone_ds {w0 w : World} {L : List As} {A : Option Addr} {n cap : Nat} {xs : List Value} (hA : A = none → n = 0 ∧ cap = 0) (hn : Hid (xs.length = n * 3)) (h1 : Hid (∀ u ∈ xs, u.oneCell' = true)) (hm : n ≤ 1000000000) (hs : St w0 L w) (hr : RdS w0 L A xs) :
    Calls Tryz.prog 96 #[.slice A n cap] w fun e w' => ∃ B cap', e = .returned (.slice B n cap') ∧ St w0 (own B n cap' 120 3 xs :: L) w' := by
  cases A with
  | none =>
    obtain ⟨rfl, rfl⟩ := hA rfl
    have he := nil_ds
    have hl : xs = [] := List.eq_nil_of_length_eq_zero (by have := hn.out; omega)
    subst hl
    have hs2 := Lib.hid (hs.own_nil 120 3)
    clear hA hr
    go_enter Tryz.func96, Tryz.ntmps96
    go_wp2
    go_ret
    exact ⟨none, 0, rfl, hs2.out⟩
  | some a =>
    have he := some_ds a n cap
    have HR := Lib.hid hr
    clear hA hr
    go_enter Tryz.func96, Tryz.ntmps96
    go_wp2_with (first
      | (refine wpl_build_none elemDs5 hs ?_; clear hs; intro B w hs)
      | (refine wpl_append (n := 0) (m := n) (news := xs) elemDs5 rfl rfl hs (Ent.refl _) HR.out.tail hn.out h1.out (by unfold maxLen; omega) (by omega) ?_; clear hs; intro B2 cap2 w hs))
    go_ret
    rw [Nat.zero_add, List.nil_append] at hs
    exact ⟨B2, cap2, by first | rfl | trivial | (rw [Nat.zero_add]; rfl), hs⟩
theorem nil_i8 (w : World) : (binOp .eql 25 (.slice none 0 0) (.slice none 0 0)).run Tryz.prog w = .ok (.bool true) w := by kernel_rfl
theorem some_i8 (a : Addr) (n cap : Nat) (w : World) : (binOp .eql 25 (.slice (some a) n cap) (.slice none 0 0)).run Tryz.prog w = .ok (.bool false) w := by kernel_rfl
theorem clone_i8 {w0 w : World} {L : List As} {A : Option Addr} {n cap : Nat} {xs : List Value} (hA : A = none → n = 0 ∧ cap = 0) (hn : Hid (xs.length = n * 1)) (h1 : Hid (∀ u ∈ xs, u.oneCell' = true)) (hm : n ≤ 1000000000) (hs : St w0 L w) (hr : RdS w0 L A xs) :
    Calls Tryz.prog 97 #[.slice A n cap] w fun e w' => ∃ B cap', e = .returned (.slice B n cap') ∧ St w0 (own B n cap' 2 1 xs :: L) w' := by
  cases A with
  | none =>
    obtain ⟨rfl, rfl⟩ := hA rfl
    have he := nil_i8
    have hl : xs = [] := List.eq_nil_of_length_eq_zero (by have := hn.out; omega)
    subst hl
    have hs2 := Lib.hid (hs.own_nil 2 1)
    clear hA hr
    go_enter Tryz.func97, Tryz.ntmps97
    go_wp2
    go_ret
    exact ⟨none, 0, rfl, hs2.out⟩
  | some a =>
    have he := some_i8 a n cap
    have HR := Lib.hid hr
    clear hA hr
    go_enter Tryz.func97, Tryz.ntmps97
    go_wp2_with (first
      | (refine wpl_build_none elemI64w hs ?_; clear hs; intro B w hs)
      | (refine wpl_append (n := 0) (m := n) (news := xs) elemI64w rfl rfl hs (Ent.refl _) HR.out.tail hn.out h1.out (by unfold maxLen; omega) (by omega) ?_; clear hs; intro B2 cap2 w hs))
    go_ret
    rw [Nat.zero_add, List.nil_append] at hs
    exact ⟨B2, cap2, by first | rfl | trivial | (rw [Nat.zero_add]; rfl), hs⟩
/-! ### Turn -/
theorem cs3_set1 {ds : List V3} {i : Nat} {d : V3} (hd : ds[i]? = some d) (b : Int) : (cs3 ds).set (i * 3 + 1) (.int .i64 b) = cs3 (ds.set i ⟨d.k, b, d.b⟩) := by
  induction ds generalizing i with
  | nil => simp at hd
  | cons x l ih =>
    cases i with
    | zero =>
      simp only [List.getElem?_cons_zero, Option.some.injEq] at hd
      subst hd
      rfl
    | succ i =>
      simp only [List.getElem?_cons_succ] at hd
      have := ih hd
      show (.int .i64 x.k :: .int .i64 x.a :: .int .i64 x.b :: cs3 l).set _ _ = .int .i64 x.k :: .int .i64 x.a :: .int .i64 x.b :: cs3 (l.set i _)
      rw [show (i + 1) * 3 + 1 = i * 3 + 1 + 1 + 1 + 1 by omega]
      simp only [List.set_cons_succ]
      rw [this]
theorem tmod_b (M n : Int) (hM : M = 3 ∨ M = 4) : -M < n.tmod M ∧ n.tmod M < M ∧ n.tmod M % M = n % M := by
  rcases hM with rfl | rfl <;> rw [Int.tmod_eq_emod] <;> split <;> (try simp) <;> omega
theorem turn_rem (M n : Int) (hM : M = 3 ∨ M = 4) : ∃ r1 r2 : Int, n.tmod M = r1 ∧ (r1 + M).tmod M = r2 ∧ -M < r1 ∧ r1 < M ∧ 0 ≤ r2 ∧ r2 < M ∧ 1 + r2 = 1 + n % M := by
  obtain ⟨h1, h2, h3⟩ := tmod_b M n hM
  have e : (n.tmod M + M).tmod M = n % M := by
    rw [Int.tmod_eq_emod_of_nonneg (by omega), Int.add_emod_right]; exact h3
  refine ⟨n.tmod M, (n.tmod M + M).tmod M, rfl, rfl, h1, h2, ?_, ?_, ?_⟩ <;> rw [e] <;> rcases hM with rfl | rfl <;> omega
end Go.Proofs.YtcnbmfaicbkhcaaGreatDoor
