/-
  Expressions (expr.Arena): the memory of an Arena; Clone; the test of kids.
-/
import Derived.Test.YtkcbjkadalebjaaExLaw
import Derived.Test.YtkcbjkadalebjaaHwd
import Derived.Test.YtkcbjkadalebjaaOps3
import Derived.Test.YtkcbjkadalebjaaOnly
set_option maxRecDepth 100000
namespace Go.Proofs.Ytkcbjkadalebjaa
open Go Go.RowKit
attribute [local irreducible] wpList Calls Code.wp

theorem nil_one0 : ∀ u ∈ ([] : List Value), u.oneCell' = true := fun _ h => nomatch h
def ints (l : List Int) : List Value := l.map (Value.int .i64)
theorem ints_len (l : List Int) : (ints l).length = l.length := by simp [ints]
theorem ints_one' (l : List Int) : ∀ u ∈ ints l, u.oneCell' = true := by
  intro u hu
  obtain ⟨i, _, rfl⟩ := List.mem_map.1 hu
  rfl
theorem eql_sl_nil (w : World) : (binOp .eql 22 (.slice none 0 0) (.slice none 0 0)).run Try.prog w = .ok (.bool true) w := by kernel_rfl
theorem eql_sl_some (a : Addr) (n cap : Nat) (w : World) : (binOp .eql 22 (.slice (some a) n cap) (.slice none 0 0)).run Try.prog w = .ok (.bool false) w := by kernel_rfl
/-- slices.Clone: another slice with the same (nil for nil). -/
theorem clone_c {w0 w : World} {L : List As} {A : Option Addr} {n cap : Nat} {l : List Int} (hA : A = none → n = 0 ∧ cap = 0) (hn : l.length = n) (hm : n ≤ 4000000000) (hs : St w0 L w) (hr : RdS w0 L A (ints l)) :
    Calls Try.prog 41 #[.slice A n cap] w fun e w' => ∃ B cap', e = .returned (.slice B n cap') ∧ St w0 (own B n cap' 3 1 (ints l) :: L) w' := by
  have HN := Lib.hid hn
  clear hn
  cases A with
  | none =>
    obtain ⟨rfl, rfl⟩ := hA rfl
    have he := eql_sl_nil
    have hl : l = [] := List.eq_nil_of_length_eq_zero HN.out
    subst hl
    have hs2 := Lib.hid (hs.own_nil 3 1)
    clear hA hr
    go_enter Try.func41, Try.ntmps41
    go_wp2
    go_ret
    exact ⟨none, 0, rfl, hs2.out⟩
  | some a =>
    have he := eql_sl_some a n cap
    clear hA
    go_enter Try.func41, Try.ntmps41
    go_wp2_with (first
      | (refine wpl_build_none elem24 hs ?_; clear hs; intro B w hs)
      | (refine wpl_append (n := 0) (m := n) (news := ints l) elem24 rfl rfl hs (Ent.refl _) hr.tail (by rw [ints_len, HN.out, Nat.mul_one]) (ints_one' _) (by unfold maxLen; omega) (by omega) ?_; clear hs; intro B2 cap2 w hs))
    go_ret
    rw [Nat.zero_add, List.nil_append] at hs
    exact ⟨B2, cap2, by first | rfl | (rw [Nat.zero_add]; rfl), hs⟩
end Go.Proofs.Ytkcbjkadalebjaa
