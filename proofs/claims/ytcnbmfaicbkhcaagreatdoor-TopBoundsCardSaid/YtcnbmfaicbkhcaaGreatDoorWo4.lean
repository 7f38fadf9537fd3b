/-
  Contracts of res.Res (New, Len, All) and of slices.Clone over int64.
-/
import Derived.Test.YtcnbmfaicbkhcaaGreatDoorWo3
set_option maxRecDepth 100000
namespace Go.Proofs.YtcnbmfaicbkhcaaGreatDoor
open Go Go.RowKit
attribute [local irreducible] wpList Calls Code.wp
/-- The numbers once given: what res.Res keeps. -/
def ReB (R : Nat) (l : List Int) : As := fun h => ∃ (A : Option Addr) (cap : Nat), big [blk R #[.slice A l.length cap] 293, own A l.length cap 2 1 (i8v l)] h
section
variable {w0 w : World} {L : List As} {R : Nat} {l : List Int}
theorem St.reshut {n : Nat} {A : Option Addr} {cap : Nat} (hn : l.length = n) (hs : St w0 (YtcnbmfaicbkhcaaGreatDoor.blk R #[.slice A n cap] 293 :: YtcnbmfaicbkhcaaGreatDoor.own A n cap 2 1 (i8v l) :: L) w) : St w0 (ReB R l :: L) w := by
  subst hn
  exact (hs.ent (Ent.unflat [_, _] L)).conv fun _ h => ⟨A, cap, h⟩
end
theorem eql8_nil (w : World) : (binOp .eql 25 (.slice none 0 0) (.slice none 0 0)).run Tryz.prog w = .ok (.bool true) w := by kernel_rfl
theorem eql8_some (a : Addr) (n cap : Nat) (w : World) : (binOp .eql 25 (.slice (some a) n cap) (.slice none 0 0)).run Tryz.prog w = .ok (.bool false) w := by kernel_rfl
theorem clone8_c {w0 w : World} {L : List As} {A : Option Addr} {n cap : Nat} {l : List Int} (hA : A = none → n = 0 ∧ cap = 0) (hn : l.length = n) (hm : n ≤ 1000000) (hs : St w0 L w) (hr : RdS w0 L A (i8v l)) :
    Calls Tryz.prog 97 #[.slice A n cap] w fun e w' => ∃ B cap', e = .returned (.slice B n cap') ∧ St w0 (own B n cap' 2 1 (i8v l) :: L) w' := by
  have HN := Lib.hid hn
  clear hn
  cases A with
  | none =>
    obtain ⟨rfl, rfl⟩ := hA rfl
    have he := eql8_nil
    have hl : l = [] := List.eq_nil_of_length_eq_zero HN.out
    subst hl
    have hs2 := Lib.hid (hs.own_nil 2 1)
    clear hA hr
    go_enter Tryz.func97, Tryz.ntmps97
    go_wp2
    go_ret
    exact ⟨none, 0, rfl, hs2.out⟩
  | some a =>
    have he := eql8_some a n cap
    clear hA
    go_enter Tryz.func97, Tryz.ntmps97
    go_wp2_with (first
      | (refine wpl_build_none elem8 hs ?_; clear hs; intro B w hs)
      | (refine wpl_append (n := 0) (m := n) (news := i8v l) elem8 rfl rfl hs (Ent.refl _) hr.tail (by rw [i8v_len, HN.out, Nat.mul_one]) (i8v_one _) (by unfold maxLen; omega) (by omega) ?_; clear hs; intro B2 cap2 w hs))
    go_ret
    rw [Nat.zero_add, List.nil_append] at hs
    exact ⟨B2, cap2, by first | rfl | (rw [Nat.zero_add]; rfl), hs⟩
theorem renew_c {w0 w : World} {L : List As} {B : Option Addr} {k cB : Nat} {rs : List Int} (hs : St w0 L w) (hB : B = none → k = 0 ∧ cB = 0) (hk : Hid (rs.length = k)) (hk2 : k ≤ 32) (hkc : k ≤ cB) (hrs : RdS w0 L B (i8v rs)) :
    Calls Tryz.prog 95 #[.slice B k cB] w fun e w' => ∃ R, e = .returned (.pointer (some ⟨R, 0, none⟩)) ∧ St w0 (ReB R rs :: L) w' := by
  have hmin : min (k : Int) 32 = (k : Int) := by omega
  have hk3 : (k : Int) ≤ 32 := by omega
  have HB := Lib.hid (clone8_c (l := rs) (cap := cB) hB hk.out (by omega) hs hrs)
  clear hrs hB
  go_enter Tryz.func95, Tryz.ntmps95
  go_wp2_with (first
    | (go_at_call 97; refine HB.out.mono ?_; clear hs; rintro r w ⟨A, cA, rfl, hs⟩)
    | (refine wpl_box_v (v := .agg #[.slice A k cA]) rfl hs ?_; clear hs; intro g1 w hs))
  go_ret
  exact ⟨g1, rfl, St.reshut hk.out hs⟩
end Go.Proofs.YtcnbmfaicbkhcaaGreatDoor
