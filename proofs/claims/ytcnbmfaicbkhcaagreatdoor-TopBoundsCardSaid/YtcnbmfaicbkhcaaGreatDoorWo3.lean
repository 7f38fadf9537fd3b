/-
  Contracts of lazy.Queue (New, Len, Add, Drain, All) and of slices.Clone over Ops.
-/
import Derived.Test.YtcnbmfaicbkhcaaGreatDoorWo2
set_option maxRecDepth 100000
namespace Go.Proofs.YtcnbmfaicbkhcaaGreatDoor
open Go Go.RowKit
attribute [local irreducible] wpList Calls Code.wp
/-- A queue: what waits. -/
def QuB (Q : Nat) (l : List OpW) : As := fun h => ∃ (A : Option Addr) (cap : Nat), big [blk Q #[.slice A l.length cap] 215, own A l.length cap 176 7 (l.flatMap c7w)] h
section
variable {w0 w : World} {L : List As} {Q : Nat} {l : List OpW}
theorem St.qushut {n : Nat} {A : Option Addr} {cap : Nat} (hn : l.length = n) (hs : St w0 (YtcnbmfaicbkhcaaGreatDoor.blk Q #[.slice A n cap] 215 :: YtcnbmfaicbkhcaaGreatDoor.own A n cap 176 7 (l.flatMap c7w) :: L) w) : St w0 (QuB Q l :: L) w := by
  subst hn
  exact (hs.ent (Ent.unflat [_, _] L)).conv fun _ h => ⟨A, cap, h⟩
end
theorem qnew_c {w0 w : World} {L : List As} (hs : St w0 L w) : Calls Tryz.prog 31 #[] w fun e w' => ∃ Q, e = .returned (.pointer (some ⟨Q, 0, none⟩)) ∧ St w0 (QuB Q [] :: L) w' := by
  have hs := hs.own_nil 176 7
  go_enter Tryz.func31, Tryz.ntmps31
  go_wp2_with (first
    | (refine wpl_box_v (v := .agg #[.slice none 0 0]) rfl hs ?_; clear hs; intro g1 w1 hs))
  go_ret
  exact ⟨g1, rfl, St.qushut rfl hs⟩
/-- What Add answers. -/
def quE (l q : List OpW) : Int := if l.any (fun o => !o.ok) then 1 else if 10000 < q.length + l.length then 2 else 0
end Go.Proofs.YtcnbmfaicbkhcaaGreatDoor
