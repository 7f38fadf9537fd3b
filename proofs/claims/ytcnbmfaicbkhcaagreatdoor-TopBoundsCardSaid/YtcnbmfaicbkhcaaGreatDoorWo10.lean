/-
  A world in memory (world.World): apply, Maintain. (Printed by gen_wo10.py.)
-/
import Derived.Test.YtcnbmfaicbkhcaaGreatDoorWo9
import Derived.Deep.CutRange
set_option maxRecDepth 100000
namespace Go.Proofs.YtcnbmfaicbkhcaaGreatDoor
open Go Go.RowKit
section
variable {s : WoS} {o : OpW} {m x : Int} {u : V3} {b : Bool} {e : EnS}
theorem WoS.apply_del (h1 : o.k = 1) (hi : s.e.del o.h = (m, x, e)) : s.apply o = (x == 0, { s with e := e }) := by unfold WoS.apply; rw [if_pos h1, hi]; rfl
theorem WoS.apply_ins (h1 : o.k = 2) (hi : s.e.ins o.h o.c o.v = (u, b, x, e)) : s.apply o = (x == 0, { s with e := e }) := by unfold WoS.apply; rw [if_neg (by omega), if_pos h1, hi]; rfl
theorem WoS.apply_rem (h1 : o.k ≠ 1) (h2 : o.k ≠ 2) (hi : s.e.rem o.h o.c = (u, x, e)) : s.apply o = (x == 0, { s with e := e }) := by unfold WoS.apply; rw [if_neg h1, if_neg h2, hi]; rfl
end
attribute [local irreducible] wpList Calls Code.wp stV EnS.live EnS.slot okI okN pS tS memS getG pG insS delS getV pV tV okVal newSl SlS.put SlS.err SlS.putU SlS.putB descE SlS.take SlS.set SlS.errSet SlS.get SlS.has EnS.ins EnS.set EnS.rem EnS.get EnS.del WoS.ins WoS.rem WoS.get WoS.set WoS.may WoS.create WoS.del giveV WoS.apply WoS.run WoS.maint mergeA idxS

section
variable {s t u : WoS} {o : OpW} {a b : Nat} {c : Bool}
theorem EvL.apply {k : Nat} (h : EvL k s.e.l) (ha : s.apply o = (c, u)) : EvL (k + 1) u.e.l := by
  by_cases h1 : o.k = 1
  · have := WoS.apply_del (s := s) h1 rfl
    rw [this] at ha
    cases ha
    exact h.del
  · by_cases h2 : o.k = 2
    · have := WoS.apply_ins (s := s) h2 rfl
      rw [this] at ha
      cases ha
      exact h.ins
    · have := WoS.apply_rem (s := s) h1 h2 rfl
      rw [this] at ha
      cases ha
      exact h.rem
theorem EvL.run : ∀ {l : List OpW} {s t : WoS} {k a b : Nat}, EvL k s.e.l → s.run l = (a, b, t) → EvL (k + l.length) t.e.l
  | [], s, t, k, a, b, h, hr => by
    unfold WoS.run at hr
    cases hr
    exact h
  | o :: l, s, t, k, a, b, h, hr => by
    unfold WoS.run at hr
    cases hp : s.apply o with
    | mk y s2 =>
      rw [hp] at hr
      simp only at hr
      cases h2 : s2.run l with
      | mk a2 r2 =>
        obtain ⟨b2, t2⟩ := r2
        rw [h2] at hr
        simp only at hr
        cases hr
        have := EvL.run (EvL.apply h hp) h2
        rwa [List.length_cons, show k + (l.length + 1) = k + 1 + l.length by omega]
end
end Go.Proofs.YtcnbmfaicbkhcaaGreatDoor
