/-
  Things with parts (ent.Ents), 7: the statements' own awake.
-/
import Derived.Test.YtcnbmfaicbkhcaaGreatDoorEn5
set_option maxRecDepth 100000
namespace Go.Proofs.YtcnbmfaicbkhcaaGreatDoor
open Go Go.RowKit
/-- What the calls of awake come to. -/
structure Awk15 (l : List Cmp) (c1 : List ACell) (s2 s3 : EnS) : Prop where
  cr : giveV 1 (newA 5) = ((0, 1), 0, c1)
  ins : (EnS.mk 3 c1 l).ins (0, 1) 0 ⟨1, 7, 0⟩ = (V3.z, false, 0, s2)
  get : s2.get (0, 1) 0 = (⟨1, 7, 0⟩, 0)
  del : s2.del (0, 1) = (1, 0, s3)
  get2 : s3.get (0, 1) 0 = (V3.z, 4)
  ev1 : EvL 0 l
  ev2 : EvL 1 s2.l
theorem newL_one {d : V3} {l : List Cmp} (h : NewL [d] l) : ∃ X v F, l = [(X, newSl d v F)] := by
  have h1 := h.len
  match l, h1 with
  | [x], _ =>
    obtain ⟨d', v, F, h2, h3⟩ := h.at_ 0 x rfl
    simp only [List.getElem?_cons_zero, Option.some.injEq] at h2
    subst h2
    exact ⟨x.1, v, F, by rw [← h3]⟩
attribute [local irreducible] wpList Calls Code.wp okI okN pS tS memS getG pG insS delS getV pV tV okVal newSl SlS.put SlS.err SlS.putU SlS.putB descE SlS.take SlS.set SlS.errSet SlS.get SlS.has stV EnS.live EnS.get EnS.slot EnS.ins EnS.set EnS.rem EnS.parts EnS.del ofN strL delA newA giveV cs3 errDs
end Go.Proofs.YtcnbmfaicbkhcaaGreatDoor
