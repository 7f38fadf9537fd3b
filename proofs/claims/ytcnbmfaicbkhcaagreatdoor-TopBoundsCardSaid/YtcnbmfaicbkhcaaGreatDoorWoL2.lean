/-
  A world (world.World): plain law of its calls. No function of the program is walked here.
-/
import Derived.Test.YtcnbmfaicbkhcaaGreatDoorWoLaw
set_option maxRecDepth 100000
namespace Go.Proofs.YtcnbmfaicbkhcaaGreatDoor
open Go Go.RowKit
section
variable {s : EnS} {h : Hdl} {c : Int} {v : V3}
theorem EnS.ins_top : (s.ins h c v).2.2.2.top = s.top := by unfold EnS.ins; split <;> (try split) <;> rfl
theorem EnS.del_top : (s.del h).2.2.top = s.top := by unfold EnS.del; split <;> rfl
end
section
variable {s : WoS} {h : Hdl} {c : Int} {v u : V3} {b : Bool} {x n : Int} {e : EnS}
theorem WoS.ins_ok (h0 : s.may h = 0) (hi : s.e.ins h c v = (u, b, x, e)) : s.ins h c v = (u, b, x, { s with e := e }) := by unfold WoS.ins; rw [if_pos h0, hi]
theorem WoS.ins_bad (h0 : s.may h ≠ 0) : s.ins h c v = (V3.z, false, s.may h, s) := by unfold WoS.ins; rw [if_neg h0]
theorem WoS.del_ok (h0 : s.may h = 0) (hi : s.e.del h = (n, x, e)) : s.del h = (n, x, { s with e := e }) := by unfold WoS.del; rw [if_pos h0, hi]
theorem WoS.del_bad (h0 : s.may h ≠ 0) : s.del h = (0, s.may h, s) := by unfold WoS.del; rw [if_neg h0]
theorem WoS.create_ok (h0 : s.free = 0) {d : Hdl} {cs : List ACell} (hi : giveV 1 s.e.cs = (d, x, cs)) : s.create = (d, x, { s with e := ⟨s.e.top, cs, s.e.l⟩ }) := by unfold WoS.create WoS.give; rw [if_pos h0, hi]
theorem WoS.create_bad (h0 : s.free ≠ 0) : s.create = ((0, 0), s.free, s) := by unfold WoS.create; rw [if_neg h0]
end
/-- A new reader of a component. -/
def WoS.reader (s : WoS) (c : Int) : Int × Int × WoS := if s.free = 0 then (match s.e.slot c with
  | none => (0, 11, s)
  | some x => if x.2.F.isSome then (if x.2.rds.length < 100 then ((x.2.rds.length : Nat), 0, { s with e := ⟨s.e.top, s.e.cs, s.e.l.set c.toNat (x.1, { x.2 with rds := x.2.rds ++ [x.2.evs.length] })⟩ }) else (0, 2, s)) else (0, 14, s)) else (0, s.free, s)
/-- What a reader is told. -/
def WoS.read (s : WoS) (c r : Int) : List Ev × Bool × Int × WoS := match s.e.slot c with
  | none => ([], false, 11, s)
  | some x => if x.2.F.isSome then (match (if 0 ≤ r then x.2.rds[r.toNat]? else none) with
    | none => ([], false, 8, s)
    | some k => (newE x.2.d.b.toNat x.2.evs k, lagE x.2.d.b.toNat x.2.evs k, 0, { s with e := ⟨s.e.top, s.e.cs, s.e.l.set c.toNat (x.1, { x.2 with rds := x.2.rds.set r.toNat x.2.evs.length })⟩ })) else ([], false, 14, s)
section
variable {s : WoS} {c r : Int} {X : Nat} {t : SlS}
end
end Go.Proofs.YtcnbmfaicbkhcaaGreatDoor
