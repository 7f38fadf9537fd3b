/-
  A world (world.World): plain law of its calls. No function of the program is walked here.
-/
import Derived.Test.YtiafdlofcjbllaaGreatDoorWoLaw
set_option maxRecDepth 100000
namespace Go.Proofs.YtiafdlofcjbllaaGreatDoor
open Go Go.RowKit
section
variable {s : EnS} {h : Hdl} {c : Int} {v : V3}
theorem EnS.ins_top : (s.ins h c v).2.2.2.top = s.top := by unfold EnS.ins; split <;> (try split) <;> rfl
theorem EnS.rem_top : (s.rem h c).2.2.top = s.top := by unfold EnS.rem; split <;> (try split) <;> (try split) <;> rfl
theorem EnS.del_top : (s.del h).2.2.top = s.top := by unfold EnS.del; split <;> rfl
theorem EnS.set_top : (s.set h c v).2.top = s.top := by unfold EnS.set; split <;> (try split) <;> rfl
end
section
variable {s : WoS} {h : Hdl} {c : Int} {v u : V3} {b : Bool} {x n : Int} {e : EnS}
theorem WoS.ins_ok (h0 : s.may h = 0) (hi : s.e.ins h c v = (u, b, x, e)) : s.ins h c v = (u, b, x, { s with e := e }) := by unfold WoS.ins; rw [if_pos h0, hi]
theorem WoS.ins_bad (h0 : s.may h ≠ 0) : s.ins h c v = (V3.z, false, s.may h, s) := by unfold WoS.ins; rw [if_neg h0]
theorem WoS.rem_ok (h0 : s.may h = 0) (hi : s.e.rem h c = (u, x, e)) : s.rem h c = (u, x, { s with e := e }) := by unfold WoS.rem; rw [if_pos h0, hi]
theorem WoS.rem_bad (h0 : s.may h ≠ 0) : s.rem h c = (V3.z, s.may h, s) := by unfold WoS.rem; rw [if_neg h0]
theorem WoS.del_ok (h0 : s.may h = 0) (hi : s.e.del h = (n, x, e)) : s.del h = (n, x, { s with e := e }) := by unfold WoS.del; rw [if_pos h0, hi]
theorem WoS.del_bad (h0 : s.may h ≠ 0) : s.del h = (0, s.may h, s) := by unfold WoS.del; rw [if_neg h0]
theorem WoS.set_ok (hi : s.e.set h c v = (x, e)) : s.set h c v = (x, { s with e := e }) := by unfold WoS.set; rw [hi]
theorem WoS.create_ok (h0 : s.free = 0) {d : Hdl} {cs : List ACell} (hi : giveV 1 s.e.cs = (d, x, cs)) : s.create = (d, x, { s with e := ⟨s.e.top, cs, s.e.l⟩ }) := by unfold WoS.create WoS.give; rw [if_pos h0, hi]
theorem WoS.create_bad (h0 : s.free ≠ 0) : s.create = ((0, 0), s.free, s) := by unfold WoS.create; rw [if_neg h0]
end
/-- A new reader of a component. -/
def WoS.reader (s : WoS) (c : Int) : Int × Int × WoS := if s.free = 0 then (match s.e.slot c with
  | none => (0, 11, s)
  | some x => if x.2.F.isSome then (if x.2.rds.length < 100 then ((x.2.rds.length : Nat), 0, { s with e := ⟨s.e.top, s.e.cs, s.e.l.set c.toNat (x.1, { x.2 with rds := x.2.rds ++ [x.2.evs.length] })⟩ }) else (0, 2, s)) else (0, 14, s)) else (0, s.free, s)
/-- What a reader is told. -/
def WoS.read (s : WoS) (c r : Int) : List Ev × Bool × Int × WoS := match s.e.slot c with
  | none => ([], false, 11, s)
  | some x => if x.2.F.isSome then (match (if 0 ≤ r then x.2.rds[r.toNat]? else none) with
    | none => ([], false, 8, s)
    | some k => (newE x.2.d.b.toNat x.2.evs k, lagE x.2.d.b.toNat x.2.evs k, 0, { s with e := ⟨s.e.top, s.e.cs, s.e.l.set c.toNat (x.1, { x.2 with rds := x.2.rds.set r.toNat x.2.evs.length })⟩ })) else ([], false, 14, s)
section
variable {s : WoS} {c r : Int} {X : Nat} {t : SlS}
theorem WoS.reader_bad (h0 : s.free ≠ 0) : s.reader c = (0, s.free, s) := by unfold WoS.reader; rw [if_neg h0]
theorem WoS.reader_comp (h0 : s.free = 0) (hc : s.e.slot c = none) : s.reader c = (0, 11, s) := by unfold WoS.reader; rw [if_pos h0, hc]
theorem WoS.reader_flag (h0 : s.free = 0) (hc : s.e.slot c = some (X, t)) (hF : t.F = none) : s.reader c = (0, 14, s) := by unfold WoS.reader; rw [if_pos h0, hc]; simp only; rw [hF]; rfl
theorem WoS.reader_many (h0 : s.free = 0) (hc : s.e.slot c = some (X, t)) {f : Nat} (hF : t.F = some f) (hr : ¬ t.rds.length < 100) : s.reader c = (0, 2, s) := by unfold WoS.reader; rw [if_pos h0, hc]; simp only; rw [if_pos (show t.F.isSome = true by rw [hF]; rfl), if_neg hr]
theorem WoS.reader_ok (h0 : s.free = 0) {j : Nat} (hc : s.e.l[j]? = some (X, t)) {f : Nat} (hF : t.F = some f) (hr : t.rds.length < 100) : s.reader (j : Int) = (((t.rds.length : Nat) : Int), 0, { s with e := ⟨s.e.top, s.e.cs, s.e.l.set j (X, { t with rds := t.rds ++ [t.evs.length] })⟩ }) := by
  unfold WoS.reader; rw [if_pos h0, EnS.slot_nat, hc]; simp only [Int.toNat_natCast]; rw [if_pos (show t.F.isSome = true by rw [hF]; rfl), if_pos hr]
theorem WoS.read_comp (hc : s.e.slot c = none) : s.read c r = ([], false, 11, s) := by unfold WoS.read; rw [hc]
theorem WoS.read_flag (hc : s.e.slot c = some (X, t)) (hF : t.F = none) : s.read c r = ([], false, 14, s) := by unfold WoS.read; rw [hc]; simp only; rw [hF]; rfl
theorem WoS.read_no (hc : s.e.slot c = some (X, t)) {f : Nat} (hF : t.F = some f) (hr : r < 0 ∨ (t.rds.length : Int) ≤ r) : s.read c r = ([], false, 8, s) := by
  unfold WoS.read; rw [hc]; simp only; rw [if_pos (show t.F.isSome = true by rw [hF]; rfl)]
  have : (if 0 ≤ r then t.rds[r.toNat]? else none) = none := by
    split
    · exact List.getElem?_eq_none (by omega)
    · rfl
  rw [this]
theorem WoS.read_ok {j i k : Nat} (hc : s.e.l[j]? = some (X, t)) {f : Nat} (hF : t.F = some f) (hr : t.rds[i]? = some k) : s.read (j : Int) (i : Int) = (newE t.d.b.toNat t.evs k, lagE t.d.b.toNat t.evs k, 0, { s with e := ⟨s.e.top, s.e.cs, s.e.l.set j (X, { t with rds := t.rds.set i t.evs.length })⟩ }) := by
  unfold WoS.read; rw [EnS.slot_nat, hc]; simp only [Int.toNat_natCast]; rw [if_pos (show t.F.isSome = true by rw [hF]; rfl), if_pos (by omega), hr]
end
end Go.Proofs.YtiafdlofcjbllaaGreatDoor
