/-
  Two slots that differ in nothing that is told.
-/
import Derived.Test.YtiafdlofcjbllaaGreatDoorJU
set_option maxRecDepth 100000
namespace Go.Proofs.YtiafdlofcjbllaaGreatDoor
open Go Go.RowKit
structure AlD (s t : SlS) : Prop where
  d_ : s.d = t.d
  S : s.S = t.S
  g : s.g = t.g
  evs : s.evs = t.evs
  rds : s.rds = t.rds
  F : s.F.isSome = t.F.isSome
section
variable {s t : SlS} (h : AlD s t) (i : Int) (v : V3)
include h
theorem AlD.err : s.err i v = t.err i v := by unfold SlS.err; rw [h.d_]
theorem AlD.nt (k : Int) : s.noted k i = t.noted k i := by unfold SlS.noted ntE; rw [h.F, h.evs]
theorem AlD.get : s.get i = t.get i := by unfold SlS.get; rw [h.S, h.g]
theorem AlD.has : s.has i = t.has i := by unfold SlS.has; rw [h.S]
theorem AlD.putU : s.putU i v = t.putU i v := by unfold SlS.putU; rw [h.err, h.get]
theorem AlD.putB : s.putB i v = t.putB i v := by unfold SlS.putB; rw [h.err, h.has]
theorem AlD.errSet : s.errSet i v = t.errSet i v := by unfold SlS.errSet; rw [h.err, h.S]
theorem AlD.put : AlD (s.put i v) (t.put i v) := by
  unfold SlS.put
  rw [h.err, h.S, h.g, h.nt]
  split
  · exact ⟨h.d_, rfl, rfl, rfl, h.rds, h.F⟩
  · exact h
theorem AlD.take : AlD (s.take i) (t.take i) := by
  unfold SlS.take
  rw [h.S, h.nt]
  split
  · exact ⟨h.d_, rfl, h.g, rfl, h.rds, h.F⟩
  · exact h
theorem AlD.set : AlD (s.set i v) (t.set i v) := by
  unfold SlS.set
  rw [h.errSet, h.g, h.nt]
  split
  · exact ⟨h.d_, h.S, rfl, rfl, h.rds, h.F⟩
  · exact h
theorem AlD.rdr : AlD { s with rds := s.rds ++ [s.evs.length] } { t with rds := t.rds ++ [t.evs.length] } := ⟨h.d_, h.S, h.g, h.evs, by show s.rds ++ [s.evs.length] = t.rds ++ [t.evs.length]; rw [h.rds, h.evs], h.F⟩
theorem AlD.rd (r : Nat) : AlD { s with rds := s.rds.set r s.evs.length } { t with rds := t.rds.set r t.evs.length } := ⟨h.d_, h.S, h.g, h.evs, by show s.rds.set r s.evs.length = t.rds.set r t.evs.length; rw [h.rds, h.evs], h.F⟩
end
end Go.Proofs.YtiafdlofcjbllaaGreatDoor
