/-
  SlotPlays: the plain law: a Slot and the document's, side by side. No function of the program is walked here.
-/
import Derived.Test.YtenipgddbpfidaaDoorJU
set_option maxRecDepth 100000
namespace Go.Proofs.YtenipgddbpfidaaDoor
open Go Go.RowKit
def SlS.rdr (s : SlS) : SlS := { s with rds := s.rds ++ [s.evs.length] }
structure AlD (s t : SlS) : Prop where
  d_ : s.d = t.d
  S : s.S = t.S
  g : s.g = t.g
  evs : s.evs = t.evs
  rds : s.rds = t.rds
  F : s.F.isSome = t.F.isSome
section
variable {s t : SlS} (h : AlD s t) (i : Int) (v : V3)
include h
theorem AlD.err : s.err i v = t.err i v := by unfold SlS.err; rw [h.d_]
theorem AlD.nt (k : Int) : s.noted k i = t.noted k i := by unfold SlS.noted ntE; rw [h.F, h.evs]
theorem AlD.get : s.get i = t.get i := by unfold SlS.get; rw [h.S, h.g]
theorem AlD.has : s.has i = t.has i := by unfold SlS.has; rw [h.S]
theorem AlD.putU : s.putU i v = t.putU i v := by unfold SlS.putU; rw [h.err, h.get]
theorem AlD.putB : s.putB i v = t.putB i v := by unfold SlS.putB; rw [h.err, h.has]
theorem AlD.errSet : s.errSet i v = t.errSet i v := by unfold SlS.errSet; rw [h.err, h.S]
theorem AlD.put : AlD (s.put i v) (t.put i v) := by
  unfold SlS.put
  rw [h.err, h.S, h.g, h.nt]
  split
  · exact ⟨h.d_, rfl, rfl, rfl, h.rds, h.F⟩
  · exact h
theorem AlD.take : AlD (s.take i) (t.take i) := by
  unfold SlS.take
  rw [h.S, h.nt]
  split
  · exact ⟨h.d_, rfl, h.g, rfl, h.rds, h.F⟩
  · exact h
theorem AlD.set : AlD (s.set i v) (t.set i v) := by
  unfold SlS.set
  rw [h.errSet, h.g, h.nt]
  split
  · exact ⟨h.d_, h.S, rfl, rfl, h.rds, h.F⟩
  · exact h
theorem AlD.rdr : AlD { s with rds := s.rds ++ [s.evs.length] } { t with rds := t.rds ++ [t.evs.length] } := ⟨h.d_, h.S, h.g, h.evs, by show s.rds ++ [s.evs.length] = t.rds ++ [t.evs.length]; rw [h.rds, h.evs], h.F⟩
theorem AlD.rd (r : Nat) : AlD { s with rds := s.rds.set r s.evs.length } { t with rds := t.rds.set r t.evs.length } := ⟨h.d_, h.S, h.g, h.evs, by show s.rds.set r s.evs.length = t.rds.set r t.evs.length; rw [h.rds, h.evs], h.F⟩
end
/-- How far a script has come: at most so many events; the reader's place, if there is one. -/
structure SpI (d : V3) (s t : SlS) (k : Nat) : Prop where
  al : AlD s t
  d_ : s.d = d
  len : s.evs.length ≤ k
  rd : 0 < d.b → ∃ p, s.rds = [p] ∧ p ≤ s.evs.length
  ok : s.F.isSome = decide (0 < d.b)
section
variable {d : V3} {s t : SlS} {k : Nat} (h : SpI d s t k) (i : Int) (v : V3)
include h
theorem SpI.put : SpI d (s.put i v) (t.put i v) (k + 1) where
  al := h.al.put i v
  d_ := by rw [SlS.put_d]; exact h.d_
  len := by have := SlS.put_len s i v; have := h.len; omega
  rd := fun hb => by
    obtain ⟨p, h1, h2⟩ := h.rd hb
    refine ⟨p, by rw [SlS.put_rds]; exact h1, ?_⟩
    have h3 : s.evs.length ≤ (s.put i v).evs.length := by unfold SlS.put SlS.noted ntE; split <;> (try split) <;> simp
    omega
  ok := by rw [SlS.put_F]; exact h.ok
theorem SpI.take : SpI d (s.take i) (t.take i) (k + 1) where
  al := h.al.take i
  d_ := by rw [SlS.take_d]; exact h.d_
  len := by have := SlS.take_len s i; have := h.len; omega
  rd := fun hb => by
    obtain ⟨p, h1, h2⟩ := h.rd hb
    refine ⟨p, by rw [SlS.take_rds]; exact h1, ?_⟩
    have h3 : s.evs.length ≤ (s.take i).evs.length := by unfold SlS.take SlS.noted ntE; split <;> (try split) <;> simp
    omega
  ok := by rw [SlS.take_F]; exact h.ok
theorem SpI.set : SpI d (s.set i v) (t.set i v) (k + 1) where
  al := h.al.set i v
  d_ := by rw [SlS.set_d]; exact h.d_
  len := by have := SlS.set_len s i v; have := h.len; omega
  rd := fun hb => by
    obtain ⟨p, h1, h2⟩ := h.rd hb
    refine ⟨p, by rw [SlS.set_rds]; exact h1, ?_⟩
    have h3 : s.evs.length ≤ (s.set i v).evs.length := by unfold SlS.set SlS.noted ntE; split <;> (try split) <;> simp
    omega
  ok := by rw [SlS.set_F]; exact h.ok
theorem SpI.more : SpI d s t (k + 1) := ⟨h.al, h.d_, by have := h.len; omega, h.rd, h.ok⟩
theorem SpI.read : SpI d { s with rds := s.rds.set 0 s.evs.length } { t with rds := t.rds.set 0 t.evs.length } (k + 1) where
  al := h.al.rd 0
  d_ := h.d_
  len := by have := h.len; show s.evs.length ≤ k + 1; omega
  rd := fun hb => by
    obtain ⟨p, h1, h2⟩ := h.rd hb
    exact ⟨s.evs.length, by show s.rds.set 0 s.evs.length = [s.evs.length]; rw [h1]; rfl, Nat.le_refl _⟩
  ok := h.ok
end
theorem SpI.start {d : V3} {v : Value} {F F' : Option Nat} (h : (newSl d v F).Ok) (h' : (newSl d (.pointer none) F').Ok) : SpI d (newSl d v F).rdr (newSl d (.pointer none) F').rdr 0 where
  al := AlD.rdr ⟨rfl, rfl, rfl, rfl, rfl, h.flag.trans h'.flag.symm⟩
  d_ := rfl
  len := Nat.le_refl _
  rd := fun _ => ⟨0, rfl, Nat.le_refl _⟩
  ok := h.flag
theorem SpI.start0 {d : V3} {v : Value} {F F' : Option Nat} (h : (newSl d v F).Ok) (h' : (newSl d (.pointer none) F').Ok) (hb : ¬ 0 < d.b) : SpI d (newSl d v F) (newSl d (.pointer none) F') 0 where
  al := ⟨rfl, rfl, rfl, rfl, rfl, h.flag.trans h'.flag.symm⟩
  d_ := rfl
  len := Nat.le_refl _
  rd := fun h2 => absurd h2 hb
  ok := h.flag
end Go.Proofs.YtenipgddbpfidaaDoor
