/-
  Things with parts (ent.Ents), 1: what its calls answer and leave behind. No function of the program is walked here.
-/
import Derived.Test.YtcnbmfaicbkhcaaGreatDoorJV
import Derived.Test.YtcnbmfaicbkhcaaGreatDoorJW
set_option maxRecDepth 100000
namespace Go.Proofs.YtcnbmfaicbkhcaaGreatDoor
open Go Go.RowKit
structure EnS where
  top : Int
  cs : List ACell
  l : List Cmp
/-- The error of a handle. -/
def EnS.live (s : EnS) (h : Hdl) : Int := if stV s.cs h = 0 then 4 else if stV s.cs h = 2 then 5 else 0
def EnS.slot (s : EnS) (c : Int) : Option Cmp := if 0 ≤ c then s.l[c.toNat]? else none
def EnS.del (s : EnS) (h : Hdl) : Int × Int × EnS := if s.live h = 0 then (((ofN s.l h.1 s.l.length).length : Nat), 0, ⟨s.top, (delA s.top s.cs h).2, strL s.l h.1⟩) else (0, s.live h, s)
def EnS.ins (s : EnS) (h : Hdl) (c : Int) (v : V3) : V3 × Bool × Int × EnS := if s.live h = 0 then (match s.slot c with
  | some x => (x.2.putU h.1 v, x.2.putB h.1 v, x.2.err h.1 v, ⟨s.top, s.cs, s.l.set c.toNat (x.1, x.2.put h.1 v)⟩)
  | none => (V3.z, false, 11, s)) else (V3.z, false, s.live h, s)
def EnS.get (s : EnS) (h : Hdl) (c : Int) : V3 × Int := if s.live h = 0 then (match s.slot c with
  | some x => if x.2.has h.1 then (x.2.get h.1, 0) else (V3.z, 10)
  | none => (V3.z, 11)) else (V3.z, s.live h)
def EnS.rem (s : EnS) (h : Hdl) (c : Int) : V3 × Int × EnS := if s.live h = 0 then (match s.slot c with
  | some x => if x.2.has h.1 then (x.2.get h.1, 0, ⟨s.top, s.cs, s.l.set c.toNat (x.1, x.2.take h.1)⟩) else (V3.z, 10, s)
  | none => (V3.z, 11, s)) else (V3.z, s.live h, s)
def EnS.set (s : EnS) (h : Hdl) (c : Int) (v : V3) : Int × EnS := if s.live h = 0 then (match s.slot c with
  | some x => (x.2.errSet h.1 v, ⟨s.top, s.cs, s.l.set c.toNat (x.1, x.2.set h.1 v)⟩)
  | none => (11, s)) else (s.live h, s)
def EnS.parts (s : EnS) (h : Hdl) : List Nat × Int := if s.live h = 0 then (ofN s.l h.1 s.l.length, 0) else ([], s.live h)
/-- At most so many events in each component. -/
def EvL (k : Nat) (l : List Cmp) : Prop := ∀ x ∈ l, x.2.evs.length ≤ k
section
variable {s : EnS} {h : Hdl} {c : Int} {v : V3} {k : Nat}
theorem EnS.live_zero : s.live h = 0 ↔ stV s.cs h = 1 := by
  unfold EnS.live
  rcases stV_cases s.cs h with e | e | e <;> simp [e]
theorem EnS.live_wf (h0 : s.live h = 0) (hl : s.cs.length ≤ 65536) : (Lit.int .i64 h.1).wf = true := by
  obtain ⟨j, h1, h2, _⟩ := stV_one (EnS.live_zero.1 h0)
  rw [h1]
  exact wf_nat (by omega)
theorem EnS.slot_none (h0 : s.slot c = none) : c < 0 ∨ (s.l.length : Int) ≤ c := by
  unfold EnS.slot at h0
  split at h0
  · have := List.getElem?_eq_none_iff.1 h0
    omega
  · omega
theorem EnS.slot_some {x : Cmp} (h0 : s.slot c = some x) : ∃ j : Nat, c = (j : Int) ∧ s.l[j]? = some x := by
  unfold EnS.slot at h0
  split at h0
  · exact ⟨c.toNat, by omega, h0⟩
  · cases h0
theorem EnS.slot_nat {j : Nat} : s.slot (j : Int) = s.l[j]? := by
  unfold EnS.slot
  rw [if_pos (by omega)]
  rfl
theorem EvL.set {l : List Cmp} (h : EvL k l) {j : Nat} {x : Cmp} (hx : x.2.evs.length ≤ k) : EvL k (l.set j x) := fun y hy => by
  rcases List.mem_or_eq_of_mem_set hy with h1 | rfl
  · exact h y h1
  · exact hx
theorem EvL.more {l : List Cmp} (h : EvL k l) : EvL (k + 1) l := fun y hy => Nat.le_succ_of_le (h y hy)
theorem EvL.strip {l : List Cmp} (h : EvL k l) (i : Int) : EvL (k + 1) (strL l i) := fun y hy => by
  obtain ⟨x, hx, rfl⟩ := List.mem_map.1 hy
  have := h x hx
  have := SlS.take_len x.2 i
  show (x.2.take i).evs.length ≤ _
  omega
theorem EnS.slot_mem {x : Cmp} (h0 : s.slot c = some x) : x ∈ s.l := by
  obtain ⟨j, _, h1⟩ := EnS.slot_some h0
  exact List.mem_of_getElem? h1
theorem EvL.ins (h0 : EvL k s.l) : EvL (k + 1) (s.ins h c v).2.2.2.l := by
  unfold EnS.ins
  split
  · split
    · rename_i x hx
      have := h0 x (EnS.slot_mem hx)
      have := SlS.put_len x.2 h.1 v
      exact h0.more.set (by show (x.2.put h.1 v).evs.length ≤ _; omega)
    · exact h0.more
  · exact h0.more
theorem EvL.rem (h0 : EvL k s.l) : EvL (k + 1) (s.rem h c).2.2.l := by
  unfold EnS.rem
  split
  · split
    · rename_i x hx
      split
      · have := h0 x (EnS.slot_mem hx)
        have := SlS.take_len x.2 h.1
        exact h0.more.set (by show (x.2.take h.1).evs.length ≤ _; omega)
      · exact h0.more
    · exact h0.more
  · exact h0.more
theorem EvL.sets (h0 : EvL k s.l) : EvL (k + 1) (s.set h c v).2.l := by
  unfold EnS.set
  split
  · split
    · rename_i x hx
      have := h0 x (EnS.slot_mem hx)
      have := SlS.set_len x.2 h.1 v
      exact h0.more.set (by show (x.2.set h.1 v).evs.length ≤ _; omega)
    · exact h0.more
  · exact h0.more
theorem EvL.del (h0 : EvL k s.l) : EvL (k + 1) (s.del h).2.2.l := by
  unfold EnS.del
  split
  · exact h0.strip _
  · exact h0.more
theorem EvL.lt {l : List Cmp} (h : EvL k l) (hk : k < 4000000000) : ∀ x ∈ l, x.2.evs.length < 4611686018427387904 := fun x hx => by
  have := h x hx
  omega
end
end Go.Proofs.YtcnbmfaicbkhcaaGreatDoor
