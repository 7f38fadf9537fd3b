/-
  SlotNotes: the plain law.
-/
import Derived.Test.YtmdjpeblbnbjmaaL11c
set_option maxRecDepth 100000
namespace Go.Proofs.Ytmdjpeblbnbjmaa
open Go Go.RowKit
structure NoI (s : SlS) (d : V3) (f : Nat) (v : Value) (k : Nat) : Prop where
  d_ : s.d = d
  F : s.F = some f
  pv : s.pv = v
  rds : s.rds = [0]
  len : s.evs.length ≤ k
theorem SlS.take_pv {s : SlS} {i : Int} : (s.take i).pv = s.pv := by unfold SlS.take; split <;> rfl
theorem SlS.set_pv {s : SlS} {i : Int} {v : V3} : (s.set i v).pv = s.pv := by unfold SlS.set; split <;> rfl
section
variable {s : SlS} {d : V3} {f k : Nat} {v : Value} {i : Int} {x : V3}
theorem NoI.put (h : NoI s d f v k) : NoI (s.put i x) d f v (k + 1) := ⟨by rw [SlS.put_d, h.d_], by rw [SlS.put_F, h.F], by rw [SlS.put_pv, h.pv], by rw [SlS.put_rds, h.rds], Nat.le_trans (SlS.put_len s i x) (by have := h.len; omega)⟩
theorem NoI.take (h : NoI s d f v k) : NoI (s.take i) d f v (k + 1) := ⟨by rw [SlS.take_d, h.d_], by rw [SlS.take_F, h.F], by rw [SlS.take_pv, h.pv], by rw [SlS.take_rds, h.rds], Nat.le_trans (SlS.take_len s i) (by have := h.len; omega)⟩
theorem NoI.set (h : NoI s d f v k) : NoI (s.set i x) d f v (k + 1) := ⟨by rw [SlS.set_d, h.d_], by rw [SlS.set_F, h.F], by rw [SlS.set_pv, h.pv], by rw [SlS.set_rds, h.rds], Nat.le_trans (SlS.set_len s i x) (by have := h.len; omega)⟩
theorem NoI.skip (h : NoI s d f v k) : NoI s d f v (k + 1) := ⟨h.d_, h.F, h.pv, h.rds, by have := h.len; omega⟩
theorem SlS.put_evs (hF : s.F = some f) (h : s.err i x = 0) : (s.put i x).evs = s.evs ++ [(kdE (s.has i), i)] := by
  rw [SlS.put_of h]
  show ntE s.F s.evs _ _ = _
  rw [hF]; rfl
theorem SlS.take_evs (hF : s.F = some f) (h : s.has i = true) : (s.take i).evs = s.evs ++ [(3, i)] := by
  unfold SlS.take
  rw [show memS s.S i = true from h, if_pos rfl]
  show ntE s.F s.evs _ _ = _
  rw [hF]; rfl
theorem SlS.set_evs (hF : s.F = some f) (h : s.errSet i x = 0) : (s.set i x).evs = s.evs ++ [(2, i)] := by
  unfold SlS.set
  rw [if_pos h]
  show ntE s.F s.evs _ _ = _
  rw [hF]; rfl
theorem SlS.errSet_has (hw : s.Wf) (hx : okVal x = true ∧ x.k = s.d.k) : decide (s.errSet i x = 0) = s.has i := by
  cases hh : s.has i with
  | true => exact decide_eq_true (SlS.errSet_iff.2 ⟨SlS.err_iff.2 ⟨SlS.has_small hw.small hh, hx⟩, hh⟩)
  | false => exact decide_eq_false (fun h => by rw [(SlS.errSet_iff.1 h).2] at hh; cases hh)
theorem SlS.errSet_nine (hd : 1 ≤ s.d.k ∧ s.d.k ≤ 3) : s.errSet i ⟨9, 0, 0⟩ ≠ 0 := fun h => by
  have h1 := (SlS.err_iff.1 (SlS.errSet_iff.1 h).1).2.2
  simp only at h1
  omega
end
end Go.Proofs.Ytmdjpeblbnbjmaa
