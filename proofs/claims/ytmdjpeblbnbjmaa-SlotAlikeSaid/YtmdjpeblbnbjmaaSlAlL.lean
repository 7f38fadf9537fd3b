/-
  SlotAlike: the plain law. No function of the program is walked here.
-/
import Derived.Test.YtmdjpeblbnbjmaaSlNoL
import Derived.Test.YtmdjpeblbnbjmaaRgLaw
set_option maxRecDepth 100000
namespace Go.Proofs.Ytmdjpeblbnbjmaa
open Go Go.RowKit
/-- Two slots that answer alike. -/
structure AlK (s t : SlS) : Prop where
  k : s.d.k = t.d.k
  S : s.S = t.S
  g : s.g = t.g
theorem AlK.err {s t : SlS} (h : AlK s t) (i : Int) (v : V3) : s.err i v = t.err i v := by unfold SlS.err; rw [h.k]
theorem AlK.put {s t : SlS} (h : AlK s t) (i : Int) (v : V3) : AlK (s.put i v) (t.put i v) := by
  unfold SlS.put
  rw [h.err, h.S, h.g]
  split
  · exact ⟨h.k, rfl, rfl⟩
  · exact h
theorem AlK.take {s t : SlS} (h : AlK s t) (i : Int) : AlK (s.take i) (t.take i) := by
  unfold SlS.take
  rw [h.S]
  split
  · exact ⟨h.k, rfl, h.g⟩
  · exact h
theorem AlK.errSet {s t : SlS} (h : AlK s t) (i : Int) (v : V3) : s.errSet i v = t.errSet i v := by unfold SlS.errSet; rw [h.err, h.S]
theorem AlK.set {s t : SlS} (h : AlK s t) (i : Int) (v : V3) : AlK (s.set i v) (t.set i v) := by
  unfold SlS.set
  rw [h.errSet, h.g]
  split
  · exact ⟨h.k, h.S, rfl⟩
  · exact h
theorem AlK.get {s t : SlS} (h : AlK s t) (i : Int) : s.get i = t.get i := by unfold SlS.get; rw [h.S, h.g]
theorem AlK.has {s t : SlS} (h : AlK s t) (i : Int) : s.has i = t.has i := by unfold SlS.has; rw [h.S]
theorem AlK.putU {s t : SlS} (h : AlK s t) (i : Int) (v : V3) : s.putU i v = t.putU i v := by unfold SlS.putU; rw [h.err, h.get]
theorem AlK.putB {s t : SlS} (h : AlK s t) (i : Int) (v : V3) : s.putB i v = t.putB i v := by unfold SlS.putB; rw [h.err, h.has]
/-- A call: the slot after it, the value, whether there was one, the error. -/
def alS (k i : Int) (x : V3) (s : SlS) : SlS := if k = 0 then s.put i x else if k = 1 then s.take i else if k = 2 then s else s.set i x
def alU (k i : Int) (x : V3) (s : SlS) : V3 := if k = 0 then s.putU i x else if k = 1 then s.get i else if k = 2 then s.get i else V3.z
def alB (k i : Int) (x : V3) (s : SlS) : Bool := if k = 0 then s.putB i x else if k = 1 then s.has i else if k = 2 then s.has i else false
def alE (k i : Int) (x : V3) (s : SlS) : Int := if k = 0 then s.err i x else if k = 1 then 0 else if k = 2 then 0 else s.errSet i x
theorem AlK.call {s t : SlS} (h : AlK s t) (k i : Int) (x : V3) : AlK (alS k i x s) (alS k i x t) ∧ alU k i x s = alU k i x t ∧ alB k i x s = alB k i x t ∧ alE k i x s = alE k i x t := by
  unfold alS alU alB alE
  split
  · exact ⟨h.put i x, h.putU i x, h.putB i x, h.err i x⟩
  · split
    · exact ⟨h.take i, h.get i, h.has i, rfl⟩
    · split
      · exact ⟨h, h.get i, h.has i, rfl⟩
      · exact ⟨h.set i x, rfl, rfl, h.errSet i x⟩
theorem ntE_le (F : Option Nat) (evs : List Ev) (k i : Int) : (ntE F evs k i).length ≤ evs.length + 1 := by
  unfold ntE
  split
  · simp
  · omega
theorem alS_le (k i : Int) (x : V3) (s : SlS) : (alS k i x s).evs.length ≤ s.evs.length + 1 := by
  unfold alS SlS.put SlS.take SlS.set SlS.noted
  (repeat' split) <;> first | exact ntE_le _ _ _ _ | exact Nat.le_succ _
theorem alS_pv (k i : Int) (x : V3) (s : SlS) : (alS k i x s).pv = s.pv := by
  unfold alS SlS.put SlS.take SlS.set
  (repeat' split) <;> rfl
theorem set_same3 {l : List Cmp} {c X : Nat} {s : SlS} (h : l[c]? = some (X, s)) : l.set c (X, s) = l := by
  obtain ⟨h1, h2⟩ := List.getElem?_eq_some_iff.1 h
  rw [← h2, List.set_getElem_self]
theorem al_0 (i : Int) (x : V3) (s : SlS) : alS 0 i x s = s.put i x ∧ alU 0 i x s = s.putU i x ∧ alB 0 i x s = s.putB i x ∧ alE 0 i x s = s.err i x := ⟨rfl, rfl, rfl, rfl⟩
theorem al_1 (i : Int) (x : V3) (s : SlS) : alS 1 i x s = s.take i ∧ alU 1 i x s = s.get i ∧ alB 1 i x s = s.has i ∧ alE 1 i x s = 0 := ⟨rfl, rfl, rfl, rfl⟩
theorem al_2 (i : Int) (x : V3) (s : SlS) : alS 2 i x s = s ∧ alU 2 i x s = s.get i ∧ alB 2 i x s = s.has i ∧ alE 2 i x s = 0 := ⟨rfl, rfl, rfl, rfl⟩
theorem al_3 {k : Int} (i : Int) (x : V3) (s : SlS) (h0 : ¬ k = 0) (h1 : ¬ k = 1) (h2 : ¬ k = 2) : alS k i x s = s.set i x ∧ alU k i x s = V3.z ∧ alB k i x s = false ∧ alE k i x s = s.errSet i x := by
  unfold alS alU alB alE
  rw [if_neg h0, if_neg h1, if_neg h2, if_neg h0, if_neg h1, if_neg h2, if_neg h0, if_neg h1, if_neg h2, if_neg h0, if_neg h1, if_neg h2]
  exact ⟨rfl, rfl, rfl, rfl⟩
/-- All slots alike: the first k as t' says, the others as t does. -/
def AlI (l : List Cmp) (k : Nat) (t t' : SlS) (b : Nat) : Prop := ∀ c y, l[c]? = some y → AlK y.2 (if c < k then t' else t) ∧ y.2.evs.length ≤ (if c < k then b + 1 else b)
theorem AlI.step {l : List Cmp} {k : Nat} {t t' : SlS} {b : Nat} (h : AlI l k t t' b) {X : Nat} {s s' : SlS} (hk : l[k]? = some (X, s)) (ha : AlK s' t') (hb : s'.evs.length ≤ s.evs.length + 1) : AlI (l.set k (X, s')) (k + 1) t t' b := fun c y hy => by
  rw [List.getElem?_set] at hy
  have h0 := h k _ hk
  simp only [Nat.lt_irrefl, if_false] at h0
  by_cases e : k = c
  · subst e
    have h1 := (List.getElem?_eq_some_iff.1 hk).1
    rw [if_pos rfl, if_pos h1] at hy
    injection hy with hy
    subst hy
    rw [if_pos (Nat.lt_succ_self _), if_pos (Nat.lt_succ_self _)]
    exact ⟨ha, Nat.le_trans hb (Nat.succ_le_succ h0.2)⟩
  · rw [if_neg e] at hy
    have h2 := h c y hy
    by_cases hc : c < k
    · rw [if_pos hc, if_pos hc] at h2
      rw [if_pos (by omega), if_pos (by omega)]
      exact h2
    · rw [if_neg hc, if_neg hc] at h2
      rw [if_neg (by omega), if_neg (by omega)]
      exact h2
theorem AlI.now {l : List Cmp} {k : Nat} {t t' : SlS} {b : Nat} (h : AlI l k t t' b) {X : Nat} {s : SlS} (hk : l[k]? = some (X, s)) : AlK s t ∧ s.evs.length ≤ b := by
  have h0 := h k _ hk
  simpa only [Nat.lt_irrefl, if_false] using h0
theorem AlI.old {l : List Cmp} {k c : Nat} {t t' : SlS} {b : Nat} (h : AlI l k t t' b) (hc : c < k) {X : Nat} {s : SlS} (hk : l[c]? = some (X, s)) : AlK s t' := by
  have h0 := h c _ hk
  rw [if_pos hc] at h0
  exact h0.1
theorem AlI.all {l : List Cmp} {k : Nat} {t t' : SlS} {b : Nat} (h : AlI l k t t' b) (hk : l.length ≤ k) (t'' : SlS) : AlI l 0 t' t'' (b + 1) := fun c y hy => by
  have h1 := (List.getElem?_eq_some_iff.1 hy).1
  have h0 := h c y hy
  rw [if_pos (by omega), if_pos (by omega)] at h0
  exact h0
theorem AlI.more {l : List Cmp} {t t' t'' : SlS} {b : Nat} (h : AlI l 0 t t' b) : AlI l 0 t t'' b := fun c y hy => by
  have h0 := h c y hy
  simpa using h0
theorem AlI.nil (t t' : SlS) : AlI [] 0 t t' 0 := fun c y hy => by simp at hy
theorem AlI.add {l : List Cmp} {t t' : SlS} (h : AlI l 0 t t' 0) {X : Nat} {d : V3} {v : Value} {F : Option Nat} (ht : AlK (newSl d v F) t) : AlI (l ++ [(X, newSl d v F)]) 0 t t' 0 := fun c y hy => by
  by_cases hc : c < l.length
  · rw [List.getElem?_append_left hc] at hy
    exact h c y hy
  · rw [List.getElem?_append_right (by omega)] at hy
    have hc0 : c - l.length = 0 := by
      rcases Nat.eq_zero_or_pos (c - l.length) with h0 | h0
      · exact h0
      · rw [List.getElem?_eq_none (by simp; omega)] at hy; cases hy
    rw [hc0] at hy
    simp at hy
    subst hy
    simp only [Nat.not_lt_zero, if_false]
    exact ⟨ht, Nat.le_refl _⟩
end Go.Proofs.Ytmdjpeblbnbjmaa
