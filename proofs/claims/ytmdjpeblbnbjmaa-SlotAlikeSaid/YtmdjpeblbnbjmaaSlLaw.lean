/-
  One kind of place behind another: plain law of what is put, taken, changed. No function of the program stands here.
-/
import Derived.Test.YtmdjpeblbnbjmaaSt5
set_option maxRecDepth 100000
namespace Go.Proofs.Ytmdjpeblbnbjmaa
open Go Go.RowKit

section
variable {s : SlS} {i j : Int} {v w : V3}
theorem SlS.err_iff : s.err i v = 0 ↔ (0 ≤ i ∧ i < 65536) ∧ okVal v = true ∧ v.k = s.d.k := by
  constructor
  · intro h
    obtain ⟨⟨j, rfl, hj⟩, h2, h3⟩ := err_zero (kd := s.d.k) h
    exact ⟨by omega, h2, h3⟩
  · intro ⟨h1, h2, h3⟩
    unfold SlS.err
    rw [if_pos (okI_iff.2 h1), if_pos (by simp [h2, h3])]
theorem SlS.err_congr {s t : SlS} (h : s.d = t.d) : s.err i v = t.err i v := by unfold SlS.err; rw [h]
theorem SlS.put_of (h : s.err i v = 0) : s.put i v = { s with S := insS i.toNat s.S, g := pG s.g i v, evs := s.noted (kdE (memS s.S i)) i } := by unfold SlS.put; rw [if_pos h]
theorem SlS.put_no (h : s.err i v ≠ 0) : s.put i v = s := by unfold SlS.put; rw [if_neg h]
theorem SlS.put_has (h : s.err i v = 0) : (s.put i v).has j = (decide (j = i) || s.has j) := by
  obtain ⟨⟨h0, h1⟩, _⟩ := SlS.err_iff.1 h
  rw [SlS.put_of h]
  obtain ⟨n, rfl⟩ := Int.eq_ofNat_of_zero_le h0
  show memS (insS _ s.S) j = _
  rw [Int.toNat_natCast, Bool.eq_iff_iff]
  simp only [Bool.or_eq_true, decide_eq_true_eq]
  constructor
  · intro hm
    obtain ⟨k, rfl, hk⟩ := memS_in hm
    rcases mem_insS.1 hk with rfl | hk
    · exact .inl rfl
    · exact .inr (memS_iff.2 hk)
  · rintro (rfl | hm)
    · exact memS_iff.2 (mem_insS.2 (.inl rfl))
    · obtain ⟨k, rfl, hk⟩ := memS_in hm
      exact memS_iff.2 (mem_insS.2 (.inr hk))
theorem SlS.put_get (h : s.err i v = 0) : (s.put i v).get j = if j = i then v else s.get j := by
  obtain ⟨⟨h0, h1⟩, _⟩ := SlS.err_iff.1 h
  rw [SlS.put_of h]
  obtain ⟨n, rfl⟩ := Int.eq_ofNat_of_zero_le h0
  show getG (insS _ s.S) (pG s.g _ v) j = _
  rw [Int.toNat_natCast, getG_put]
  rfl
theorem SlS.take_has : (s.take i).has j = (!decide (j = i) && s.has j) := by
  unfold SlS.take SlS.has
  split
  · show memS (tS s.S i) j = _
    rw [mem_tS]
  · rename_i h
    by_cases e : j = i
    · subst e; simpa using h
    · simp [e]
theorem SlS.take_get : (s.take i).get j = if j = i then V3.z else s.get j := by
  unfold SlS.take SlS.get
  split
  · show getG (tS s.S i) s.g j = _
    rw [getG_take]
  · rename_i h
    by_cases e : j = i
    · subst e
      rw [if_pos rfl]
      exact getG_out (by simpa using h)
    · rw [if_neg e]
theorem SlS.set_has : (s.set i v).has j = s.has j := by unfold SlS.set SlS.has; split <;> rfl
theorem SlS.errSet_iff : s.errSet i v = 0 ↔ s.err i v = 0 ∧ s.has i = true := by
  unfold SlS.errSet SlS.has
  by_cases h : s.err i v = 0
  · rw [if_pos h]
    cases hm : memS s.S i <;> simp [h]
  · rw [if_neg h]
    simp [h]
theorem SlS.set_get (h : s.errSet i v = 0) : (s.set i v).get j = if j = i then v else s.get j := by
  obtain ⟨h1, h2⟩ := SlS.errSet_iff.1 h
  obtain ⟨⟨h0, _⟩, _⟩ := SlS.err_iff.1 h1
  unfold SlS.set
  rw [if_pos h]
  obtain ⟨n, rfl⟩ := Int.eq_ofNat_of_zero_le h0
  show getG s.S (pG s.g _ v) j = _
  by_cases e : j = (n : Nat)
  · subst e
    rw [if_pos rfl, getG_in (memS_iff.1 h2)]
    simp [pG]
  · rw [if_neg e]
    show _ = getG s.S s.g j
    unfold getG
    cases hm : memS s.S j with
    | false => rfl
    | true =>
      obtain ⟨k, rfl, hk⟩ := memS_in hm
      simp only [if_true, pG]
      rw [if_neg (by simpa using e)]
theorem SlS.set_no (h : s.errSet i v ≠ 0) : s.set i v = s := by unfold SlS.set; rw [if_neg h]
theorem SlS.set_S : (s.set i v).S = s.S := by unfold SlS.set; split <;> rfl
theorem SlS.put_S (h : s.err i v = 0) (hm : s.has i = false) : (s.put i v).S.length = s.S.length + 1 := by
  obtain ⟨⟨h0, _⟩, _⟩ := SlS.err_iff.1 h
  rw [SlS.put_of h]
  obtain ⟨n, rfl⟩ := Int.eq_ofNat_of_zero_le h0
  show (insS _ s.S).length = _
  rw [Int.toNat_natCast, len_insS]
  intro hn
  have : memS s.S ((n : Nat) : Int) = true := memS_iff.2 hn
  unfold SlS.has at hm
  rw [this] at hm
  cases hm
theorem SlS.put_S_in (hs : s.S.Pairwise (· < ·)) (h : s.err i v = 0) (hm : s.has i = true) : (s.put i v).S = s.S := by
  obtain ⟨⟨h0, _⟩, _⟩ := SlS.err_iff.1 h
  rw [SlS.put_of h]
  obtain ⟨n, rfl⟩ := Int.eq_ofNat_of_zero_le h0
  show insS _ s.S = _
  rw [Int.toNat_natCast]
  exact insS_in hs (memS_iff.1 hm)
theorem SlS.put_sorted (hs : s.S.Pairwise (· < ·)) : (s.put i v).S.Pairwise (· < ·) := by
  unfold SlS.put
  split
  · exact sorted_insS hs
  · exact hs
theorem SlS.take_sorted (hs : s.S.Pairwise (· < ·)) : (s.take i).S.Pairwise (· < ·) := by
  have h : (tS s.S i).Pairwise (· < ·) := by
    unfold tS
    by_cases hm : memS s.S i = true
    · rw [if_pos hm]; exact sorted_delS hs
    · rw [if_neg hm]; exact hs
  unfold SlS.take
  split
  · exact h
  · exact hs
theorem SlS.set_sorted (hs : s.S.Pairwise (· < ·)) : (s.set i v).S.Pairwise (· < ·) := by rw [SlS.set_S]; exact hs
theorem SlS.take_S (hs : s.S.Pairwise (· < ·)) (hm : s.has i = true) : (s.take i).S.length + 1 = s.S.length := by
  obtain ⟨n, rfl, hn⟩ := memS_in hm
  have e : (s.take ((n : Nat) : Int)).S = delS n s.S := by
    unfold SlS.take
    rw [show memS s.S ((n : Nat) : Int) = true from hm, if_pos rfl]
    show tS s.S _ = _
    unfold tS
    rw [show memS s.S ((n : Nat) : Int) = true from hm, if_pos rfl]
    rfl
  rw [e]
  have h1 := len_insS (i := n) (l := delS n s.S) (fun h => (mem_delS.1 h).2 rfl)
  have h2 : insS n (delS n s.S) = s.S := sorted_ext (sorted_insS (sorted_delS hs)) hs fun x => by
    rw [mem_insS, mem_delS]
    constructor
    · rintro (rfl | ⟨h, _⟩)
      · exact hn
      · exact h
    · intro h
      by_cases e : x = n
      · exact .inl e
      · exact .inr ⟨h, e⟩
  rw [h2] at h1
  exact h1.symm
theorem SlS.take_no (hm : s.has i = false) : s.take i = s := by unfold SlS.take; rw [show memS s.S i = false from hm]; rfl
theorem SlS.has_small (hok : ∀ a ∈ s.S, a < 65536) (hm : s.has i = true) : 0 ≤ i ∧ i < 65536 := by
  obtain ⟨n, rfl, hn⟩ := memS_in hm
  have := hok n hn
  omega
end
theorem newF_some {d : V3} {v : Value} {F : Option Nat} (h : (newSl d v F).Ok) (hb : 0 < d.b) : ∃ f, F = some f := by
  have := h.flag
  cases F with
  | none => exact absurd this (by simp [newSl, hb])
  | some f => exact ⟨f, rfl⟩
theorem newF_none {d : V3} {v : Value} {F : Option Nat} (h : (newSl d v F).Ok) (hb : ¬ 0 < d.b) : F = none := by
  have := h.flag
  cases F with
  | none => rfl
  | some f => exact absurd this (by simp [newSl, hb])
/-- A Slot's state is in order. -/
structure SlS.Wf (s : SlS) : Prop where
  ok : s.Ok
  sorted : s.S.Pairwise (· < ·)
  small : ∀ a ∈ s.S, a < 65536
theorem St.slwf {w0 w : World} {X : Nat} {s : SlS} {L : List As} (hs : St w0 (SlB X s :: L) w) : s.Wf := by
  obtain ⟨hok, M, hs⟩ := hs.slopen
  exact ⟨hok, (hs.up2.sorted).1, (hs.rot.plcases).1⟩
end Go.Proofs.Ytmdjpeblbnbjmaa
