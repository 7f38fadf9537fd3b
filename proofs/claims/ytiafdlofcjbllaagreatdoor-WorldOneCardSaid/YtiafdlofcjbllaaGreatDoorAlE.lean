/-
  Two worlds of things that differ in nothing that is told.
-/
import Derived.Test.YtiafdlofcjbllaaGreatDoorEnLw
import Derived.Test.YtiafdlofcjbllaaGreatDoorAlD
set_option maxRecDepth 100000
namespace Go.Proofs.YtiafdlofcjbllaaGreatDoor
open Go Go.RowKit
structure AlE (s t : EnS) : Prop where
  top_ : s.top = t.top
  cs : s.cs = t.cs
  len : s.l.length = t.l.length
  at_ : ∀ (c : Nat) (x y : Cmp), s.l[c]? = some x → t.l[c]? = some y → AlD x.2 y.2
section
variable {s t : EnS} (h : AlE s t)
include h
theorem AlE.live (d : Hdl) : s.live d = t.live d := by unfold EnS.live; rw [h.cs]
theorem AlE.slot (c : Int) : (s.slot c = none ∧ t.slot c = none) ∨ ∃ x y, s.slot c = some x ∧ t.slot c = some y ∧ AlD x.2 y.2 := by
  unfold EnS.slot
  by_cases h0 : 0 ≤ c
  · rw [if_pos h0, if_pos h0]
    cases hx : s.l[c.toNat]? with
    | none => exact .inl ⟨rfl, by rw [List.getElem?_eq_none_iff] at hx ⊢; rw [← h.len]; exact hx⟩
    | some x =>
      have hl := (List.getElem?_eq_some_iff.1 hx).1
      obtain ⟨y, hy⟩ : ∃ y, t.l[c.toNat]? = some y := ⟨_, List.getElem?_eq_getElem (by rw [← h.len]; exact hl)⟩
      exact .inr ⟨x, y, rfl, hy, h.at_ _ _ _ hx hy⟩
  · rw [if_neg h0, if_neg h0]; exact .inl ⟨rfl, rfl⟩
theorem AlE.put (c : Nat) {X Y : Nat} {a b : SlS} (hab : AlD a b) : AlE ⟨s.top, s.cs, s.l.set c (X, a)⟩ ⟨t.top, t.cs, t.l.set c (Y, b)⟩ where
  top_ := h.top_
  cs := h.cs
  len := by show (s.l.set _ _).length = (t.l.set _ _).length; rw [List.length_set, List.length_set]; exact h.len
  at_ q x y hx hy := by
    replace hx : (s.l.set c (X, a))[q]? = some x := hx
    replace hy : (t.l.set c (Y, b))[q]? = some y := hy
    rw [List.getElem?_set] at hx hy
    split at hx
    · rename_i e
      subst e
      rw [if_pos rfl] at hy
      split at hx
      · split at hy
        · injection hx with hx; injection hy with hy
          subst hx; subst hy
          exact hab
        · cases hy
      · cases hx
    · rename_i e
      rw [if_neg e] at hy
      exact h.at_ q x y hx hy
theorem AlE.cells (c : List ACell) : AlE ⟨s.top, c, s.l⟩ ⟨t.top, c, t.l⟩ := ⟨h.top_, rfl, h.len, h.at_⟩
theorem AlE.ins (d : Hdl) (c : Int) (v : V3) : (s.ins d c v).1 = (t.ins d c v).1 ∧ (s.ins d c v).2.1 = (t.ins d c v).2.1 ∧ (s.ins d c v).2.2.1 = (t.ins d c v).2.2.1 ∧ AlE (s.ins d c v).2.2.2 (t.ins d c v).2.2.2 := by
  unfold EnS.ins
  rw [h.live d]
  split
  · rcases h.slot c with ⟨h1, h2⟩ | ⟨x, y, h1, h2, hd⟩
    · rw [h1, h2]; exact ⟨rfl, rfl, rfl, h⟩
    · rw [h1, h2]
      exact ⟨hd.putU _ _, hd.putB _ _, hd.err _ _, h.put _ (hd.put _ _)⟩
  · exact ⟨rfl, rfl, rfl, h⟩
theorem AlE.get (d : Hdl) (c : Int) : s.get d c = t.get d c := by
  unfold EnS.get
  rw [h.live d]
  split
  · rcases h.slot c with ⟨h1, h2⟩ | ⟨x, y, h1, h2, hd⟩
    · rw [h1, h2]
    · rw [h1, h2]
      simp only
      rw [hd.has, hd.get]
  · rfl
theorem AlE.rem (d : Hdl) (c : Int) : (s.rem d c).1 = (t.rem d c).1 ∧ (s.rem d c).2.1 = (t.rem d c).2.1 ∧ AlE (s.rem d c).2.2 (t.rem d c).2.2 := by
  unfold EnS.rem
  rw [h.live d]
  split
  · rcases h.slot c with ⟨h1, h2⟩ | ⟨x, y, h1, h2, hd⟩
    · rw [h1, h2]; exact ⟨rfl, rfl, h⟩
    · rw [h1, h2]
      simp only
      rw [hd.has, hd.get]
      split
      · exact ⟨rfl, rfl, h.put _ (hd.take _)⟩
      · exact ⟨rfl, rfl, h⟩
  · exact ⟨rfl, rfl, h⟩
theorem AlE.set (d : Hdl) (c : Int) (v : V3) : (s.set d c v).1 = (t.set d c v).1 ∧ AlE (s.set d c v).2 (t.set d c v).2 := by
  unfold EnS.set
  rw [h.live d]
  split
  · rcases h.slot c with ⟨h1, h2⟩ | ⟨x, y, h1, h2, hd⟩
    · rw [h1, h2]; exact ⟨rfl, h⟩
    · rw [h1, h2]
      exact ⟨hd.errSet _ _, h.put _ (hd.set _ _)⟩
  · exact ⟨rfl, h⟩
theorem AlE.hasAt (i : Int) (c : Nat) : YtiafdlofcjbllaaGreatDoor.hasAt s.l i c = YtiafdlofcjbllaaGreatDoor.hasAt t.l i c := by
  unfold YtiafdlofcjbllaaGreatDoor.hasAt
  cases hx : s.l[c]? with
  | none => rw [show t.l[c]? = none by rw [List.getElem?_eq_none_iff] at hx ⊢; rw [← h.len]; exact hx]
  | some x =>
    have hl := (List.getElem?_eq_some_iff.1 hx).1
    obtain ⟨y, hy⟩ : ∃ y, t.l[c]? = some y := ⟨_, List.getElem?_eq_getElem (by rw [← h.len]; exact hl)⟩
    rw [hy]
    exact (h.at_ _ _ _ hx hy).has _
theorem AlE.ofN (i : Int) (k : Nat) : YtiafdlofcjbllaaGreatDoor.ofN s.l i k = YtiafdlofcjbllaaGreatDoor.ofN t.l i k := ofN_congr fun c _ => h.hasAt i c
theorem AlE.parts (d : Hdl) : s.parts d = t.parts d := by
  unfold EnS.parts
  rw [h.live d, h.len, h.ofN]
theorem AlE.del (d : Hdl) : (s.del d).1 = (t.del d).1 ∧ (s.del d).2.1 = (t.del d).2.1 ∧ AlE (s.del d).2.2 (t.del d).2.2 := by
  unfold EnS.del
  rw [h.live d]
  split
  · refine ⟨by rw [h.len, h.ofN], rfl, ?_⟩
    refine ⟨h.top_, by show (delA s.top s.cs d).2 = (delA t.top t.cs d).2; rw [h.top_, h.cs], by show (strL _ _).length = (strL _ _).length; rw [strL_len, strL_len]; exact h.len, fun c x y hx hy => ?_⟩
    replace hx : (strL s.l d.1)[c]? = some x := hx
    replace hy : (strL t.l d.1)[c]? = some y := hy
    unfold strL at hx hy
    rw [List.getElem?_map] at hx hy
    cases h1 : s.l[c]? with
    | none => rw [h1] at hx; cases hx
    | some x1 =>
      cases h2 : t.l[c]? with
      | none => rw [h2] at hy; cases hy
      | some y1 =>
        rw [h1] at hx; rw [h2] at hy
        simp only [Option.map_some, Option.some.injEq] at hx hy
        subst hx; subst hy
        exact (h.at_ _ _ _ h1 h2).take _
  · exact ⟨rfl, rfl, h⟩
end
end Go.Proofs.YtiafdlofcjbllaaGreatDoor
