/-
  Handles, plain law: what stands of each index; the sets of indexes; no program stands here.
-/
import Derived.Test.YtkcbjkadalebjaaDoorRrow2
set_option maxRecDepth 100000
namespace Go.Proofs.YtkcbjkadalebjaaDoor
open Go Go.RowKit

/-- An index: its state (0 free, 1 live, 2 raised, 9 retired), its generation. -/
abbrev ACell := Nat × Int
def stA (cs : List ACell) (i : Nat) : Nat := (cs.getD i (9, 0)).1
def gnA (cs : List ACell) (i : Nat) : Int := (cs.getD i (9, 0)).2
def idxS (s : Nat) (cs : List ACell) : List Nat := (List.range cs.length).filter fun i => stA cs i == s
theorem mem_idxS {s i : Nat} {cs : List ACell} : i ∈ idxS s cs ↔ i < cs.length ∧ stA cs i = s := by simp [idxS]
theorem sorted_range (n : Nat) : (List.range n).Pairwise (· < ·) := List.pairwise_lt_range
theorem sorted_idxS (s : Nat) (cs : List ACell) : (idxS s cs).Pairwise (· < ·) := List.Pairwise.filter _ (sorted_range _)
theorem idxS_lt {s : Nat} {cs : List ACell} (h : cs.length ≤ 65536) : ∀ a ∈ idxS s cs, a < 16777216 := fun a ha => by have := (mem_idxS.1 ha).1; omega
theorem stA_set {cs : List ACell} {i j : Nat} {c : ACell} (h : i < cs.length) : stA (cs.set i c) j = if j = i then c.1 else stA cs j := by
  unfold stA
  rw [List.getD_eq_getElem?_getD, List.getD_eq_getElem?_getD, List.getElem?_set]
  by_cases e : i = j
  · subst e; simp [h]
  · rw [if_neg e, if_neg (fun h => e h.symm)]
theorem gnA_set {cs : List ACell} {i j : Nat} {c : ACell} (h : i < cs.length) : gnA (cs.set i c) j = if j = i then c.2 else gnA cs j := by
  unfold gnA
  rw [List.getD_eq_getElem?_getD, List.getD_eq_getElem?_getD, List.getElem?_set]
  by_cases e : i = j
  · subst e; simp [h]
  · rw [if_neg e, if_neg (fun h => e h.symm)]
theorem idxS_in {s i : Nat} {cs : List ACell} {g : Int} (h : i < cs.length) : idxS s (cs.set i (s, g)) = insS i (idxS s cs) :=
  sorted_ext (sorted_idxS _ _) (sorted_insS (sorted_idxS _ _)) fun j => by
    rw [mem_idxS, mem_insS, mem_idxS, List.length_set, stA_set h]
    constructor
    · rintro ⟨h1, h2⟩
      by_cases e : j = i
      · exact .inl e
      · rw [if_neg e] at h2; exact .inr ⟨h1, h2⟩
    · rintro (rfl | ⟨h1, h2⟩)
      · exact ⟨h, by rw [if_pos rfl]⟩
      · refine ⟨h1, ?_⟩
        split
        · rfl
        · exact h2
theorem idxS_out {s s' i : Nat} {cs : List ACell} {g : Int} (h : i < cs.length) (hs : s' ≠ s) : idxS s (cs.set i (s', g)) = delS i (idxS s cs) :=
  sorted_ext (sorted_idxS _ _) (sorted_delS (sorted_idxS _ _)) fun j => by
    rw [mem_idxS, mem_delS, mem_idxS, List.length_set, stA_set h]
    constructor
    · rintro ⟨h1, h2⟩
      by_cases e : j = i
      · rw [if_pos e] at h2; exact absurd h2 hs
      · rw [if_neg e] at h2; exact ⟨⟨h1, h2⟩, e⟩
    · rintro ⟨⟨h1, h2⟩, h3⟩
      exact ⟨h1, by rw [if_neg h3]; exact h2⟩
theorem idxS_off {s s' i : Nat} {cs : List ACell} {g : Int} (h : i < cs.length) (hs : s' ≠ s) (ho : stA cs i ≠ s) : idxS s (cs.set i (s', g)) = idxS s cs := by
  rw [idxS_out h hs]
  exact del_id fun hm => ho (mem_idxS.1 hm).2
/-- What is true of an Alloc's indexes. -/
structure AlOk (top : Int) (cs : List ACell) : Prop where
  top1 : 1 ≤ top
  top2 : top ≤ 4294967295
  pos : 0 < cs.length
  few : cs.length ≤ 65536
  gen0 : ∀ i, i < cs.length → 0 ≤ gnA cs i ∧ gnA cs i ≤ top
  free : ∀ i, i < cs.length → stA cs i = 0 → gnA cs i < top
theorem AlOk.set {top : Int} {cs : List ACell} (h : AlOk top cs) {i s : Nat} {g : Int} (hi : i < cs.length) (h1 : 0 ≤ g) (h2 : g ≤ top) (h3 : s = 0 → g < top) : AlOk top (cs.set i (s, g)) where
  top1 := h.top1
  top2 := h.top2
  pos := by rw [List.length_set]; exact h.pos
  few := by rw [List.length_set]; exact h.few
  gen0 j hj := by
    rw [gnA_set hi]
    split
    · exact ⟨h1, h2⟩
    · exact h.gen0 j (by simpa using hj)
  free j hj := by
    rw [gnA_set hi, stA_set hi]
    split
    · exact h3
    · exact h.free j (by simpa using hj)
def newA (n : Nat) : List ACell := List.replicate n (0, 0)
theorem stA_new {n i : Nat} (h : i < n) : stA (newA n) i = 0 := by simp [stA, newA, h]
theorem gnA_new (n i : Nat) : gnA (newA n) i = 0 := by
  unfold gnA newA
  rw [List.getD_eq_getElem?_getD, List.getElem?_replicate]
  split <;> rfl
theorem alOk_new {top : Int} {n : Nat} (h1 : 1 ≤ top) (h2 : top ≤ 4294967295) (h3 : 0 < n) (h4 : n ≤ 65536) : AlOk top (newA n) where
  top1 := h1
  top2 := h2
  pos := by simpa [newA] using h3
  few := by simpa [newA] using h4
  gen0 i _ := by rw [gnA_new]; omega
  free i _ _ := by rw [gnA_new]; omega
theorem idx_new0 (n : Nat) : idxS 0 (newA n) = List.range n :=
  sorted_ext (sorted_idxS _ _) (sorted_range _) fun i => by
    rw [mem_idxS, List.mem_range]
    exact ⟨fun h => by simpa [newA] using h.1, fun h => ⟨by simpa [newA] using h, stA_new h⟩⟩
theorem idx_new {s : Nat} (n : Nat) (hs : s ≠ 0) : idxS s (newA n) = [] := by
  refine List.eq_nil_iff_forall_not_mem.2 fun i hi => ?_
  obtain ⟨h1, h2⟩ := mem_idxS.1 hi
  rw [stA_new (by simpa [newA] using h1)] at h2
  exact hs h2.symm
theorem ins_range (n : Nat) : insS n (List.range n) = List.range (n + 1) :=
  sorted_ext (sorted_insS (sorted_range _)) (sorted_range _) fun i => by
    rw [mem_insS, List.mem_range, List.mem_range]; omega
theorem next_idx (s : Nat) (cs : List ACell) : nextS (idxS s cs) 0 = match idxS s cs with | [] => -1 | a :: _ => (a : Int) := by
  rw [nextS_head (sorted_idxS s cs), fromS_zero]
  cases idxS s cs <;> rfl
def retA (cs : List ACell) : Nat := (idxS 9 cs).length
theorem len_in {s i : Nat} {cs : List ACell} {g : Int} (h : i < cs.length) (ho : stA cs i ≠ s) : (idxS s (cs.set i (s, g))).length = (idxS s cs).length + 1 := by
  rw [idxS_in h]
  exact len_insS fun hm => ho (mem_idxS.1 hm).2
theorem idx_len (s : Nat) (cs : List ACell) : (idxS s cs).length ≤ cs.length := by
  have := List.length_filter_le (fun i => stA cs i == s) (List.range cs.length)
  simpa [idxS] using this
end Go.Proofs.YtkcbjkadalebjaaDoor
