/-
  Sets of numbers as the table holds them: words of all levels, what is added and taken away. Plain law: no function of the program stands here.
-/
import Derived.Test.YtkcbjkadalebjaaTab
namespace Go.Proofs.Ytkcbjkadalebjaa
open Go Go.RowKit

/-! ### Rising rows -/
def insS (i : Nat) : List Nat → List Nat
  | [] => [i]
  | a :: l => if i < a then i :: a :: l else if i = a then a :: l else a :: insS i l
def delS (i : Nat) (l : List Nat) : List Nat := l.filter fun a => a != i
theorem mem_insS {i j : Nat} : ∀ {l : List Nat}, j ∈ insS i l ↔ j = i ∨ j ∈ l
  | [] => by simp [insS]
  | a :: l => by
    unfold insS
    split
    · simp
    · split
      · rename_i h; subst h; simp
      · simp only [List.mem_cons, mem_insS (l := l)]; exact ⟨fun h => by rcases h with h | h | h <;> simp [h], fun h => by rcases h with h | h | h <;> simp [h]⟩
theorem sorted_insS {i : Nat} : ∀ {l : List Nat}, l.Pairwise (· < ·) → (insS i l).Pairwise (· < ·)
  | [], _ => by simp [insS]
  | a :: l, h => by
    rw [List.pairwise_cons] at h
    unfold insS
    split
    · rename_i hi
      exact List.pairwise_cons.2 ⟨fun b hb => by rcases List.mem_cons.1 hb with h1 | h1; (· omega); (· have := h.1 b h1; omega), List.pairwise_cons.2 h⟩
    · split
      · exact List.pairwise_cons.2 h
      · refine List.pairwise_cons.2 ⟨fun b hb => ?_, sorted_insS h.2⟩
        rcases mem_insS.1 hb with h1 | h1
        · omega
        · exact h.1 b h1
theorem len_insS {i : Nat} : ∀ {l : List Nat}, i ∉ l → (insS i l).length = l.length + 1
  | [], _ => rfl
  | a :: l, h => by
    have h2 : i ∉ l := fun e => h (by simp [e])
    unfold insS
    split
    · rfl
    · split
      · rename_i h3; exact absurd (by simp [h3]) h
      · simp [len_insS h2]
theorem ins_id {i : Nat} : ∀ {l : List Nat}, l.Pairwise (· < ·) → i ∈ l → insS i l = l
  | [], _, h => by cases h
  | a :: l, hs, h => by
    rw [List.pairwise_cons] at hs
    unfold insS
    split
    · rename_i hi
      rcases List.mem_cons.1 h with h | h
      · omega
      · have := hs.1 i h; omega
    · split
      · rfl
      · rename_i h1 h2
        rw [ins_id hs.2 ((List.mem_cons.1 h).resolve_left h2)]
theorem mem_delS {i j : Nat} {l : List Nat} : j ∈ delS i l ↔ j ∈ l ∧ j ≠ i := by simp [delS]
theorem sorted_delS {i : Nat} {l : List Nat} (h : l.Pairwise (· < ·)) : (delS i l).Pairwise (· < ·) := List.Pairwise.filter _ h
theorem del_id {i : Nat} {l : List Nat} (h : i ∉ l) : delS i l = l := List.filter_eq_self.2 fun a ha => by
  have : a ≠ i := fun e => h (e ▸ ha)
  simpa using this
theorem len_delS {i : Nat} : ∀ {l : List Nat}, l.Nodup → i ∈ l → (delS i l).length + 1 = l.length
  | a :: l, hn, h => by
    rw [List.nodup_cons] at hn
    by_cases e : a = i
    · subst e
      show ((a :: l).filter _).length + 1 = _
      rw [List.filter_cons_of_neg (by simp)]
      have := del_id hn.1
      unfold delS at this
      rw [this, List.length_cons]
    · show ((a :: l).filter _).length + 1 = _
      rw [List.filter_cons_of_pos (by simpa using e), List.length_cons, List.length_cons]
      have := len_delS hn.2 ((List.mem_cons.1 h).resolve_left (fun h => e h.symm))
      unfold delS at this
      omega
theorem sorted_nodup {l : List Nat} (h : l.Pairwise (· < ·)) : l.Nodup := h.imp fun h => Nat.ne_of_lt h
theorem sorted_ext {l m : List Nat} (hl : l.Pairwise (· < ·)) (hm : m.Pairwise (· < ·)) (h : ∀ i, i ∈ l ↔ i ∈ m) : l = m :=
  List.Perm.eq_of_pairwise (fun a b _ _ h1 h2 => by omega) hl hm ((List.perm_ext_iff_of_nodup (sorted_nodup hl) (sorted_nodup hm)).2 h)

/-! ### Words of all levels -/
def wordOf (S : List Nat) (k : Key) : Nat := allW ((S.filter fun i => i / 64 ^ (k.1 + 1) == k.2).map fun i => ((i / 64 ^ k.1 % 64 : Nat) : Int))
theorem wordOf_lt (S : List Nat) (k : Key) : wordOf S k < 2 ^ 64 := allW_lt _
theorem div_next (i l : Nat) : i / 64 ^ (l + 1) = i / 64 ^ l / 64 := by rw [Nat.pow_succ, Nat.div_div_eq_div_mul]
theorem bit_wordOf (S : List Nat) (l p d : Nat) (hd : d < 64) : (wordOf S (l, p)).testBit d = true ↔ ∃ i ∈ S, i / 64 ^ l = 64 * p + d := by
  unfold wordOf
  rw [testBit_allW]
  simp only [hd, decide_true, Bool.and_true, decide_eq_true_eq, List.mem_map, List.mem_filter, beq_iff_eq]
  constructor
  · rintro ⟨i, ⟨hi, h1⟩, h2⟩
    rw [div_next] at h1
    exact ⟨i, hi, by omega⟩
  · rintro ⟨i, hi, h⟩
    refine ⟨i, ⟨hi, ?_⟩, ?_⟩
    · rw [div_next]; omega
    · omega
theorem word_zero {x : Nat} (hx : x < 2 ^ 64) : x ≠ 0 ↔ ∃ d, d < 64 ∧ x.testBit d = true := by
  constructor
  · intro h
    refine Classical.byContradiction fun hno => h (word_ext hx (by decide) fun k hk => ?_)
    rw [Nat.zero_testBit]
    cases hb : x.testBit k
    · rfl
    · exact absurd ⟨k, hk, hb⟩ hno
  · rintro ⟨d, _, h⟩ h0
    subst h0
    simp at h
theorem wordOf_ne {S : List Nat} {l p : Nat} : wordOf S (l, p) ≠ 0 ↔ ∃ i ∈ S, i / 64 ^ (l + 1) = p := by
  rw [word_zero (wordOf_lt _ _)]
  constructor
  · rintro ⟨d, hd, h⟩
    obtain ⟨i, hi, h2⟩ := (bit_wordOf S l p d hd).1 h
    exact ⟨i, hi, by rw [div_next]; omega⟩
  · rintro ⟨i, hi, h⟩
    rw [div_next] at h
    exact ⟨i / 64 ^ l % 64, Nat.mod_lt _ (by decide), (bit_wordOf S l p _ (Nat.mod_lt _ (by decide))).2 ⟨i, hi, by omega⟩⟩
theorem wordOf_below {S : List Nat} {l p d : Nat} (hd : d < 64) : (wordOf S (l + 1, p)).testBit d = true ↔ wordOf S (l, 64 * p + d) ≠ 0 := by
  rw [bit_wordOf S _ _ _ hd, wordOf_ne]
/-- One more: the words on its way get its digit. -/
theorem wordOf_ins {S : List Nat} {i l p : Nat} : wordOf (insS i S) (l, p) = if p = i / 64 ^ (l + 1) then wordOf S (l, p) ||| oneW ((i / 64 ^ l % 64 : Nat) : Int) else wordOf S (l, p) := by
  split
  · rename_i h
    refine word_ext (wordOf_lt _ _) (Nat.or_lt_two_pow (wordOf_lt _ _) (oneW_lt _)) fun d hd => ?_
    rw [Nat.testBit_or, testBit_oneW, Bool.eq_iff_iff, Bool.or_eq_true, bit_wordOf _ _ _ _ hd, bit_wordOf _ _ _ _ hd]
    simp only [hd, decide_true, Bool.and_true, decide_eq_true_eq, mem_insS]
    rw [div_next] at h
    constructor
    · rintro ⟨j, rfl | hj, h2⟩
      · exact .inr (by omega)
      · exact .inl ⟨j, hj, h2⟩
    · rintro (⟨j, hj, h2⟩ | h2)
      · exact ⟨j, .inr hj, h2⟩
      · exact ⟨i, .inl rfl, by omega⟩
  · rename_i h
    refine word_ext (wordOf_lt _ _) (wordOf_lt _ _) fun d hd => ?_
    rw [Bool.eq_iff_iff, bit_wordOf _ _ _ _ hd, bit_wordOf _ _ _ _ hd]
    rw [div_next] at h
    constructor
    · rintro ⟨j, hj, h2⟩
      rcases mem_insS.1 hj with rfl | hj
      · omega
      · exact ⟨j, hj, h2⟩
    · rintro ⟨j, hj, h2⟩
      exact ⟨j, mem_insS.2 (.inr hj), h2⟩
theorem wordOf_del_off {S : List Nat} {i l p : Nat} (h : p ≠ i / 64 ^ (l + 1)) : wordOf (delS i S) (l, p) = wordOf S (l, p) := by
  refine word_ext (wordOf_lt _ _) (wordOf_lt _ _) fun d hd => ?_
  rw [Bool.eq_iff_iff, bit_wordOf _ _ _ _ hd, bit_wordOf _ _ _ _ hd]
  rw [div_next] at h
  constructor
  · rintro ⟨j, hj, h2⟩
    exact ⟨j, (mem_delS.1 hj).1, h2⟩
  · rintro ⟨j, hj, h2⟩
    exact ⟨j, mem_delS.2 ⟨hj, fun e => by subst e; omega⟩, h2⟩
/-- One less: where nothing of its digit is left below, the digit goes. -/
theorem wordOf_del_gone {S : List Nat} {i l : Nat} (h : ∀ j ∈ delS i S, j / 64 ^ l ≠ i / 64 ^ l) : wordOf (delS i S) (l, i / 64 ^ (l + 1)) = subW (wordOf S (l, i / 64 ^ (l + 1))) (oneW ((i / 64 ^ l % 64 : Nat) : Int)) := by
  refine word_ext (wordOf_lt _ _) (subW_lt _ _ (wordOf_lt _ _)) fun d hd => ?_
  rw [testBit_subW (wordOf_lt _ _) (oneW_lt _), testBit_oneW, Bool.eq_iff_iff, Bool.and_eq_true, bit_wordOf _ _ _ _ hd, bit_wordOf _ _ _ _ hd]
  simp only [hd, decide_true, Bool.and_true, Bool.not_eq_true', decide_eq_false_iff_not]
  have e := div_next i l
  constructor
  · rintro ⟨j, hj, h2⟩
    refine ⟨⟨j, (mem_delS.1 hj).1, h2⟩, fun h3 => h j hj ?_⟩
    omega
  · rintro ⟨⟨j, hj, h2⟩, h3⟩
    refine ⟨j, mem_delS.2 ⟨hj, fun e2 => ?_⟩, h2⟩
    subst e2
    omega
/-- .. where something is left below, the word stays. -/
theorem wordOf_del_stays {S : List Nat} {i l : Nat} (h : ∃ j ∈ delS i S, j / 64 ^ l = i / 64 ^ l) (p : Nat) : wordOf (delS i S) (l, p) = wordOf S (l, p) := by
  by_cases hp : p = i / 64 ^ (l + 1)
  · refine word_ext (wordOf_lt _ _) (wordOf_lt _ _) fun d hd => ?_
    rw [Bool.eq_iff_iff, bit_wordOf _ _ _ _ hd, bit_wordOf _ _ _ _ hd]
    constructor
    · rintro ⟨j, hj, h2⟩
      exact ⟨j, (mem_delS.1 hj).1, h2⟩
    · rintro ⟨j, hj, h2⟩
      by_cases e : j = i
      · subst e
        obtain ⟨m, hm, h3⟩ := h
        exact ⟨m, hm, by omega⟩
      · exact ⟨j, mem_delS.2 ⟨hj, e⟩, h2⟩
  · exact wordOf_del_off hp

/-! ### A set in memory -/
/-- The set's block is T; its numbers are S, rising. -/
structure Fits (T : Nat) (S : List Nat) (ks : List Key) (G : Key → Option Nat) (W : Key → Nat) : Prop where
  nodup : ks.Nodup
  mem : ∀ k, k ∈ ks ↔ G k ≠ none
  top : G (3, 0) = some T
  lev : ∀ k ∈ ks, k.1 ≤ 3 ∧ (k.1 = 3 → k.2 = 0)
  there : ∀ k : Key, k.1 < 3 → (G k ≠ none ↔ wordOf S k ≠ 0)
  word : ∀ k : Key, k.1 ≤ 3 → W k = wordOf S k
  sorted : S.Pairwise (· < ·)
  small : ∀ i ∈ S, i < 16777216
def HSet (T : Nat) (S : List Nat) : As := fun h => ∃ ks G W, Fits T S ks G W ∧ tbl ks G W S.length h
end Go.Proofs.Ytkcbjkadalebjaa
