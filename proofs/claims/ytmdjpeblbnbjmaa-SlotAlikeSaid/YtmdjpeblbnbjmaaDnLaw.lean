/-
  Values side by side: plain law. No function of the program stands here.
-/
import Derived.Test.YtmdjpeblbnbjmaaR4
import Derived.Test.YtmdjpeblbnbjmaaMap
set_option maxRecDepth 100000
namespace Go.Proofs.Ytmdjpeblbnbjmaa
open Go Go.RowKit

/-- What a table of S, g has at i. -/
def getG (S : List Nat) (g : Nat → V3) (i : Int) : V3 := if memS S i then g i.toNat else V3.z
/-- A value is put. -/
def pG (g : Nat → V3) (i : Int) (v : V3) : Nat → V3 := fun j => if (j : Int) = i then v else g j
theorem memS_iff {S : List Nat} {j : Nat} : memS S (j : Int) = true ↔ j ∈ S := by
  unfold memS
  rw [List.any_eq_true]
  constructor
  · rintro ⟨a, ha, h⟩
    have : (a : Int) = (j : Int) := by simpa using h
    have : a = j := by omega
    exact this ▸ ha
  · exact fun h => ⟨j, h, by simp⟩
theorem getG_in {S : List Nat} {g : Nat → V3} {j : Nat} (h : j ∈ S) : getG S g (j : Int) = g j := by
  unfold getG
  rw [memS_iff.2 h]
  simp
theorem getG_out {S : List Nat} {g : Nat → V3} {i : Int} (h : memS S i = false) : getG S g i = V3.z := by
  unfold getG
  rw [h]; rfl
/-- Rows side by side, and where each index's lies. -/
structure DnOk (S : List Nat) (g : Nat → V3) (l : List Row) (f : Int → Option Int) : Prop where
  sorted : S.Pairwise (· < ·)
  small : ∀ i ∈ S, i < 65536
  len : l.length = S.length
  at_ : ∀ i k, f i = some k → ∃ (p : Nat) (r : Row), k = (p : Nat) ∧ l[p]? = some r ∧ r.1 = i
  row : ∀ (p : Nat) (r : Row), l[p]? = some r → f r.1 = some ((p : Nat) : Int) ∧ ∃ j : Nat, r.1 = (j : Nat) ∧ j ∈ S ∧ r.2 = g j
  mem : ∀ j ∈ S, ∃ k, f ((j : Nat) : Int) = some k
theorem sorted_short {S : List Nat} {n : Nat} (hs : S.Pairwise (· < ·)) (hb : ∀ i ∈ S, i < n) : S.length ≤ n := by
  have h1 : ∀ (S : List Nat), S.Pairwise (· < ·) → ∀ n, (∀ i ∈ S, i < n) → ∀ m, (∀ i ∈ S, m ≤ i) → m ≤ n → S.length + m ≤ n := by
    intro S
    induction S with
    | nil => intro _ n _ m _ hm; simpa using hm
    | cons a S ih =>
      intro hs n hb m hm hmn
      obtain ⟨ha, hs⟩ := List.pairwise_cons.1 hs
      have := hb a List.mem_cons_self
      have := hm a List.mem_cons_self
      have := ih hs n (fun i hi => hb i (List.mem_cons_of_mem _ hi)) (a + 1) (fun i hi => ha i hi) (by omega)
      rw [List.length_cons]
      omega
  simpa using h1 S hs n hb 0 (fun _ _ => Nat.zero_le _) (Nat.zero_le _)
theorem DnOk.new : DnOk [] (fun _ => V3.z) [] (fun _ => none) :=
  ⟨List.Pairwise.nil, fun _ h => absurd h List.not_mem_nil, rfl, fun _ _ h => (nomatch h), fun _ _ h => (nomatch h), fun _ h => absurd h List.not_mem_nil⟩
section
variable {S : List Nat} {g : Nat → V3} {l : List Row} {f : Int → Option Int}
theorem DnOk.isSome (h : DnOk S g l f) (i : Int) : (f i).isSome = memS S i := by
  rw [Bool.eq_iff_iff]
  constructor
  · intro hf
    obtain ⟨k, hk⟩ := Option.isSome_iff_exists.1 hf
    obtain ⟨p, r, _, hr, rfl⟩ := h.at_ i k hk
    obtain ⟨_, j, hj, hjS, _⟩ := h.row p r hr
    rw [hj]
    exact memS_iff.2 hjS
  · intro hm
    obtain ⟨j, rfl, hj⟩ := memS_in hm
    obtain ⟨k, hk⟩ := h.mem j hj
    rw [hk]; rfl
/-- Where it lies. -/
theorem DnOk.find (h : DnOk S g l f) {j : Nat} (hj : j ∈ S) : ∃ p : Nat, f (j : Nat) = some ((p : Nat) : Int) ∧ p < l.length ∧ l[p]? = some (((j : Nat) : Int), g j) := by
  obtain ⟨k, hk⟩ := h.mem j hj
  obtain ⟨p, r, rfl, hr, hj2⟩ := h.at_ _ k hk
  obtain ⟨_, j', h1, _, h2⟩ := h.row p r hr
  have : j' = j := by rw [h1] at hj2; omega
  subst this
  refine ⟨p, hk, (List.getElem?_eq_some_iff.1 hr).1, ?_⟩
  rw [hr]
  congr 1
  exact Prod.ext hj2 h2
theorem DnOk.set (h : DnOk S g l f) {j p : Nat} (hj : j ∈ S) (hp : f (j : Nat) = some ((p : Nat) : Int)) (v : V3) : DnOk S (pG g j v) (l.set p (((j : Nat) : Int), v)) f := by
  obtain ⟨p', h1, h2, h3⟩ := h.find hj
  have : p' = p := by rw [hp] at h1; injection h1 with h1; omega
  subst this
  have key : ∀ (q : Nat) (r : Row), (l.set p' (((j : Nat) : Int), v))[q]? = some r → (q = p' ∧ r = (((j : Nat) : Int), v)) ∨ (q ≠ p' ∧ l[q]? = some r) := by
    intro q r hr
    rw [List.getElem?_set] at hr
    split at hr
    · rename_i e
      try rw [if_pos h2] at hr
      injection hr with hr
      exact .inl ⟨e.symm, hr.symm⟩
    · rename_i e
      exact .inr ⟨fun e2 => e e2.symm, hr⟩
  refine ⟨h.sorted, h.small, by rw [List.length_set]; exact h.len, fun i k hk => ?_, fun q r hr => ?_, h.mem⟩
  · obtain ⟨q, r, rfl, hr, rfl⟩ := h.at_ i k hk
    by_cases e : q = p'
    · subst e
      rw [h3] at hr
      injection hr with hr
      subst hr
      exact ⟨q, (((j : Nat) : Int), v), rfl, by rw [List.getElem?_set]; simp [h2], rfl⟩
    · exact ⟨q, r, rfl, by rw [List.getElem?_set, if_neg (fun e2 => e e2.symm)]; exact hr, rfl⟩
  · rcases key q r hr with ⟨rfl, rfl⟩ | ⟨e, hr⟩
    · exact ⟨hp, j, rfl, hj, by simp [pG]⟩
    · obtain ⟨h4, j', h5, h6, h7⟩ := h.row q r hr
      refine ⟨h4, j', h5, h6, ?_⟩
      have hne : j' ≠ j := fun e2 => by
        subst e2
        rw [h5, hp] at h4
        injection h4 with h4
        omega
      rw [h7]
      simp only [pG]
      rw [if_neg (by omega)]
theorem DnOk.add (h : DnOk S g l f) {j : Nat} (hj : j ∉ S) (hj6 : j < 65536) (v : V3) : DnOk (insS j S) (pG g j v) (l ++ [(((j : Nat) : Int), v)]) (updI f j (some ((l.length : Nat) : Int))) := by
  have hn : f (j : Nat) = none := by
    have := h.isSome (j : Nat)
    rw [show memS S (j : Nat) = false by cases hm : memS S (j : Nat) with
      | false => rfl
      | true => exact absurd (memS_iff.1 hm) hj] at this
    cases hf : f (j : Nat) with
    | none => rfl
    | some k => rw [hf] at this; cases this
  refine ⟨sorted_insS h.sorted, fun i hi => ?_, by rw [List.length_append, len_insS hj, h.len]; rfl, fun i k hk => ?_, fun q r hr => ?_, fun i hi => ?_⟩
  · rcases mem_insS.1 hi with rfl | hi
    · exact hj6
    · exact h.small i hi
  · by_cases e : i = (j : Nat)
    · subst e
      rw [updI_same] at hk
      injection hk with hk
      exact ⟨l.length, (((j : Nat) : Int), v), hk.symm, by simp, rfl⟩
    · rw [updI_other e] at hk
      obtain ⟨q, r, h1, h2, h3⟩ := h.at_ i k hk
      exact ⟨q, r, h1, by rw [List.getElem?_append_left (List.getElem?_eq_some_iff.1 h2).1]; exact h2, h3⟩
  · by_cases hq : q < l.length
    · rw [List.getElem?_append_left hq] at hr
      obtain ⟨h4, j', h5, h6, h7⟩ := h.row q r hr
      have hne : j' ≠ j := fun e2 => hj (e2 ▸ h6)
      refine ⟨by rw [updI_other (by rw [h5]; omega)]; exact h4, j', h5, mem_insS.2 (.inr h6), ?_⟩
      rw [h7]
      simp only [pG]
      rw [if_neg (by omega)]
    · have hl := (List.getElem?_eq_some_iff.1 hr).1
      simp only [List.length_append, List.length_cons, List.length_nil] at hl
      have : q = l.length := by omega
      subst this
      simp at hr
      subst hr
      exact ⟨updI_same _ _ _, j, rfl, mem_insS.2 (.inl rfl), by simp [pG]⟩
  · rcases mem_insS.1 hi with rfl | hi
    · exact ⟨_, updI_same _ _ _⟩
    · have hne : i ≠ j := fun e2 => hj (e2 ▸ hi)
      obtain ⟨k, hk⟩ := h.mem i hi
      exact ⟨k, by rw [updI_other (by omega)]; exact hk⟩
theorem DnOk.take (h : DnOk S g l f) {j p : Nat} {x : Row} (hj : j ∈ S) (hp : f (j : Nat) = some ((p : Nat) : Int)) (hx : l[l.length - 1]? = some x) :
    DnOk (delS j S) g ((l.set p x).take (l.length - 1)) (updI (updI f x.1 (some ((p : Nat) : Int))) j none) := by
  obtain ⟨p', h1, h2, h3⟩ := h.find hj
  have : p' = p := by rw [hp] at h1; injection h1 with h1; omega
  subst this
  obtain ⟨x1, jx, x2, x3, x4⟩ := h.row _ x hx
  have getq : ∀ (q : Nat) (r : Row), ((l.set p' x).take (l.length - 1))[q]? = some r → q < l.length - 1 ∧ ((q = p' ∧ r = x) ∨ (q ≠ p' ∧ l[q]? = some r)) := by
    intro q r hr
    rw [List.getElem?_take] at hr
    split at hr
    · rename_i hq
      refine ⟨hq, ?_⟩
      rw [List.getElem?_set] at hr
      split at hr
      · rename_i e
        try rw [if_pos h2] at hr
        injection hr with hr
        exact .inl ⟨e.symm, hr.symm⟩
      · rename_i e
        exact .inr ⟨fun e2 => e e2.symm, hr⟩
    · cases hr
  refine ⟨sorted_delS h.sorted, fun i hi => h.small i (mem_delS.1 hi).1, ?_, fun i k hk => ?_, fun q r hr => ?_, fun i hi => ?_⟩
  · have := len_delS (sorted_nodup h.sorted) hj
    have := h.len
    rw [List.length_take, List.length_set]
    omega
  · by_cases e : i = (j : Nat)
    · subst e; rw [updI_same] at hk; cases hk
    · rw [updI_other e] at hk
      by_cases e2 : i = x.1
      · subst e2
        rw [updI_same] at hk
        injection hk with hk
        have hpl : p' ≠ l.length - 1 := fun e3 => by
          rw [e3, hx] at h3
          injection h3 with h3
          exact e (by rw [h3])
        exact ⟨p', x, hk.symm, by rw [List.getElem?_take, if_pos (by omega), List.getElem?_set]; simp [h2], rfl⟩
      · rw [updI_other e2] at hk
        obtain ⟨q, r, rfl, hr, rfl⟩ := h.at_ i k hk
        have hq1 : q ≠ l.length - 1 := fun e3 => by
          subst e3
          rw [hx] at hr
          injection hr with hr
          exact e2 (by rw [hr])
        have hq2 : p' ≠ q := fun e3 => by
          subst e3
          rw [h3] at hr
          injection hr with hr
          exact e (by rw [← hr])
        have := (List.getElem?_eq_some_iff.1 hr).1
        exact ⟨q, r, rfl, by rw [List.getElem?_take, if_pos (by omega), List.getElem?_set, if_neg hq2]; exact hr, rfl⟩
  · obtain ⟨hq, hc⟩ := getq q r hr
    rcases hc with ⟨rfl, rfl⟩ | ⟨hne, hr⟩
    · have hne2 : jx ≠ j := fun e => by
        subst e
        rw [x2, hp] at x1
        injection x1 with x1
        omega
      exact ⟨by rw [updI_other (by omega), updI_same], jx, x2, mem_delS.2 ⟨x3, hne2⟩, x4⟩
    · obtain ⟨h4, j', h5, h6, h7⟩ := h.row q r hr
      have hne2 : j' ≠ j := fun e => by
        subst e
        rw [h5, hp] at h4
        injection h4 with h4
        omega
      have hne3 : r.1 ≠ x.1 := fun e => by
        rw [e, x1] at h4
        injection h4 with h4
        omega
      exact ⟨by rw [updI_other (by omega), updI_other hne3]; exact h4, j', h5, mem_delS.2 ⟨h6, hne2⟩, h7⟩
  · obtain ⟨hi1, hne⟩ := mem_delS.1 hi
    by_cases e : ((i : Nat) : Int) = x.1
    · exact ⟨(p' : Nat), by rw [updI_other (by omega), e, updI_same]⟩
    · obtain ⟨k, hk⟩ := h.mem i hi1
      exact ⟨k, by rw [updI_other (by omega), updI_other e]; exact hk⟩
end
end Go.Proofs.Ytmdjpeblbnbjmaa
