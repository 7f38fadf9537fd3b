/-
  A table that is found by sums, laid anew: plain law. No function of the program stands here.
-/
import Derived.Test.YtmdjpeblbnbjmaaHt5
set_option maxRecDepth 100000
namespace Go.Proofs.Ytmdjpeblbnbjmaa
open Go Go.RowKit

/-- The first k slots have been put anew. -/
structure GrI (l : List HS) (g : Nat → V3) (k : Nat) (Sk : List Nat) (gk : Nat → V3) : Prop where
  mem : ∀ j, j ∈ Sk ↔ ∃ (p : Nat) (v : V3), p < k ∧ l[p]? = some (HS.f j v)
  val : ∀ j ∈ Sk, gk j = g j
  len : Sk.length ≤ k
theorem GrI.start (l : List HS) (g gk : Nat → V3) : GrI l g 0 [] gk :=
  ⟨fun _ => ⟨fun h => absurd h List.not_mem_nil, fun ⟨_, _, h, _⟩ => absurd h (Nat.not_lt_zero _)⟩, fun _ h => absurd h List.not_mem_nil, Nat.le_refl _⟩
section
variable {n : Nat} {l : List HS} {S Sk : List Nat} {g gk : Nat → V3} {left k : Nat}
theorem GrI.skip (h : GrI l g k Sk gk) {s : HS} (hs : l[k]? = some s) (hf : s.isF = false) : GrI l g (k + 1) Sk gk := by
  refine ⟨fun j => ?_, h.val, Nat.le_trans h.len (Nat.le_succ _)⟩
  rw [h.mem]
  constructor
  · rintro ⟨p, v, h1, h2⟩
    exact ⟨p, v, by omega, h2⟩
  · rintro ⟨p, v, h1, h2⟩
    by_cases e : p = k
    · subst e
      rw [hs] at h2
      injection h2 with h2
      subst h2
      cases hf
    · exact ⟨p, v, by omega, h2⟩
theorem GrI.fresh (h : GrI l g k Sk gk) (hok : HtOk n l S g left) {j : Nat} {v : V3} (hs : l[k]? = some (HS.f j v)) : j ∉ Sk := fun hj => by
  obtain ⟨p, u, h1, h2⟩ := (h.mem j).1 hj
  have := hok.one hs h2
  omega
theorem GrI.put (h : GrI l g k Sk gk) (hok : HtOk n l S g left) {j : Nat} {v : V3} (hs : l[k]? = some (HS.f j v)) : GrI l g (k + 1) (insS j Sk) (pG gk (j : Nat) v) := by
  have hfr := h.fresh hok hs
  have hv := (hok.full k j v hs).2.1
  refine ⟨fun i => ?_, fun i hi => ?_, by rw [len_insS hfr]; exact Nat.succ_le_succ h.len⟩
  · rw [mem_insS, h.mem]
    constructor
    · rintro (rfl | ⟨p, u, h1, h2⟩)
      · exact ⟨k, v, by omega, hs⟩
      · exact ⟨p, u, by omega, h2⟩
    · rintro ⟨p, u, h1, h2⟩
      by_cases e : p = k
      · subst e
        rw [hs] at h2
        injection h2 with h2
        injection h2 with h2 _
        exact .inl h2.symm
      · exact .inr ⟨p, u, by omega, h2⟩
  · by_cases e : i = j
    · subst e
      simp only [pG]
      rw [if_pos trivial, hv]
    · have : i ∈ Sk := (mem_insS.1 hi).resolve_left e
      simp only [pG]
      rw [if_neg (by omega), h.val i this]
theorem HtOk.congr {g' : Nat → V3} (h : HtOk n l S g left) (hg : ∀ j ∈ S, g j = g' j) : HtOk n l S g' left :=
  ⟨h.pow, h.len, h.sorted, h.small, fun p i v hv => by
    obtain ⟨h1, h2, h3⟩ := h.full p i v hv
    exact ⟨h1, by rw [h2, hg i h1], h3⟩, fun i hi => by
    obtain ⟨p, hp⟩ := h.has i hi
    exact ⟨p, by rw [← hg i hi]; exact hp⟩, h.cf, h.ct⟩
/-- All have been put anew. -/
theorem GrI.done {n' left' : Nat} {l' : List HS} (h : GrI l g l.length Sk gk) (hok : HtOk n l S g left) (hok' : HtOk n' l' Sk gk left') : HtOk n' l' S g left' := by
  have e : Sk = S := sorted_ext hok'.sorted hok.sorted fun j => by
    rw [h.mem]
    constructor
    · rintro ⟨p, v, _, h2⟩
      exact (hok.full p j v h2).1
    · intro hj
      obtain ⟨p, hp⟩ := hok.has j hj
      exact ⟨p, g j, (List.getElem?_eq_some_iff.1 hp).1, hp⟩
  subst e
  exact hok'.congr h.val
theorem Pow.twice {n m : Nat} (h : Pow n) (hm : n < 2 * m) (hm2 : m ≤ 65536) : Pow (n * 2) := by
  obtain ⟨k, h1, h2, rfl⟩ := h
  refine ⟨k + 1, by omega, ?_, by rw [Nat.pow_succ]⟩
  refine Classical.byContradiction fun hc => ?_
  have : 2 ^ 18 ≤ 2 ^ k := Nat.pow_le_pow_right (by decide) (by omega)
  omega
end
end Go.Proofs.Ytmdjpeblbnbjmaa
