/-
  Copying a set, the plain law: nodes below a node, copied kid by kid. No function of the program stands here.
-/
import Derived.Test.YtkcbjkadalebjaaDoorHlaw
set_option maxRecDepth 100000
namespace Go.Proofs.YtkcbjkadalebjaaDoor
open Go Go.RowKit

/-- The keys below (l, p), by its first i kids. -/
def Und (l p i : Nat) (k : Key) : Prop := k.1 < l ∧ 64 * p ≤ k.2 / 64 ^ (l - 1 - k.1) ∧ k.2 / 64 ^ (l - 1 - k.1) < 64 * p + i
structure Cop (G : Key → Option Nat) (l p i : Nat) (ks : List Key) (G' : Key → Option Nat) : Prop where
  nodup : ks.Nodup
  mem : ∀ k, k ∈ ks ↔ Und l p i k ∧ G k ≠ none
  there : ∀ k, k ∈ ks ↔ G' k ≠ none
/-- A node's cells, whatever its level. -/
def cellsN (G : Key → Option Nat) (W : Key → Nat) (l p : Nat) : List Value := .int .u64 (W (l, p) : Nat) :: (List.range 64).map fun d => kidV G l p d
/-- Whoever is there has all above there. -/
def UpG (G : Key → Option Nat) : Prop := ∀ (k : Key) (m : Nat), k.1 < m → m < 3 → G k ≠ none → G (m, k.2 / 64 ^ (m - k.1)) ≠ none
theorem div_pow (i a b : Nat) : i / 64 ^ a / 64 ^ b = i / 64 ^ (a + b) := by rw [Nat.div_div_eq_div_mul, Nat.pow_add]
theorem Fits.up {T : Nat} {S : List Nat} {ks : List Key} {G : Key → Option Nat} {W : Key → Nat} (hf : Fits T S ks G W) : UpG G := fun k m h1 h2 h3 => by
  obtain ⟨i, hi, e⟩ := wordOf_ne.1 ((hf.there k (by omega)).1 h3)
  refine (hf.there _ h2).2 (wordOf_ne.2 ⟨i, hi, ?_⟩)
  show i / 64 ^ (m + 1) = k.2 / 64 ^ (m - k.1)
  rw [← e, div_pow]
  congr 2
  omega
theorem und_zero {p i : Nat} {k : Key} : ¬ Und 0 p i k := fun h => absurd h.1 (Nat.not_lt_zero _)
theorem und_start {l p : Nat} {k : Key} : ¬ Und l p 0 k := fun h => by have := h.2; omega
theorem und_next {m p i : Nat} {k : Key} : Und (m + 1) p (i + 1) k ↔ Und (m + 1) p i k ∨ (k.1 ≤ m ∧ k.2 / 64 ^ (m - k.1) = 64 * p + i) := by
  unfold Und
  rw [show m + 1 - 1 = m from rfl]
  omega
theorem und_kid {m q : Nat} {k : Key} : (k.1 ≤ m ∧ k.2 / 64 ^ (m - k.1) = q) ↔ k = (m, q) ∨ Und m q 64 k := by
  obtain ⟨a, b⟩ := k
  unfold Und
  simp only [Prod.mk.injEq]
  constructor
  · rintro ⟨h1, h2⟩
    rcases Nat.lt_or_ge a m with h | h
    · refine .inr ⟨h, ?_⟩
      have e : m - a = (m - 1 - a) + 1 := by omega
      rw [e, Nat.pow_succ, ← Nat.div_div_eq_div_mul] at h2
      omega
    · obtain rfl : a = m := by omega
      rw [Nat.sub_self, Nat.pow_zero, Nat.div_one] at h2
      exact .inl ⟨rfl, h2⟩
  · rintro (⟨rfl, rfl⟩ | ⟨h, h2⟩)
    · exact ⟨Nat.le_refl _, by simp⟩
    · refine ⟨Nat.le_of_lt h, ?_⟩
      have e : m - a = (m - 1 - a) + 1 := by omega
      rw [e, Nat.pow_succ, ← Nat.div_div_eq_div_mul]
      omega
theorem kid_anc {a b d m : Nat} (ha : a ≠ 0) (hm : a ≤ m) (hd : d < 64) : (64 * b + d) / 64 ^ (m - (a - 1)) = b / 64 ^ (m - a) := by
  rw [show m - (a - 1) = 1 + (m - a) by omega, ← div_pow]
  congr 1
  omega
theorem ndBlk_congr {G G' : Key → Option Nat} {W : Key → Nat} {n : Nat} {k : Key} (h : G k = G' k) (hk : ∀ d, d < 64 → k.1 ≠ 0 → G (k.1 - 1, 64 * k.2 + d) = G' (k.1 - 1, 64 * k.2 + d)) : ndBlk G W n k = ndBlk G' W n k := by
  have e : (List.range 64).map (fun d => kidV G k.1 k.2 d) = (List.range 64).map (fun d => kidV G' k.1 k.2 d) := List.map_congr_left fun d hd => by
    have hd2 : d < 64 := by simpa using hd
    unfold kidV
    by_cases h0 : k.1 = 0
    · rw [if_pos h0, if_pos h0]
    · rw [if_neg h0, if_neg h0, hk d hd2 h0]
  unfold ndBlk nodeCells
  rw [h, e]
theorem cellsN_congr {G G' : Key → Option Nat} {W : Key → Nat} {l p : Nat} (hk : ∀ d, d < 64 → l ≠ 0 → G (l - 1, 64 * p + d) = G' (l - 1, 64 * p + d)) : cellsN G W l p = cellsN G' W l p := by
  unfold cellsN
  congr 1
  exact List.map_congr_left fun d hd => by
    have hd2 : d < 64 := by simpa using hd
    unfold kidV
    by_cases h0 : l = 0
    · rw [if_pos h0, if_pos h0]
    · rw [if_neg h0, if_neg h0, hk d hd2 h0]
section
variable {G G1 G2 : Key → Option Nat} {W : Key → Nat} {l m p i c : Nat} {ks1 ks2 : List Key}
theorem Cop.out1 (h : Cop G l p i ks1 G1) {k : Key} (hk : ¬ Und l p i k) : G1 k = none := Classical.byContradiction fun h2 => hk ((h.mem k).1 ((h.there k).2 h2)).1
theorem cop_zero (i : Nat) : Cop G 0 p i [] (fun _ => none) := ⟨List.Pairwise.nil, fun k => by simp only [List.not_mem_nil, false_iff]; exact fun h => und_zero h.1, fun k => by simp⟩
theorem cop_start : Cop G l p 0 [] (fun _ => none) := ⟨List.Pairwise.nil, fun k => by simp only [List.not_mem_nil, false_iff]; exact fun h => und_start h.1, fun k => by simp⟩
/-- A kid that is none. -/
theorem Cop.skip (h : Cop G (m + 1) p i ks1 G1) (hup : UpG G) (hm : m < 3) (hn : G (m, 64 * p + i) = none) : Cop G (m + 1) p (i + 1) ks1 G1 := ⟨h.nodup, fun k => by
  rw [h.mem, und_next]
  refine ⟨fun h1 => ⟨.inl h1.1, h1.2⟩, fun ⟨h1, h2⟩ => ⟨h1.resolve_right fun ⟨h3, h4⟩ => ?_, h2⟩⟩
  rcases Nat.lt_or_ge k.1 m with h5 | h5
  · exact hup k m h5 hm h2 (h4 ▸ hn)
  · obtain ⟨a, b⟩ := k
    have : a = m := by simp only at h3 h5; omega
    subst this
    simp only [Nat.sub_self, Nat.pow_zero, Nat.div_one] at h4
    subst h4
    exact h2 hn, h.there⟩
/-- What is copied, one more kid. -/
def addG (G1 G2 : Key → Option Nat) (ks2 : List Key) (q : Key) (c : Nat) : Key → Option Nat := fun k => if k = q then some c else if k ∈ ks2 then G2 k else G1 k
theorem not_und_kid (h : Cop G m (64 * p + i) 64 ks2 G2) {k : Key} (hq : k.2 / 64 ^ (m - k.1) ≠ 64 * p + i) : k ≠ (m, 64 * p + i) ∧ k ∉ ks2 := by
  have h2 := fun hh => hq (und_kid.2 hh).2
  exact ⟨fun e => h2 (.inl e), fun e => h2 (.inr ((h.mem k).1 e).1)⟩
theorem Cop.anc (h : Cop G (m + 1) p i ks1 G1) {k : Key} (hk : k ∈ ks1) : k.1 ≤ m ∧ k.2 / 64 ^ (m - k.1) ≠ 64 * p + i := by
  have := ((h.mem k).1 hk).1
  unfold Und at this
  rw [show m + 1 - 1 = m from rfl] at this
  omega
theorem Cop.add (h : Cop G (m + 1) p i ks1 G1) (h2 : Cop G m (64 * p + i) 64 ks2 G2) (hs : G (m, 64 * p + i) ≠ none) : Cop G (m + 1) p (i + 1) ((m, 64 * p + i) :: (ks2 ++ ks1)) (addG G1 G2 ks2 (m, 64 * p + i) c) := by
  have n1 : (m, 64 * p + i) ∉ ks1 := fun h3 => (h.anc h3).2 (by simp)
  have n2 : (m, 64 * p + i) ∉ ks2 := fun h3 => by have h4 := ((h2.mem _).1 h3).1.1; simp only at h4; omega
  have n12 : ∀ k ∈ ks2, k ∉ ks1 := fun k hk hk1 => (h.anc hk1).2 (und_kid.2 (.inr ((h2.mem k).1 hk).1)).2
  refine ⟨?_, fun k => ?_, fun k => ?_⟩
  · rw [List.nodup_cons, List.nodup_append]
    refine ⟨by simp [n1, n2], h2.nodup, h.nodup, fun a ha b hb e => n12 a ha (e ▸ hb)⟩
  · rw [List.mem_cons, List.mem_append, h.mem, h2.mem, und_next, und_kid]
    constructor
    · rintro (rfl | h3 | h3)
      · exact ⟨.inr (.inl rfl), hs⟩
      · exact ⟨.inr (.inr h3.1), h3.2⟩
      · exact ⟨.inl h3.1, h3.2⟩
    · rintro ⟨h3 | h3 | h3, h4⟩
      · exact .inr (.inr ⟨h3, h4⟩)
      · exact .inl h3
      · exact .inr (.inl ⟨h3, h4⟩)
  · rw [List.mem_cons, List.mem_append]
    unfold addG
    by_cases e : k = (m, 64 * p + i)
    · simp [e]
    · rw [if_neg e]
      by_cases e2 : k ∈ ks2
      · rw [if_pos e2]; simp [e2, (h2.there k).1 e2]
      · rw [if_neg e2, ← h.there k]; simp [e, e2]
theorem Cop.kid_in2 (h : Cop G (m + 1) p i ks1 G1) (h2 : Cop G m (64 * p + i) 64 ks2 G2) {k : Key} (hk : k.1 < m) (hq : k.2 / 64 ^ (m - k.1) = 64 * p + i) : addG G1 G2 ks2 (m, 64 * p + i) c k = G2 k := by
  have e : k ≠ (m, 64 * p + i) := fun e => by subst e; exact absurd hk (Nat.lt_irrefl _)
  unfold addG
  rw [if_neg e]
  by_cases e2 : k ∈ ks2
  · rw [if_pos e2]
  · rw [if_neg e2]
    have a1 : G1 k = none := Classical.byContradiction fun h3 => (h.anc ((h.there k).2 h3)).2 hq
    have a2 : G2 k = none := Classical.byContradiction fun h3 => e2 ((h2.there k).2 h3)
    rw [a1, a2]
theorem Cop.add1 (h : Cop G (m + 1) p i ks1 G1) (h2 : Cop G m (64 * p + i) 64 ks2 G2) : ∀ k ∈ ks1, ndBlk (addG G1 G2 ks2 (m, 64 * p + i) c) W 0 k = ndBlk G1 W 0 k := fun k hk => by
  have ⟨a1, a2⟩ := h.anc hk
  have hout : ∀ k : Key, k.1 ≤ m → k.2 / 64 ^ (m - k.1) ≠ 64 * p + i → addG G1 G2 ks2 (m, 64 * p + i) c k = G1 k := fun k _ b2 => by
    have ⟨c1, c2⟩ := not_und_kid h2 b2
    unfold addG
    rw [if_neg c1, if_neg c2]
  exact ndBlk_congr (hout k a1 a2) fun d hd h0 => hout _ (by simp only; omega) (by simp only; rw [kid_anc h0 a1 hd]; exact a2)
theorem Cop.add2 (h : Cop G (m + 1) p i ks1 G1) (h2 : Cop G m (64 * p + i) 64 ks2 G2) : ∀ k ∈ ks2, ndBlk (addG G1 G2 ks2 (m, 64 * p + i) c) W 0 k = ndBlk G2 W 0 k := fun k hk => by
  have hu := ((h2.mem k).1 hk).1
  have ha := (und_kid.2 (.inr hu)).2
  exact ndBlk_congr (h.kid_in2 h2 hu.1 ha) fun d hd h0 => h.kid_in2 h2 (by simp only; have := hu.1; omega) (by simp only; rw [kid_anc h0 (Nat.le_of_lt hu.1) hd]; exact ha)
theorem Cop.addc (h : Cop G (m + 1) p i ks1 G1) (h2 : Cop G m (64 * p + i) 64 ks2 G2) (hm : m < 3) : ndBlk (addG G1 G2 ks2 (m, 64 * p + i) c) W 0 (m, 64 * p + i) = blk c (cellsN G2 W m (64 * p + i)).toArray 85 := by
  have e : cellsN (addG G1 G2 ks2 (m, 64 * p + i) c) W m (64 * p + i) = cellsN G2 W m (64 * p + i) := cellsN_congr fun d hd h0 => h.kid_in2 h2 (by simp only; omega) (by
    simp only
    rw [kid_anc h0 (Nat.le_refl m) hd]
    simp)
  have h3 : ¬ m = 3 := by omega
  rw [← e]
  unfold ndBlk nodeCells nodeTy cellsN addG
  simp only [if_true, Option.getD_some, if_neg h3, List.append_nil]
theorem Cop.adds (h2 : Cop G m (64 * p + i) 64 ks2 G2) : cellsN (addG G1 G2 ks2 (m, 64 * p + i) c) W (m + 1) p = (cellsN G1 W (m + 1) p).set (1 + i) (.pointer (some ⟨c, 0, none⟩)) := by
  unfold cellsN
  rw [Nat.add_comm 1 i, List.set_cons_succ, map_range_set (d := i) (f := fun e => kidV G1 (m + 1) p e) (fun e he => ?_)]
  · congr 2
    unfold kidV addG
    simp
  · unfold kidV
    rw [if_neg (Nat.succ_ne_zero m), if_neg (Nat.succ_ne_zero m), show m + 1 - 1 = m from rfl]
    have c1 : (m, 64 * p + e) ≠ (m, 64 * p + i) := fun h3 => he (by injection h3; omega)
    have c2 : (m, 64 * p + e) ∉ ks2 := fun h3 => absurd ((h2.mem _).1 h3).1.1 (Nat.lt_irrefl _)
    unfold addG
    rw [if_neg c1, if_neg c2]
end
section
variable {G G' : Key → Option Nat} {W : Key → Nat} {T T' n : Nat} {S : List Nat} {ks ks' : List Key}
theorem Cop.fits (hf : Fits T S ks G W) (h : Cop G 3 0 64 ks' G') : Fits T' S ((3, 0) :: ks') (upd G' (3, 0) (some T')) W where
  nodup := List.nodup_cons.2 ⟨fun h2 => absurd ((h.mem _).1 h2).1.1 (Nat.lt_irrefl _), h.nodup⟩
  mem k := by
    by_cases e : k = (3, 0)
    · subst e; rw [upd_same]; simp
    · rw [upd_other _ _ e, List.mem_cons, h.there]; simp [e]
  top := upd_same _ _ _
  lev k hk := by
    rcases List.mem_cons.1 hk with rfl | h2
    · exact ⟨Nat.le_refl _, fun _ => rfl⟩
    · have := ((h.mem k).1 h2).1.1
      exact ⟨Nat.le_of_lt this, fun h3 => by omega⟩
  there k hk := by
    have e : k ≠ (3, 0) := fun e => by subst e; exact absurd hk (Nat.lt_irrefl _)
    rw [upd_other _ _ e, ← h.there, h.mem, hf.there k hk]
    refine ⟨fun h2 => h2.2, fun h2 => ⟨?_, h2⟩⟩
    obtain ⟨i, hi, e2⟩ := wordOf_ne.1 h2
    have hsm := hf.small i hi
    refine ⟨hk, Nat.zero_le _, ?_⟩
    rw [← e2, div_pow, show k.1 + 1 + (3 - 1 - k.1) = 3 by omega]
    omega
  word := hf.word
  sorted := hf.sorted
  small := hf.small
theorem Cop.top_cells : nodeCells (upd G' (3, 0) (some T')) W n (3, 0) = cellsN G' W 3 0 ++ [.int .i64 (n : Nat)] := by
  have e : cellsN (upd G' (3, 0) (some T')) W 3 0 = cellsN G' W 3 0 := cellsN_congr fun d _ _ => upd_other _ _ (by intro h; injection h with h1; exact absurd h1 (by decide))
  rw [← e]
  rfl
theorem Cop.top_rest (h : Cop G 3 0 64 ks' G') : ∀ k ∈ ks', ndBlk (upd G' (3, 0) (some T')) W n k = ndBlk G' W 0 k := fun k hk => by
  have h3 : k.1 < 3 := ((h.mem k).1 hk).1.1
  have e : ndBlk (upd G' (3, 0) (some T')) W n k = ndBlk G' W n k := ndBlk_congr (upd_other _ _ fun e => by subst e; exact absurd h3 (Nat.lt_irrefl _)) fun d _ _ => upd_other _ _ (by intro h4; injection h4 with h5; omega)
  rw [e]
  unfold ndBlk nodeCells
  rw [if_neg (by omega), if_neg (by omega)]
end
end Go.Proofs.YtkcbjkadalebjaaDoor
