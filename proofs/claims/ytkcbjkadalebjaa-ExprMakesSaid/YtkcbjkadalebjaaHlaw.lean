/-
  Plain law of a set's functions: how far Remove has come; the least number from one on; some numbers from one on. No function of the program is walked here.
-/
import Derived.Test.YtkcbjkadalebjaaHib
namespace Go.Proofs.Ytkcbjkadalebjaa
open Go Go.RowKit

theorem div_up {i j a b : Nat} (h : j / 64 ^ a = i / 64 ^ a) (hab : a ≤ b) : j / 64 ^ b = i / 64 ^ b := by
  obtain ⟨c, rfl⟩ := Nat.exists_eq_add_of_le hab
  rw [Nat.pow_add, ← Nat.div_div_eq_div_mul, ← Nat.div_div_eq_div_mul, h]

/-- How far Remove has come: the levels below m lack the number, what is empty of them but for the last is gone. -/
structure RemPart (T : Nat) (S : List Nat) (i m : Nat) (ks : List Key) (G : Key → Option Nat) (W : Key → Nat) (gw : Nat → Nat) : Prop where
  nodup : ks.Nodup
  mem : ∀ k, k ∈ ks ↔ G k ≠ none
  top : G (3, 0) = some T
  lev : ∀ k ∈ ks, k.1 ≤ 3 ∧ (k.1 = 3 → k.2 = 0)
  there : ∀ k : Key, k.1 < 3 → (G k ≠ none ↔ wordOf S k ≠ 0 ∧ ¬ (k.1 + 1 < m ∧ k.2 = plc i k.1))
  word : ∀ k : Key, k.1 ≤ 3 → W k = if k.1 < m then wordOf (delS i S) k else wordOf S k
  way : ∀ l, m ≤ l → l ≤ 3 → G (l, plc i l) = some (gw l)
def Gone (S : List Nat) (i m : Nat) : Prop := ∀ j ∈ delS i S, j / 64 ^ m ≠ i / 64 ^ m
theorem gone_zero (S : List Nat) (i : Nat) : Gone S i 0 := fun j hj h => (mem_delS.1 hj).2 (by simpa using h)
theorem gone_next {S : List Nat} {i m : Nat} (h : wordOf (delS i S) (m, plc i m) = 0) : Gone S i (m + 1) := fun j hj e => (wordOf_ne (S := delS i S) (l := m) (p := plc i m)).2 ⟨j, hj, e⟩ h
section
variable {T : Nat} {S : List Nat} {i m : Nat} {ks : List Key} {G : Key → Option Nat} {W : Key → Nat} {gw : Nat → Nat}
theorem Fits.way (hf : Fits T S ks G W) (hi : i < 16777216) (him : i ∈ S) : ∃ gw : Nat → Nat, gw 3 = T ∧ ∀ l, l ≤ 3 → G (l, plc i l) = some (gw l) := by
  refine ⟨fun l => (G (l, plc i l)).getD 0, by simp only; rw [plc_3 hi, hf.top]; rfl, fun l hl => ?_⟩
  have : G (l, plc i l) ≠ none := by
    by_cases h : l < 3
    · exact (hf.there _ h).2 (wordOf_ne.2 ⟨i, him, rfl⟩)
    · obtain rfl : l = 3 := by omega
      rw [plc_3 hi, hf.top]; exact Option.some_ne_none T
  cases hg : G (l, plc i l) with
  | none => exact absurd hg this
  | some g => simp only [hg]; rfl
theorem Fits.rem (hf : Fits T S ks G W) (hw : ∀ l, l ≤ 3 → G (l, plc i l) = some (gw l)) : RemPart T S i 0 ks G W gw where
  nodup := hf.nodup
  mem := hf.mem
  top := hf.top
  lev := hf.lev
  there k hk := by rw [hf.there k hk]; exact ⟨fun h => ⟨h, fun h2 => by omega⟩, fun h => h.1⟩
  word k hk := by rw [hf.word k hk, if_neg (Nat.not_lt_zero _)]
  way l _ hl := hw l hl
theorem RemPart.in_ks (h : RemPart T S i m ks G W gw) {l : Nat} (h1 : m ≤ l) (h2 : l ≤ 3) : (l, plc i l) ∈ ks := (h.mem _).2 (by rw [h.way l h1 h2]; exact Option.some_ne_none _)
theorem RemPart.word_here (h : RemPart T S i m ks G W gw) (hm : m ≤ 3) : W (m, plc i m) = wordOf S (m, plc i m) := by rw [h.word _ hm, if_neg (Nat.lt_irrefl _)]
theorem RemPart.below (h : RemPart T S i (m + 1) ks G W gw) (him : i ∈ S) (hm : m < 3) : (m, plc i m) ∈ ks := (h.mem _).2 ((h.there (m, plc i m) hm).2 ⟨wordOf_ne.2 ⟨i, him, rfl⟩, fun h => by simp only at h; omega⟩)
theorem RemPart.words (h : RemPart T S i m ks G W gw) {y : Nat} (hy : y = wordOf (delS i S) (m, plc i m)) (k : Key) (hk : k.1 ≤ 3) : upd W (m, plc i m) y k = if k.1 < m + 1 then wordOf (delS i S) k else wordOf S k := by
  obtain ⟨l, p⟩ := k
  by_cases e : (l, p) = (m, plc i m)
  · rw [e, upd_same, if_pos (Nat.lt_succ_self _), hy]
  · rw [upd_other _ _ e, h.word _ hk]
    by_cases h1 : l < m
    · rw [if_pos h1, if_pos (Nat.lt_succ_of_lt h1)]
    · rw [if_neg h1]
      by_cases h2 : l < m + 1
      · have hml : l = m := by omega
        subst hml
        rw [if_pos h2, wordOf_del_off fun hp => e (by rw [show p = plc i l from hp])]
      · rw [if_neg h2]
theorem RemPart.step0 (h : RemPart T S i 0 ks G W gw) {y : Nat} (hy : y = wordOf (delS i S) (0, plc i 0)) : RemPart T S i 1 ks G (upd W (0, plc i 0) y) gw where
  nodup := h.nodup
  mem := h.mem
  top := h.top
  lev := h.lev
  there k hk := by rw [h.there k hk]; exact ⟨fun h => ⟨h.1, fun h2 => by omega⟩, fun h => ⟨h.1, fun h2 => by omega⟩⟩
  word := h.words hy
  way l h1 h2 := h.way l (by omega) h2
theorem RemPart.step (h : RemPart T S i (m + 1) ks G W gw) (hm : m < 3) {y : Nat} (hy : y = wordOf (delS i S) (m + 1, plc i (m + 1))) : RemPart T S i (m + 2) (ks.erase (m, plc i m)) (upd G (m, plc i m) none) (upd W (m + 1, plc i (m + 1)) y) gw where
  nodup := h.nodup.erase _
  mem k := by
    rw [List.Nodup.mem_erase_iff h.nodup, h.mem]
    by_cases e : k = (m, plc i m)
    · rw [e, upd_same]; simp
    · rw [upd_other _ _ e]; simp [e]
  top := by rw [upd_other _ _ (by intro e; injection e; omega)]; exact h.top
  lev k hk := h.lev k (List.mem_of_mem_erase hk)
  there k hk := by
    by_cases e : k = (m, plc i m)
    · rw [e, upd_same]; simp
    · rw [upd_other _ _ e, h.there k hk]
      refine and_congr_right fun _ => not_congr ⟨fun h => ⟨by omega, h.2⟩, fun h => ⟨?_, h.2⟩⟩
      by_cases e2 : k.1 = m
      · exact absurd (Prod.ext e2 (by rw [h.2, e2])) e
      · omega
  word := h.words hy
  way l h1 h2 := by rw [upd_other _ _ (by intro e; injection e; omega)]; exact h.way l (by omega) h2
theorem RemPart.next (h : RemPart T S i m ks G W gw) (him : i ∈ S) (hm : m ≤ 3) {y : Nat} (hy : y = wordOf (delS i S) (m, plc i m)) :
    ∃ ks' G', RemPart T S i (m + 1) ks' G' (upd W (m, plc i m) y) gw ∧ (m, plc i m) ∈ ks' ∧ G' (m, plc i m) = some (gw m) ∧
      ∀ (w0 : World) (L : List As) (n : Nat), Wr w0 (tbl ks G (upd W (m, plc i m) y) n :: L) ⟨gw m, 1 + dig i m, none⟩ (.pointer none) (tbl ks' G' (upd W (m, plc i m) y) n :: L) := by
  have hin := h.in_ks (Nat.le_refl m) hm
  have hhere := h.way m (Nat.le_refl m) hm
  cases m with
  | zero => exact ⟨ks, G, h.step0 hy, hin, hhere, fun w0 L n => Wr.tbl_low h.nodup hin hhere (dig_lt i 0)⟩
  | succ m =>
    have hne : (m + 1, plc i (m + 1)) ≠ (m, plc i m) := by intro e; injection e; omega
    refine ⟨_, _, h.step (by omega) hy, (List.Nodup.mem_erase_iff h.nodup).2 ⟨hne, hin⟩, by rw [upd_other _ _ hne]; exact hhere, fun w0 L n => ?_⟩
    have hb := h.below him (by omega)
    have := Wr.tbl_drop (w0 := w0) (L := L) (W := upd W (m + 1, plc i (m + 1)) y) (n := n) h.nodup hin hhere (Nat.succ_ne_zero m) (dig_lt i (m + 1)) (by rw [plc_next]; exact hb)
    rw [plc_next] at this
    exact this
theorem RemPart.done (h : RemPart T S i (m + 1) ks G W gw) (hS : S.Pairwise (· < ·)) (hs : ∀ a ∈ S, a < 16777216) (hg : Gone S i m) (hw : wordOf (delS i S) (m, plc i m) ≠ 0) : Fits T (delS i S) ks G W where
  nodup := h.nodup
  mem := h.mem
  top := h.top
  lev := h.lev
  there := fun ⟨l, p⟩ hk => by
    obtain ⟨j0, hj0, e0⟩ := wordOf_ne.1 hw
    rw [h.there _ hk, wordOf_ne, wordOf_ne]
    constructor
    · rintro ⟨⟨j, hj, h1⟩, h2⟩
      by_cases e : j = i
      · subst e
        have hl : m ≤ l := Classical.byContradiction fun hl => h2 ⟨by simp only; omega, h1.symm⟩
        exact ⟨j0, hj0, by rw [← h1]; exact div_up e0 (by omega)⟩
      · exact ⟨j, mem_delS.2 ⟨hj, e⟩, h1⟩
    · rintro ⟨j, hj, h1⟩
      refine ⟨⟨j, (mem_delS.1 hj).1, h1⟩, fun h2 => hg j hj (div_up (a := l + 1) ?_ (by have := h2.1; simp only at this; omega))⟩
      rw [h1]; exact h2.2
  word k hk := by
    obtain ⟨j0, hj0, e0⟩ := wordOf_ne.1 hw
    rw [h.word k hk]
    split
    · rfl
    · obtain ⟨l, p⟩ := k
      exact (wordOf_del_stays ⟨j0, hj0, div_up e0 (by simp only at *; omega)⟩ p).symm
  sorted := sorted_delS hS
  small a ha := hs a (mem_delS.1 ha).1
theorem RemPart.empty (h : RemPart T S i 4 ks G W gw) (hs : ∀ a ∈ S, a < 16777216) (hi : i < 16777216) (hg : Gone S i 4) : delS i S = [] ∧ Fits T (delS i S) ks G W := by
  have he : delS i S = [] := by
    cases hd : delS i S with
    | nil => rfl
    | cons j l =>
      have hj : j ∈ delS i S := by rw [hd]; simp
      have := hs j (mem_delS.1 hj).1
      exact absurd (by omega) (hg j hj)
  refine ⟨he, ⟨h.nodup, h.mem, h.top, h.lev, fun ⟨l, p⟩ hk => ?_, fun k hk => by rw [h.word k hk, if_pos (by omega)], by rw [he]; exact List.Pairwise.nil, by rw [he]; simp⟩⟩
  rw [h.there _ hk, wordOf_ne, wordOf_ne, he]
  constructor
  · rintro ⟨⟨j, hj, h1⟩, h2⟩
    have : j = i := Classical.byContradiction fun e => by
      have := mem_delS.2 ⟨hj, e⟩
      rw [he] at this
      cases this
    subst this
    exact absurd ⟨by simp only at *; omega, h1.symm⟩ h2
  · rintro ⟨j, hj, _⟩
    cases hj
end

/-! ### The least number from one on -/
def nextS (S : List Nat) (f : Int) : Int := match S.find? (fun a : Nat => decide (f ≤ (a : Int))) with
  | some a => a
  | none => -1
/-- r is the least of S from lo on and below hi, reckoned from base; -1: there is none. -/
def LowV (S : List Nat) (base lo hi : Nat) (r : Int) : Prop := (r = -1 ∧ ∀ a ∈ S, lo ≤ a → a < hi → False) ∨ ∃ a ∈ S, r = (a : Int) - base ∧ lo ≤ a ∧ a < hi ∧ ∀ b ∈ S, lo ≤ b → b < hi → a ≤ b
theorem LowV.next {S : List Nat} {f : Nat} {r : Int} (hS : S.Pairwise (· < ·)) (hs : ∀ a ∈ S, a < 16777216) (h : LowV S 0 f 16777216 r) : r = nextS S f := by
  unfold nextS
  rcases h with ⟨rfl, h⟩ | ⟨a, ha, rfl, h1, h2, h3⟩
  · have : S.find? (fun a : Nat => decide ((f : Int) ≤ (a : Int))) = none := List.find?_eq_none.2 fun a ha h4 => by
      have h5 : (f : Int) ≤ (a : Int) := by simpa using h4
      exact h a ha (by omega) (hs a ha)
    rw [this]
  · rw [find_first hS ha (p := fun a : Nat => decide ((f : Int) ≤ (a : Int))) (by simpa using h1) fun j hj hlt => ?_]
    · simp
    · have := hs j hj
      have h4 : ¬ (f ≤ j) := fun h5 => by have := h3 j hj h5 this; omega
      simpa using h4
theorem nextS_cases (S : List Nat) (hS : S.Pairwise (· < ·)) (f : Int) : (nextS S f = -1 ∧ ∀ a ∈ S, (a : Int) < f) ∨ ∃ a ∈ S, nextS S f = (a : Int) ∧ f ≤ a ∧ ∀ b ∈ S, f ≤ (b : Int) → a ≤ b := by
  unfold nextS
  cases h : S.find? (fun a : Nat => decide (f ≤ (a : Int))) with
  | none =>
    refine .inl ⟨rfl, fun a ha => ?_⟩
    have := List.find?_eq_none.1 h a ha
    simpa using this
  | some a =>
    have ha := List.mem_of_find?_eq_some h
    have hp := List.find?_some h
    refine .inr ⟨a, ha, rfl, by simpa using hp, fun b hb hfb => ?_⟩
    obtain ⟨l1, l2, e1, h2⟩ := (List.find?_eq_some_iff_append.1 h).2
    rw [e1] at hb hS
    rcases List.mem_append.1 hb with h3 | h3
    · have := h2 b h3
      simp at this
      omega
    · rcases List.mem_cons.1 h3 with h4 | h4
      · omega
      · have := (List.pairwise_cons.1 (List.pairwise_append.1 hS).2.1).1 b h4
        omega
theorem nextS_unique {S : List Nat} (hS : S.Pairwise (· < ·)) {f : Int} {a : Nat} (ha : a ∈ S) (h1 : f ≤ a) (h2 : ∀ b ∈ S, f ≤ (b : Int) → a ≤ b) : nextS S f = a := by
  rcases nextS_cases S hS f with ⟨_, h⟩ | ⟨c, hc, h, h3, h4⟩
  · have := h a ha; omega
  · rw [h]
    have := h4 a ha h1
    have := h2 c hc h3
    omega
theorem nextS_none {S : List Nat} (hS : S.Pairwise (· < ·)) {f : Int} (h : ∀ a ∈ S, (a : Int) < f) : nextS S f = -1 := by
  rcases nextS_cases S hS f with ⟨h1, _⟩ | ⟨c, hc, _, h3, _⟩
  · exact h1
  · have := h c hc; omega
/-- Those from one on. -/
def fromS (S : List Nat) (f : Int) : List Nat := S.filter fun a : Nat => decide (f ≤ (a : Int))
theorem fromS_sorted {S : List Nat} (hS : S.Pairwise (· < ·)) (f : Int) : (fromS S f).Pairwise (· < ·) := List.Pairwise.filter _ hS
theorem mem_fromS {S : List Nat} {f : Int} {a : Nat} : a ∈ fromS S f ↔ a ∈ S ∧ f ≤ (a : Int) := by simp [fromS]
theorem nextS_head {S : List Nat} (hS : S.Pairwise (· < ·)) (f : Int) : nextS S f = match fromS S f with | [] => -1 | a :: _ => (a : Int) := by
  cases h : fromS S f with
  | nil =>
    refine nextS_none hS fun a ha => ?_
    have : ¬ f ≤ (a : Int) := fun h2 => by
      have := mem_fromS.2 ⟨ha, h2⟩
      rw [h] at this
      cases this
    omega
  | cons a l =>
    have ha := mem_fromS.1 (show a ∈ fromS S f by rw [h]; simp)
    refine nextS_unique hS ha.1 ha.2 fun b hb hfb => ?_
    have hb2 := mem_fromS.2 ⟨hb, hfb⟩
    have hs := fromS_sorted hS f
    rw [h] at hb2 hs
    rcases List.mem_cons.1 hb2 with e | e
    · omega
    · have := (List.pairwise_cons.1 hs).1 b e
      omega
theorem fromS_next {S : List Nat} (hS : S.Pairwise (· < ·)) {f : Int} {a : Nat} {l : List Nat} (h : fromS S f = a :: l) : fromS S (a + 1) = l := by
  have hs := fromS_sorted hS f
  refine sorted_ext (fromS_sorted hS _) ?_ fun b => ?_
  · rw [h] at hs; exact (List.pairwise_cons.1 hs).2
  · have ha := mem_fromS.1 (show a ∈ fromS S f by rw [h]; simp)
    have hb : b ∈ fromS S f ↔ b = a ∨ b ∈ l := by rw [h]; simp
    rw [mem_fromS] at hb
    rw [mem_fromS]
    rw [h] at hs
    have h4 := (List.pairwise_cons.1 hs).1
    constructor
    · rintro ⟨h1, h2⟩
      exact (hb.1 ⟨h1, by omega⟩).resolve_left (by omega)
    · intro h1
      have := h4 b h1
      exact ⟨(hb.2 (.inr h1)).1, by omega⟩
theorem fromS_drop {S : List Nat} (hS : S.Pairwise (· < ·)) {f : Int} : ∀ {k : Nat} {a : Nat}, (fromS S f)[k]? = some a → (fromS S f).drop (k + 1) = fromS S (a + 1)
  | 0, a, h => by
    cases hl : fromS S f with
    | nil => rw [hl] at h; simp at h
    | cons b l =>
      rw [hl] at h
      simp at h
      subst h
      rw [fromS_next hS hl]
      rfl
  | k + 1, a, h => by
    have hk : k < (fromS S f).length := by
      have := (List.getElem?_eq_some_iff.1 h).1
      omega
    have ih := fromS_drop hS (List.getElem?_eq_getElem hk)
    have h2 : (fromS S (((fromS S f)[k] : Nat) + 1 : Int))[0]? = some a := by rw [← ih, List.getElem?_drop]; exact h
    have h3 := fromS_drop hS h2
    rw [← h3, ← ih, List.drop_drop]
/-! ### The least of a node, level by level -/
theorem bit_range {S : List Nat} {l p e : Nat} (he : e < 64) : (wordOf S (l, p)).testBit e = true ↔ ∃ i ∈ S, p * 64 ^ (l + 1) + e * 64 ^ l ≤ i ∧ i < p * 64 ^ (l + 1) + e * 64 ^ l + 64 ^ l := by
  rw [bit_wordOf _ _ _ _ he]
  have hB : 0 < 64 ^ l := Nat.pow_pos (by decide)
  have e1 : p * 64 ^ (l + 1) + e * 64 ^ l = (64 * p + e) * 64 ^ l := by rw [Nat.pow_succ, Nat.add_mul, Nat.mul_comm (64 ^ l) 64, ← Nat.mul_assoc, Nat.mul_comm p 64]
  rw [e1]
  have key : ∀ i, i / 64 ^ l = 64 * p + e ↔ (64 * p + e) * 64 ^ l ≤ i ∧ i < (64 * p + e) * 64 ^ l + 64 ^ l := fun i => by
    rw [Nat.div_eq_iff hB]
    generalize (64 * p + e) * 64 ^ l = x
    omega
  simp only [key]
def NoLow (S : List Nat) (l p f c : Nat) : Prop := ∀ a ∈ S, p * 64 ^ (l + 1) + f ≤ a → a < p * 64 ^ (l + 1) + c * 64 ^ l → False
theorem noLow_start {S : List Nat} {l p f : Nat} : NoLow S l p f (f / 64 ^ l) := fun a _ h1 h2 => by
  have := Nat.div_mul_le_self f (64 ^ l)
  omega
theorem noLow_next {S : List Nat} {l p f c d : Nat} (h : NoLow S l p f c) (hb : ∀ e, c ≤ e → e < d → (wordOf S (l, p)).testBit e = false) (hd : d ≤ 64) : NoLow S l p f d := fun a ha h1 h2 => by
  have hB : 0 < 64 ^ l := Nat.pow_pos (by decide)
  by_cases h3 : a < p * 64 ^ (l + 1) + c * 64 ^ l
  · exact h a ha h1 h3
  · have h4 : c ≤ (a - p * 64 ^ (l + 1)) / 64 ^ l := (Nat.le_div_iff_mul_le hB).2 (by omega)
    have h5 : (a - p * 64 ^ (l + 1)) / 64 ^ l < d := (Nat.div_lt_iff_lt_mul hB).2 (by omega)
    have h6 := hb _ h4 h5
    have h7 := Nat.div_mul_le_self (a - p * 64 ^ (l + 1)) (64 ^ l)
    have h8 : a - p * 64 ^ (l + 1) < ((a - p * 64 ^ (l + 1)) / 64 ^ l) * 64 ^ l + 64 ^ l := by
      have := Nat.lt_div_mul_add (a := a - p * 64 ^ (l + 1)) hB
      omega
    have h9 := (bit_range (S := S) (l := l) (p := p) (e := (a - p * 64 ^ (l + 1)) / 64 ^ l) (by omega)).2 ⟨a, ha, by omega, by omega⟩
    rw [h6] at h9
    cases h9
theorem lowV_none {S : List Nat} {l p f : Nat} (h : NoLow S l p f 64) : LowV S (p * 64 ^ (l + 1)) (p * 64 ^ (l + 1) + f) (p * 64 ^ (l + 1) + 64 ^ (l + 1)) (-1) :=
  .inl ⟨rfl, fun a ha h1 h2 => h a ha h1 (by rw [Nat.pow_succ 64 l, Nat.mul_comm (64 ^ l) 64] at h2 ⊢; exact h2)⟩
theorem lowV_zero {S : List Nat} {p f d : Nat} (h : NoLow S 0 p f d) (hd : d < 64) (hb : (wordOf S (0, p)).testBit d = true) (hf : f ≤ d) : LowV S (p * 64 ^ (0 + 1)) (p * 64 ^ (0 + 1) + f) (p * 64 ^ (0 + 1) + 64 ^ (0 + 1)) (d : Nat) := by
  obtain ⟨a, ha, h1, h2⟩ := (bit_range hd).1 hb
  refine .inr ⟨a, ha, by omega, by omega, by omega, fun b hb h3 h4 => Classical.byContradiction fun h5 => h b hb h3 (by omega)⟩
theorem kid_base (l p d : Nat) : (64 * p + d) * 64 ^ (l + 1) = p * 64 ^ (l + 1 + 1) + d * 64 ^ (l + 1) := by
  rw [Nat.pow_succ 64 (l + 1), Nat.add_mul, Nat.mul_comm (64 ^ (l + 1)) 64, ← Nat.mul_assoc, Nat.mul_comm p 64]
theorem kid_top {l p d : Nat} (hd : d < 64) : (64 * p + d) * 64 ^ (l + 1) + 64 ^ (l + 1) ≤ p * 64 ^ (l + 1 + 1) + 64 ^ (l + 1 + 1) := by
  rw [kid_base, Nat.pow_succ 64 (l + 1), Nat.mul_comm (64 ^ (l + 1)) 64]
  generalize p * (64 * 64 ^ (l + 1)) = x
  have := Nat.mul_le_mul_right (64 ^ (l + 1)) (show d + 1 ≤ 64 by omega)
  rw [Nat.add_mul] at this
  omega
theorem noLow_kid {S : List Nat} {l p f d : Nat} (h : NoLow S (l + 1) p f d) (hk : LowV S ((64 * p + d) * 64 ^ (l + 1)) ((64 * p + d) * 64 ^ (l + 1) + (f - d * 64 ^ (l + 1))) ((64 * p + d) * 64 ^ (l + 1) + 64 ^ (l + 1)) (-1)) : NoLow S (l + 1) p f (d + 1) := fun a ha h1 h2 => by
  rw [kid_base] at hk
  rw [Nat.add_mul] at h2
  rcases hk with ⟨_, hk⟩ | ⟨b, _, hb, h3, _⟩
  · by_cases h3 : a < p * 64 ^ (l + 1 + 1) + d * 64 ^ (l + 1)
    · exact h a ha h1 h3
    · exact hk a ha (by omega) (by omega)
  · omega
theorem lowV_kid {S : List Nat} {l p f d : Nat} {r : Int} (h : NoLow S (l + 1) p f d) (hd : d < 64) (hr : 0 ≤ r) (hk : LowV S ((64 * p + d) * 64 ^ (l + 1)) ((64 * p + d) * 64 ^ (l + 1) + (f - d * 64 ^ (l + 1))) ((64 * p + d) * 64 ^ (l + 1) + 64 ^ (l + 1)) r) :
    LowV S (p * 64 ^ (l + 1 + 1)) (p * 64 ^ (l + 1 + 1) + f) (p * 64 ^ (l + 1 + 1) + 64 ^ (l + 1 + 1)) (((d * 64 ^ (l + 1) : Nat) : Int) + r) := by
  have ht := kid_top (l := l) (p := p) hd
  rw [kid_base] at hk ht
  rcases hk with ⟨rfl, _⟩ | ⟨a, ha, h1, h2, h3, h4⟩
  · omega
  · refine .inr ⟨a, ha, ?_, by omega, by omega, fun b hb h5 h6 => Classical.byContradiction fun h7 => ?_⟩
    · rw [h1]; push_cast; omega
    · by_cases h8 : b < p * 64 ^ (l + 1 + 1) + d * 64 ^ (l + 1)
      · exact h b hb h5 h8
      · have := h4 b hb (by omega) (by omega)
        omega
theorem LowV.lt {S : List Nat} {base lo hi : Nat} {r : Int} (h : LowV S base lo hi r) (hb : base ≤ lo) : -1 ≤ r ∧ r < (hi : Int) - base ∨ r = -1 := by
  rcases h with ⟨rfl, _⟩ | ⟨a, _, rfl, h1, h2, _⟩
  · exact .inr rfl
  · exact .inl ⟨by omega, by omega⟩

/-! ### Two sets at one node -/
def EqAt (S S' : List Nat) (l p : Nat) : Prop := ∀ a, a / 64 ^ (l + 1) = p → (a ∈ S ↔ a ∈ S')
theorem eqAt_word {S S' : List Nat} {l p : Nat} (h : EqAt S S' l p) : wordOf S (l, p) = wordOf S' (l, p) := by
  refine word_ext (wordOf_lt _ _) (wordOf_lt _ _) fun d hd => ?_
  rw [Bool.eq_iff_iff, bit_wordOf _ _ _ _ hd, bit_wordOf _ _ _ _ hd]
  have e : ∀ i, i / 64 ^ l = 64 * p + d → (i ∈ S ↔ i ∈ S') := fun i hi => h i (by rw [div_next]; omega)
  exact ⟨fun ⟨i, h1, h2⟩ => ⟨i, (e i h2).1 h1, h2⟩, fun ⟨i, h1, h2⟩ => ⟨i, (e i h2).2 h1, h2⟩⟩
theorem eqAt_nil {S S' : List Nat} {l p : Nat} (h : wordOf S (l, p) = 0) (h' : wordOf S' (l, p) = 0) : EqAt S S' l p := fun a ha =>
  ⟨fun h1 => absurd h (wordOf_ne.2 ⟨a, h1, ha⟩), fun h1 => absurd h' (wordOf_ne.2 ⟨a, h1, ha⟩)⟩
theorem eqAt_zero {S S' : List Nat} {p : Nat} (h : wordOf S (0, p) = wordOf S' (0, p)) : EqAt S S' 0 p := fun a ha => by
  have e : ∀ S : List Nat, a ∈ S ↔ (wordOf S (0, p)).testBit (a % 64) = true := fun S => by
    rw [bit_wordOf _ _ _ _ (Nat.mod_lt _ (by decide))]
    have e2 : 64 * p + a % 64 = a := by omega
    rw [e2]
    simp
  rw [e S, e S', h]
theorem eqAt_kids {S S' : List Nat} {l p : Nat} : EqAt S S' (l + 1) p ↔ ∀ d, d < 64 → EqAt S S' l (64 * p + d) := by
  constructor
  · exact fun h d hd a ha => h a (by rw [div_next, ha]; omega)
  · intro h a ha
    rw [div_next] at ha
    exact h (a / 64 ^ (l + 1) % 64) (Nat.mod_lt _ (by decide)) a (by omega)
theorem eqAt_all {S S' : List Nat} (hS : S.Pairwise (· < ·)) (hS' : S'.Pairwise (· < ·)) (hs : ∀ a ∈ S, a < 16777216) (hs' : ∀ a ∈ S', a < 16777216) : EqAt S S' 3 0 ↔ S = S' := by
  constructor
  · intro h
    refine sorted_ext hS hS' fun a => ?_
    by_cases ha : a < 16777216
    · exact h a (by omega)
    · exact ⟨fun h1 => absurd (hs a h1) ha, fun h1 => absurd (hs' a h1) ha⟩
  · rintro rfl a _
    exact Iff.rfl
end Go.Proofs.Ytkcbjkadalebjaa
