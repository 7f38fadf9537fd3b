/-
  Words of sixty-four as numbers below 2^64: which bits, the least from one on, the greatest, how many. No program stands here.
-/
import Derived.Laws.MathBits
import Derived.Laws.BitsAllLaws
import Derived.Lib.TrailingZeros
namespace Go.Proofs.Ytkcbjkadalebjaa
open Go

def W64 : Nat := 18446744073709551616
theorem W64_eq : W64 = 2 ^ 64 := by decide
/-- A number's bit. -/
def oneW (i : Int) : Nat := if 0 ≤ i ∧ i < 64 then 2 ^ i.toNat else 0
def allW (l : List Int) : Nat := l.foldl (fun w i => w ||| oneW i) 0
/-- Has a word a number? -/
def hasW (x : Nat) (i : Int) : Bool := decide (0 ≤ i) && decide (i < 64) && x.testBit i.toNat
/-- x without y. -/
def subW (x y : Nat) : Nat := x &&& (18446744073709551615 - y)
def listW (x : Nat) : List Nat := (List.range 64).filter fun i => x.testBit i
def cntW (x : Nat) : Nat := (listW x).length
/-- The least number from one on; -1: none. -/
def firstW (x : Nat) (from_ : Int) : Int := match (listW x).find? (fun i : Nat => decide (from_ ≤ (i : Int))) with
  | some i => i
  | none => -1
def lastW (x : Nat) : Int := match (listW x).getLast? with
  | some i => i
  | none => -1

theorem oneW_lt (i : Int) : oneW i < 2 ^ 64 := by
  unfold oneW
  split
  · exact Nat.pow_lt_pow_right (by decide) (by omega)
  · decide
theorem testBit_oneW (i : Int) (k : Nat) : (oneW i).testBit k = (decide (i = k) && decide (k < 64)) := by
  unfold oneW
  split
  · rw [Nat.testBit_two_pow]
    by_cases h : i = k
    · subst h; simp; omega
    · have : ¬ i.toNat = k := by omega
      simp [h, this]
  · by_cases h : i = k
    · have : ¬ k < 64 := by omega
      simp [this]
    · simp [h]
theorem foldl_or (l : List Int) : ∀ s, l.foldl (fun w i => w ||| oneW i) s = s ||| allW l := by
  unfold allW
  induction l with
  | nil => intro s; simp
  | cons x l ih => intro s; simp only [List.foldl_cons]; rw [ih, ih (0 ||| oneW x)]; simp [Nat.or_assoc]
theorem allW_cons (x : Int) (l : List Int) : allW (x :: l) = oneW x ||| allW l := by
  show l.foldl (fun w i => w ||| oneW i) (0 ||| oneW x) = _
  rw [foldl_or]; simp
theorem allW_append (l m : List Int) : allW (l ++ m) = allW l ||| allW m := by
  unfold allW; rw [List.foldl_append, foldl_or m]; rfl
theorem allW_snoc (l : List Int) (x : Int) : allW (l ++ [x]) = allW l ||| oneW x := by rw [allW_append]; simp [allW]
theorem allW_lt (l : List Int) : allW l < 2 ^ 64 := by
  induction l with
  | nil => simp [allW]
  | cons x l ih => rw [allW_cons]; exact Nat.or_lt_two_pow (oneW_lt x) ih
theorem testBit_allW (l : List Int) (k : Nat) : (allW l).testBit k = (decide ((k : Int) ∈ l) && decide (k < 64)) := by
  induction l with
  | nil => simp [allW]
  | cons x l ih =>
    rw [allW_cons, Nat.testBit_or, ih, testBit_oneW]
    by_cases h : k < 64 <;> simp [h, eq_comm]
theorem testBit_hi {x k : Nat} (hx : x < 2 ^ 64) (hk : 64 ≤ k) : x.testBit k = false := Nat.testBit_lt_two_pow (Nat.lt_of_lt_of_le hx (Nat.pow_le_pow_right (by decide) hk))
theorem subW_lt (x y : Nat) (hx : x < 2 ^ 64) : subW x y < 2 ^ 64 := Nat.lt_of_le_of_lt Nat.and_le_left hx
theorem testBit_subW {x y : Nat} (hx : x < 2 ^ 64) (hy : y < 2 ^ 64) (k : Nat) : (subW x y).testBit k = (x.testBit k && !y.testBit k) := by
  unfold subW
  rw [Nat.testBit_and]
  by_cases hk : k < 64
  · have h : (18446744073709551615 - y).testBit k = !y.testBit k := by
      have e : 18446744073709551615 - y = 2 ^ 64 - (y + 1) := by omega
      rw [e, Nat.testBit_two_pow_sub_succ hy]
      simp [hk]
    rw [h]
  · rw [testBit_hi hx (by omega)]; simp
theorem word_ext {x y : Nat} (hx : x < 2 ^ 64) (hy : y < 2 ^ 64) (h : ∀ k, k < 64 → x.testBit k = y.testBit k) : x = y :=
  Nat.eq_of_testBit_eq fun k => by
    by_cases hk : k < 64
    · exact h k hk
    · rw [testBit_hi hx (by omega), testBit_hi hy (by omega)]
theorem hasW_and (x : Nat) (i : Int) : decide (x &&& oneW i ≠ 0) = hasW x i := by
  unfold hasW
  by_cases h : 0 ≤ i ∧ i < 64
  · have e : oneW i = 2 ^ i.toNat := by unfold oneW; rw [if_pos h]
    have hp : (2 : Nat) ^ i.toNat ≠ 0 := by simp
    rw [e, nat_bit, Nat.testBit_eq_decide_div_mod_eq]
    have hd := Nat.mod_two_eq_zero_or_one (x / 2 ^ i.toNat)
    rcases hd with hd | hd <;> simp [h.1, h.2, hd]
  · have e : oneW i = 0 := by unfold oneW; rw [if_neg h]
    rw [e]
    by_cases h0 : 0 ≤ i
    · have : ¬ i < 64 := by omega
      simp [this]
    · simp [h0]
theorem mem_listW {x i : Nat} : i ∈ listW x ↔ i < 64 ∧ x.testBit i = true := by simp [listW]
theorem listW_sorted (x : Nat) : (listW x).Pairwise (· < ·) := List.Pairwise.filter _ List.pairwise_lt_range

/-! ### The least, the greatest -/
theorem find_first {l : List Nat} {p : Nat → Bool} {i : Nat} (hl : l.Pairwise (· < ·)) (hi : i ∈ l) (hp : p i = true) (hmin : ∀ j ∈ l, j < i → p j = false) : l.find? p = some i := by
  induction l with
  | nil => cases hi
  | cons a l ih =>
    rw [List.pairwise_cons] at hl
    rcases List.mem_cons.1 hi with rfl | hi'
    · simp [hp]
    · have ha := hl.1 i hi'
      rw [List.find?_cons, hmin a (by simp) ha]
      exact ih hl.2 hi' (fun j hj => hmin j (by simp [hj]))
theorem firstW_some {x i : Nat} {f : Int} (h1 : f ≤ i) (h2 : i < 64) (h3 : x.testBit i = true) (h4 : ∀ j : Nat, f ≤ j → j < i → x.testBit j = false) : firstW x f = i := by
  have := find_first (p := fun i : Nat => decide (f ≤ (i : Int))) (listW_sorted x) (mem_listW.2 ⟨h2, h3⟩) (by simpa using h1) (fun j hj hlt => by
    by_cases hf : f ≤ (j : Int)
    · have := h4 j hf hlt
      rw [(mem_listW.1 hj).2] at this; cases this
    · simpa using hf)
  unfold firstW
  rw [this]
theorem firstW_none {x : Nat} {f : Int} (h : ∀ j : Nat, f ≤ j → j < 64 → x.testBit j = false) : firstW x f = -1 := by
  have : (listW x).find? (fun i : Nat => decide (f ≤ (i : Int))) = none := by
    rw [List.find?_eq_none]
    intro j hj
    have := mem_listW.1 hj
    simp
    apply Int.not_le.1
    intro hf
    rw [h j hf this.1] at this
    cases this.2
  unfold firstW
  rw [this]
theorem firstW_cases (x : Nat) (f : Int) : (firstW x f = -1 ∧ ∀ j : Nat, f ≤ j → j < 64 → x.testBit j = false) ∨ ∃ i : Nat, firstW x f = i ∧ f ≤ i ∧ i < 64 ∧ x.testBit i = true ∧ ∀ j : Nat, f ≤ j → j < i → x.testBit j = false := by
  by_cases h : ∃ i : Nat, f ≤ i ∧ i < 64 ∧ x.testBit i = true
  · right
    obtain ⟨i, hi⟩ := h
    have : ∀ n i : Nat, i ≤ n → f ≤ i ∧ i < 64 ∧ x.testBit i = true → ∃ i : Nat, f ≤ i ∧ i < 64 ∧ x.testBit i = true ∧ ∀ j : Nat, f ≤ j → j < i → x.testBit j = false := by
      intro n
      induction n with
      | zero => intro i hn hi; exact ⟨i, hi.1, hi.2.1, hi.2.2, fun j _ hj => by omega⟩
      | succ n ih =>
        intro i hn hi
        by_cases hb : ∃ j : Nat, f ≤ j ∧ j < i ∧ x.testBit j = true
        · obtain ⟨j, h1, h2, h3⟩ := hb
          exact ih j (by omega) ⟨h1, by omega, h3⟩
        · refine ⟨i, hi.1, hi.2.1, hi.2.2, fun j h1 h2 => ?_⟩
          cases hbj : x.testBit j
          · rfl
          · exact absurd ⟨j, h1, h2, hbj⟩ hb
    obtain ⟨i, h1, h2, h3, h4⟩ := this i i (Nat.le_refl _) hi
    exact ⟨i, firstW_some h1 h2 h3 h4, h1, h2, h3, h4⟩
  · left
    have h' : ∀ j : Nat, f ≤ j → j < 64 → x.testBit j = false := fun j h1 h2 => by
      cases hbj : x.testBit j
      · rfl
      · exact absurd ⟨j, h1, h2, hbj⟩ h
    exact ⟨firstW_none h', h'⟩
theorem lastW_some {x i : Nat} (h2 : i < 64) (h3 : x.testBit i = true) (h4 : ∀ j : Nat, i < j → j < 64 → x.testBit j = false) : lastW x = i := by
  have hm : i ∈ listW x := mem_listW.2 ⟨h2, h3⟩
  have : (listW x).getLast? = some i := by
    have hs := listW_sorted x
    have hall : ∀ j ∈ listW x, j ≤ i := fun j hj => by
      have := mem_listW.1 hj
      apply Nat.le_of_not_lt
      intro hlt
      rw [h4 j hlt this.1] at this
      cases this.2
    generalize listW x = l at hm hs hall
    induction l with
    | nil => cases hm
    | cons a l ih =>
      rw [List.pairwise_cons] at hs
      cases l with
      | nil => simp at hm; simp [hm]
      | cons b l =>
        rw [List.getLast?_cons_cons]
        refine ih ?_ hs.2 (fun j hj => hall j (List.mem_cons_of_mem _ hj))
        rcases List.mem_cons.1 hm with rfl | h
        · have h5 := hs.1 b (by simp)
          have h6 := hall b (by simp)
          omega
        · exact h
  unfold lastW
  rw [this]
theorem lastW_none : lastW 0 = -1 := by
  have : listW 0 = [] := by simp [listW]
  unfold lastW
  rw [this]; rfl
theorem lastW_bitLen {x : Nat} (hx : x < 2 ^ 64) : lastW x = (bitLen x : Int) - 1 := by
  by_cases h0 : x = 0
  · subst h0; rw [lastW_none]; decide
  · obtain ⟨h1, h2⟩ := bitLen_spec x
    have h2 := h2 h0
    have hpos : 0 < bitLen x := by
      apply Nat.pos_of_ne_zero
      intro hz
      rw [hz] at h1
      simp at h1
      exact h0 h1
    have hlt : bitLen x - 1 < 64 := by
      have : 2 ^ (bitLen x - 1) < 2 ^ 64 := Nat.lt_of_le_of_lt h2 hx
      exact (Nat.pow_lt_pow_iff_right (by decide)).1 this
    rw [lastW_some (i := bitLen x - 1) hlt ?_ ?_]
    · omega
    · obtain ⟨n, hn⟩ : ∃ n, bitLen x = n + 1 := ⟨bitLen x - 1, by omega⟩
      rw [hn] at h1 h2 ⊢
      simp only [Nat.add_sub_cancel] at h2 ⊢
      rw [Nat.testBit_eq_decide_div_mod_eq]
      have hd : x / 2 ^ n = 1 := by
        rw [Nat.pow_succ] at h1
        apply Nat.div_eq_of_lt_le <;> omega
      rw [hd]; rfl
    · intro j hj _
      exact Nat.testBit_lt_two_pow (Nat.lt_of_lt_of_le h1 (Nat.pow_le_pow_right (by decide) (by omega)))
/-- Trailing zeros of x above a place. -/
theorem ctz_spec {x : Nat} (h0 : x ≠ 0) (hx : x < 2 ^ 64) : Lib.ctz 64 x < 64 ∧ x.testBit (Lib.ctz 64 x) = true ∧ ∀ j, j < Lib.ctz 64 x → x.testBit j = false := by
  unfold Lib.ctz
  rw [if_neg h0]
  obtain ⟨m, h1, h2⟩ := Lib.ctzFrom_spec 64 x (by omega) hx
  refine ⟨h2, ?_, ?_⟩
  · rw [Nat.testBit_eq_decide_div_mod_eq]
    have : x / 2 ^ Lib.ctzFrom 64 x = 2 * m + 1 := by
      have hp : 0 < 2 ^ Lib.ctzFrom 64 x := Nat.pos_of_ne_zero (by simp)
      generalize 2 ^ Lib.ctzFrom 64 x = p at h1 hp
      rw [h1, Nat.mul_div_cancel_left _ hp]
    simp [this]
  · intro j hj
    generalize Lib.ctzFrom 64 x = k at h1 hj
    rw [h1, Nat.testBit_two_pow_mul]
    simp; omega
theorem firstW_shift {x : Nat} {f : Nat} (hx : x < 2 ^ 64) : firstW x f = if x / 2 ^ f = 0 then -1 else ((f + Lib.ctz 64 (x / 2 ^ f) : Nat) : Int) := by
  have hb : ∀ j, (x / 2 ^ f).testBit j = x.testBit (f + j) := fun j => by rw [Nat.testBit_div_two_pow, Nat.add_comm]
  split
  · rename_i h
    refine firstW_none fun j hj hlt => ?_
    have := hb (j - f)
    rw [h, show f + (j - f) = j by omega] at this
    simpa using this.symm
  · rename_i h
    obtain ⟨h1, h2, h3⟩ := ctz_spec h (Nat.lt_of_le_of_lt (Nat.div_le_self _ _) hx)
    rw [hb] at h2
    refine firstW_some (by omega) ?_ h2 fun j hj hlt => ?_
    · apply Nat.lt_of_not_le
      intro hle
      rw [testBit_hi hx hle] at h2
      cases h2
    · have := h3 (j - f) (by omega)
      rw [hb, show f + (j - f) = j by omega] at this
      exact this
theorem firstW_max (x : Nat) (f : Int) : firstW x f = firstW x (max f 0) := by
  unfold firstW
  congr 2
  funext i
  simp only [decide_eq_decide]
  omega

/-! ### How many, by bytes -/
theorem and_split {a m : Nat} (y M : Nat) (ha : a < 2 ^ 8) (hm : m < 2 ^ 8) : (2 ^ 8 * y + a) &&& (2 ^ 8 * M + m) = 2 ^ 8 * (y &&& M) + (a &&& m) := by
  have h : a &&& m < 2 ^ 8 := Nat.lt_of_le_of_lt Nat.and_le_left ha
  apply Nat.eq_of_testBit_eq
  intro i
  rw [Nat.testBit_and, Nat.testBit_two_pow_mul_add _ ha, Nat.testBit_two_pow_mul_add _ hm, Nat.testBit_two_pow_mul_add _ h]
  split
  · rw [Nat.testBit_and]
  · rw [Nat.testBit_and]
def mask (m : Nat) : Nat → Nat
  | 0 => 0
  | n + 1 => 2 ^ 8 * mask m n + m
def swar1 (n x : Nat) : Nat := (x / 2 &&& mask 85 n) + (x &&& mask 85 n)
def swar2 (n x : Nat) : Nat := (x / 4 &&& mask 51 n) + (x &&& mask 51 n)
def swar3 (n x : Nat) : Nat := (x / 16 + x) &&& mask 15 n
def pc8 (a : Nat) : Nat := (List.range 8).countP fun i => a.testBit i
theorem byte1 : ∀ b, b < 128 → (b + 128) &&& 85 = b &&& 85 := by decide
theorem byte2 : ∀ b, b < 64 → ∀ c, c < 4 → (b + 64 * c) &&& 51 = b &&& 51 := by decide +kernel
theorem byte3 : ∀ b, b < 256 → b &&& 15 = b % 16 := by decide +kernel
theorem swar1_step (n y a : Nat) (ha : a < 256) : swar1 (n + 1) (2 ^ 8 * y + a) = 2 ^ 8 * swar1 n y + swar1 1 a := by
  have e : (2 ^ 8 * y + a) / 2 = 2 ^ 8 * (y / 2) + (a / 2 + 128 * (y % 2)) := by omega
  simp only [swar1, show mask 85 (n + 1) = 2 ^ 8 * mask 85 n + 85 from rfl, show mask 85 1 = 85 from rfl]
  rw [e, and_split _ _ (by omega) (by omega), and_split _ _ (by omega) (by omega)]
  have h : (a / 2 + 128 * (y % 2)) &&& 85 = a / 2 &&& 85 := by
    rcases Nat.mod_two_eq_zero_or_one y with h | h
    · rw [h]; rfl
    · rw [h]; exact byte1 _ (by omega)
  rw [h]
  omega
theorem swar2_step (n y a : Nat) (ha : a < 256) : swar2 (n + 1) (2 ^ 8 * y + a) = 2 ^ 8 * swar2 n y + swar2 1 a := by
  have e : (2 ^ 8 * y + a) / 4 = 2 ^ 8 * (y / 4) + (a / 4 + 64 * (y % 4)) := by omega
  simp only [swar2, show mask 51 (n + 1) = 2 ^ 8 * mask 51 n + 51 from rfl, show mask 51 1 = 51 from rfl]
  rw [e, and_split _ _ (by omega) (by omega), and_split _ _ (by omega) (by omega), byte2 _ (by omega) _ (by omega)]
  omega
theorem swar3_step (n y a : Nat) (h1 : a % 16 ≤ 4) (h2 : a / 16 ≤ 4) (h3 : y % 16 ≤ 4) : swar3 (n + 1) (2 ^ 8 * y + a) = 2 ^ 8 * swar3 n y + (a / 16 + a % 16) := by
  have e : (2 ^ 8 * y + a) / 16 + (2 ^ 8 * y + a) = 2 ^ 8 * (y / 16 + y) + (a / 16 + a + 16 * (y % 16)) := by omega
  simp only [swar3, show mask 15 (n + 1) = 2 ^ 8 * mask 15 n + 15 from rfl]
  rw [e, and_split _ _ (by omega) (by omega), byte3 _ (by omega)]
  omega
theorem byte_pc : ∀ a, a < 256 → swar1 1 a < 256 ∧ swar2 1 (swar1 1 a) < 256 ∧ swar2 1 (swar1 1 a) % 16 ≤ 4 ∧ swar2 1 (swar1 1 a) / 16 ≤ 4 ∧ swar2 1 (swar1 1 a) / 16 + swar2 1 (swar1 1 a) % 16 = pc8 a := by decide +kernel
def bytesPc : Nat → Nat → Nat
  | 0, _ => 0
  | n + 1, x => 2 ^ 8 * bytesPc n (x / 256) + pc8 (x % 256)
theorem low4 : ∀ n x, swar2 n (swar1 n x) % 16 ≤ 4
  | 0, x => by simp [swar2, swar1, mask]
  | n + 1, x => by
    have e : x = 2 ^ 8 * (x / 256) + x % 256 := by omega
    have hb := byte_pc (x % 256) (by omega)
    rw [e, swar1_step _ _ _ (by omega), swar2_step _ _ _ hb.1]
    omega
theorem swar_all : ∀ n x, swar3 n (swar2 n (swar1 n x)) = bytesPc n x
  | 0, x => by simp [swar3, mask, bytesPc]
  | n + 1, x => by
    have e : x = 2 ^ 8 * (x / 256) + x % 256 := by omega
    have hb := byte_pc (x % 256) (by omega)
    have h4 := low4 n (x / 256)
    rw [bytesPc, ← swar_all n (x / 256)]
    conv => lhs; rw [e]
    rw [swar1_step _ _ _ (by omega), swar2_step _ _ _ hb.1, swar3_step _ _ _ hb.2.2.1 hb.2.2.2.1 h4, hb.2.2.2.2]
theorem countP_range_add (p : Nat → Bool) (m n : Nat) : (List.range (m + n)).countP p = (List.range m).countP p + (List.range n).countP fun i => p (m + i) := by
  rw [List.range_add, List.countP_append, List.countP_map]
  rfl
def bytesSum : Nat → Nat → Nat
  | 0, _ => 0
  | n + 1, x => pc8 (x % 256) + bytesSum n (x / 256)
theorem bytesSum_eq : ∀ n x, bytesSum n x = (List.range (8 * n)).countP fun i => x.testBit i
  | 0, x => by simp [bytesSum]
  | n + 1, x => by
    rw [bytesSum, bytesSum_eq n, show 8 * (n + 1) = 8 + 8 * n by omega, countP_range_add]
    congr 1
    · unfold pc8
      apply List.countP_congr
      intro i hi
      have hi : i < 8 := by simpa using hi
      rw [show (256 : Nat) = 2 ^ 8 from rfl, Nat.testBit_mod_two_pow]
      simp [hi]
    · apply List.countP_congr
      intro i _
      rw [show (256 : Nat) = 2 ^ 8 from rfl, Nat.testBit_div_two_pow, Nat.add_comm]
theorem cntW_bytes (x : Nat) : cntW x = bytesSum 8 x := by
  rw [bytesSum_eq, cntW, listW, List.countP_eq_length_filter]
theorem pc8_le : ∀ a, a < 256 → pc8 a ≤ 8 := by decide +kernel
theorem fold_lin (c0 c1 c2 c3 c4 c5 c6 c7 : Nat) (h0 : c0 ≤ 8) (h1 : c1 ≤ 8) (h2 : c2 ≤ 8) (h3 : c3 ≤ 8) (h4 : c4 ≤ 8) (h5 : c5 ≤ 8) (h6 : c6 ≤ 8) (h7 : c7 ≤ 8) (X Y Z U : Nat)
    (hX : X = c0 + 256 * c1 + 65536 * c2 + 16777216 * c3 + 4294967296 * c4 + 1099511627776 * c5 + 281474976710656 * c6 + 72057594037927936 * c7) (hY : Y = X + X / 256) (hZ : Z = Y + Y / 65536) (hU : U = Z + Z / 4294967296) :
    X < 1152921504606846976 ∧ Y < 1152921504606846976 ∧ Z < 1152921504606846976 ∧ U < 1152921504606846976 ∧ U % 128 = c0 + c1 + c2 + c3 + c4 + c5 + c6 + c7 := by
  have hx : X ≤ 578721382704613384 := by omega
  have e1 : X / 256 = c1 + 256 * c2 + 65536 * c3 + 16777216 * c4 + 4294967296 * c5 + 1099511627776 * c6 + 281474976710656 * c7 := by omega
  have f1 : Y = (c0 + c1) + 256 * (c1 + c2) + 65536 * (c2 + c3) + 16777216 * (c3 + c4) + 4294967296 * (c4 + c5) + 1099511627776 * (c5 + c6) + 281474976710656 * (c6 + c7) + 72057594037927936 * c7 := by omega
  have hy : Y ≤ 580982013106490400 := by clear e1 f1 hX; omega
  clear hX hY e1
  have e2 : Y / 65536 = (c2 + c3) + 256 * (c3 + c4) + 65536 * (c4 + c5) + 16777216 * (c5 + c6) + 4294967296 * (c6 + c7) + 1099511627776 * c7 := by clear hx hZ; omega
  have f2 : Z = (c0 + c1 + c2 + c3) + 256 * (c1 + c2 + c3 + c4) + 65536 * (c2 + c3 + c4 + c5) + 16777216 * (c3 + c4 + c5 + c6) + 4294967296 * (c4 + c5 + c6 + c7) + 1099511627776 * (c5 + c6 + c7) + 281474976710656 * (c6 + c7) + 72057594037927936 * c7 := by clear hx hy; omega
  have hz : Z ≤ 580990879000000000 := by clear e2 f2 f1; omega
  clear f1 e2 hZ
  have e3 : Z / 4294967296 = (c4 + c5 + c6 + c7) + 256 * (c5 + c6 + c7) + 65536 * (c6 + c7) + 16777216 * c7 := by clear hx hy hz hU; omega
  have hu : U ≤ 580991999000000000 := by clear e3 f2; omega
  have f3 : U % 128 = c0 + c1 + c2 + c3 + c4 + c5 + c6 + c7 := by clear hx hy hz hu; omega
  exact ⟨by clear f3 e3 f2 hU hu hz hy; omega, by clear f3 e3 f2 hU hu hz hx; omega, by clear f3 e3 f2 hU hu hy hx; omega, by clear f3 e3 f2 hU hz hy hx; omega, f3⟩
theorem poly (c0 c1 c2 c3 c4 c5 c6 c7 : Nat) : 2 ^ 8 * (2 ^ 8 * (2 ^ 8 * (2 ^ 8 * (2 ^ 8 * (2 ^ 8 * (2 ^ 8 * (2 ^ 8 * 0 + c7) + c6) + c5) + c4) + c3) + c2) + c1) + c0 = c0 + 256 * c1 + 65536 * c2 + 16777216 * c3 + 4294967296 * c4 + 1099511627776 * c5 + 281474976710656 * c6 + 72057594037927936 * c7 := by omega
theorem fold_bytes (x : Nat) {X Y Z U : Nat} (hX : X = bytesPc 8 x) (hY : Y = X + X / 256) (hZ : Z = Y + Y / 65536) (hU : U = Z + Z / 4294967296) :
    X < 1152921504606846976 ∧ Y < 1152921504606846976 ∧ Z < 1152921504606846976 ∧ U < 1152921504606846976 ∧ U % 128 = cntW x := by
  rw [cntW_bytes]
  have h := fun a => pc8_le (a % 256) (Nat.mod_lt _ (by omega))
  have e := fold_lin _ _ _ _ _ _ _ _ (h x) (h (x / 256)) (h (x / 256 / 256)) (h (x / 256 / 256 / 256)) (h (x / 256 / 256 / 256 / 256)) (h (x / 256 / 256 / 256 / 256 / 256)) (h (x / 256 / 256 / 256 / 256 / 256 / 256)) (h (x / 256 / 256 / 256 / 256 / 256 / 256 / 256)) X Y Z U
    (by rw [hX]; simp only [bytesPc]; exact poly _ _ _ _ _ _ _ _) hY hZ hU
  refine ⟨e.1, e.2.1, e.2.2.1, e.2.2.2.1, ?_⟩
  rw [e.2.2.2.2]
  simp only [bytesSum, Nat.add_assoc, Nat.add_zero]
theorem cntW_le (x : Nat) : cntW x ≤ 64 := by
  unfold cntW listW
  exact Nat.le_trans (List.length_filter_le _ _) (by simp)
/-- The numbers of a word that are below k. -/
def upW (x : Nat) (k : Int) : List Nat := (listW x).filter fun i : Nat => decide ((i : Int) < k)
theorem sorted_filter_snoc {l : List Nat} {k k' : Int} {i : Nat} (hl : l.Pairwise (· < ·)) (hi : i ∈ l) (h1 : k ≤ i) (h2 : k' = i + 1) (h3 : ∀ j ∈ l, k ≤ (j : Int) → i ≤ j) :
    l.filter (fun j : Nat => decide ((j : Int) < k')) = l.filter (fun j : Nat => decide ((j : Int) < k)) ++ [i] := by
  induction l with
  | nil => cases hi
  | cons a l ih =>
    rw [List.pairwise_cons] at hl
    by_cases ha : a = i
    · subst ha
      have e1 : l.filter (fun j : Nat => decide ((j : Int) < k')) = [] := by
        rw [List.filter_eq_nil_iff]
        intro j hj
        have := hl.1 j hj
        simp; omega
      have e2 : l.filter (fun j : Nat => decide ((j : Int) < k)) = [] := by
        rw [List.filter_eq_nil_iff]
        intro j hj
        have := hl.1 j hj
        simp; omega
      have d1 : decide ((a : Int) < k') = true := by simp; omega
      have d2 : decide ((a : Int) < k) = false := by simp; omega
      simp only [List.filter_cons, d1, d2, e1, e2]
      rfl
    · have hi' : i ∈ l := by
        rcases List.mem_cons.1 hi with h | h
        · exact absurd h.symm ha
        · exact h
      have hlt := hl.1 i hi'
      have d1 : decide ((a : Int) < k') = true := by simp; omega
      have d2 : decide ((a : Int) < k) = true := by
        simp
        apply Int.not_le.1
        intro hle
        have := h3 a (by simp) hle
        omega
      simp only [List.filter_cons, d1, d2, if_true]
      rw [ih hl.2 hi' fun j hj => h3 j (by simp [hj])]
      rfl
theorem upW_next {x : Nat} {k : Int} (h : 0 ≤ firstW x k) : upW x (firstW x k + 1) = upW x k ++ [(firstW x k).toNat] := by
  rcases firstW_cases x k with ⟨h1, _⟩ | ⟨i, h1, h2, h3, h4, h5⟩
  · omega
  · rw [h1]
    simp only [Int.toNat_natCast]
    refine sorted_filter_snoc (listW_sorted x) (mem_listW.2 ⟨h3, h4⟩) h2 rfl fun j hj hk => ?_
    apply Nat.le_of_not_lt
    intro hlt
    have := h5 j hk hlt
    rw [(mem_listW.1 hj).2] at this
    cases this
theorem upW_all {x : Nat} {k : Int} (h : firstW x k < 0) : upW x k = listW x := by
  rcases firstW_cases x k with ⟨_, h1⟩ | ⟨i, h1, _⟩
  · unfold upW
    rw [List.filter_eq_self]
    intro j hj
    have := mem_listW.1 hj
    simp
    apply Int.not_le.1
    intro hle
    rw [h1 j hle this.1] at this
    cases this.2
  · omega
theorem upW_zero (x : Nat) : upW x 0 = [] := by
  unfold upW
  rw [List.filter_eq_nil_iff]
  intro j _
  simp
theorem upW_le (x : Nat) (k : Int) : (upW x k).length ≤ 64 := Nat.le_trans (List.length_filter_le _ _) (cntW_le x)
theorem firstW_lt (x : Nat) (k : Int) : firstW x k < 64 ∧ -1 ≤ firstW x k := by
  rcases firstW_cases x k with ⟨h, _⟩ | ⟨i, h1, h2, h3, _⟩ <;> omega
theorem firstW_ge {x : Nat} {k : Int} (h : 0 ≤ firstW x k) : k ≤ firstW x k := by
  rcases firstW_cases x k with ⟨h1, _⟩ | ⟨i, h1, h2, h3, _⟩ <;> omega
def downM (i : Int) : Nat := if i < 0 then 0 else (65 - i).toNat
end Go.Proofs.Ytkcbjkadalebjaa
