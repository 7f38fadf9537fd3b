/-
  Going over, plain law: the least number from one on, the numbers of a part; what may be there above. No function of the program stands here.
-/
import Derived.Test.YtpnjoeiohigjmaaDoorJF
set_option maxRecDepth 100000
namespace Go.Proofs.YtpnjoeiohigjmaaDoor
open Go Go.RowKit

/-! ### The least from one on -/
def Nx (p : Nat → Bool) (lo hi : Nat) (r : Int) : Prop := (r = -1 ∧ ∀ i, lo ≤ i → i < hi → p i = false) ∨ ∃ k : Nat, r = k ∧ lo ≤ k ∧ k < hi ∧ p k = true ∧ ∀ i, lo ≤ i → i < k → p i = false
def nxt (p : Nat → Bool) (lo hi : Nat) : Int := match (List.range' lo (hi - lo)).find? p with
  | some k => k
  | none => -1
def sel (p : Nat → Bool) (a b : Nat) : List Nat := List.filter p (List.range' a (b - a))
theorem Nx.uniq {p : Nat → Bool} {lo hi : Nat} {r s : Int} (h : Nx p lo hi r) (k : Nx p lo hi s) : r = s := by
  rcases h with ⟨rfl, h1⟩ | ⟨a, rfl, h1, h2, h3, h4⟩ <;> rcases k with ⟨rfl, k1⟩ | ⟨b, rfl, k1, k2, k3, k4⟩
  · rfl
  · rw [h1 b k1 k2] at k3; cases k3
  · rw [k1 a h1 h2] at h3; cases h3
  · rcases Nat.lt_trichotomy a b with h | h | h
    · rw [k4 a h1 h] at h3; cases h3
    · rw [h]
    · rw [h4 b k1 h] at k3; cases k3
theorem nxt_nx (p : Nat → Bool) (lo hi : Nat) : Nx p lo hi (nxt p lo hi) := by
  unfold nxt
  cases h : (List.range' lo (hi - lo)).find? p with
  | none =>
    refine .inl ⟨rfl, fun i h1 h2 => ?_⟩
    rw [List.find?_eq_none] at h
    have := h i (List.mem_range'_1.2 ⟨h1, by omega⟩)
    simpa using this
  | some k =>
    rw [List.find?_eq_some_iff_append] at h
    obtain ⟨h1, us, bs, h2, h3⟩ := h
    have hk : k ∈ List.range' lo (hi - lo) := by rw [h2]; simp
    obtain ⟨h4, h5⟩ := List.mem_range'_1.1 hk
    refine .inr ⟨k, rfl, h4, by omega, h1, fun i hi1 hi2 => ?_⟩
    have hi : i ∈ us ++ k :: bs := by rw [← h2]; exact List.mem_range'_1.2 ⟨hi1, by omega⟩
    rcases List.mem_append.1 hi with hi | hi
    · simpa using h3 i hi
    · exfalso
      have hs : (us ++ k :: bs).Pairwise (· < ·) := by rw [← h2]; exact List.pairwise_lt_range' 1 (by decide)
      rw [List.pairwise_append, List.pairwise_cons] at hs
      rcases List.mem_cons.1 hi with rfl | hi
      · omega
      · have := hs.2.1.1 i hi; omega
theorem Nx.eq {p : Nat → Bool} {lo hi : Nat} {r : Int} (h : Nx p lo hi r) : r = nxt p lo hi := h.uniq (nxt_nx p lo hi)
theorem nxt_ge (p : Nat → Bool) (lo hi : Nat) : -1 ≤ nxt p lo hi ∧ nxt p lo hi < hi ∨ nxt p lo hi = -1 := by
  rcases nxt_nx p lo hi with ⟨h, _⟩ | ⟨k, h, _, h2, _⟩
  · exact .inr h
  · left; rw [h]; omega
/-- Nothing stands between. -/
theorem Nx.down {p : Nat → Bool} {lo lo' hi : Nat} {r : Int} (h : Nx p lo' hi r) (hl : lo ≤ lo') (hn : ∀ i, lo ≤ i → i < lo' → p i = false) : Nx p lo hi r := by
  rcases h with ⟨rfl, h1⟩ | ⟨k, rfl, h1, h2, h3, h4⟩
  · refine .inl ⟨rfl, fun i a b => ?_⟩
    by_cases h : i < lo'
    · exact hn i a h
    · exact h1 i (by omega) b
  · refine .inr ⟨k, rfl, by omega, h2, h3, fun i a b => ?_⟩
    by_cases h : i < lo'
    · exact hn i a h
    · exact h4 i (by omega) b
theorem nxt_min (p : Nat → Bool) (lo hi : Nat) : nxt p (min lo hi) hi = nxt p lo hi := by
  by_cases h : lo ≤ hi
  · rw [Nat.min_eq_left h]
  · rw [Nat.min_eq_right (by omega)]
    refine Nx.uniq (lo := lo) (hi := hi) (p := p) ?_ (nxt_nx p lo hi)
    rcases nxt_nx p hi hi with ⟨h1, _⟩ | ⟨k, _, h1, h2, _⟩
    · exact .inl ⟨h1, fun i a b => by omega⟩
    · omega

/-! ### The numbers of a part -/
theorem mem_sel {p : Nat → Bool} {a b i : Nat} : i ∈ sel p a b ↔ a ≤ i ∧ i < b ∧ p i = true := by
  unfold sel
  rw [List.mem_filter, List.mem_range'_1]
  constructor
  · rintro ⟨⟨h1, h2⟩, h3⟩; exact ⟨h1, by omega, h3⟩
  · rintro ⟨h1, h2, h3⟩; exact ⟨⟨h1, by omega⟩, h3⟩
theorem sel_sorted (p : Nat → Bool) (a b : Nat) : (sel p a b).Pairwise (· < ·) := List.Pairwise.filter _ (List.pairwise_lt_range' 1 (by decide))
theorem sel_cut (p : Nat → Bool) {a c b : Nat} (h1 : a ≤ c) (h2 : c ≤ b) : sel p a b = sel p a c ++ sel p c b := by
  unfold sel
  rw [← List.filter_append]
  congr 1
  have := List.range'_append (s := a) (m := c - a) (n := b - c) (step := 1)
  rw [Nat.one_mul, show a + (c - a) = c by omega] at this
  rw [this, show (c - a) + (b - c) = b - a by omega]
theorem sel_none {p : Nat → Bool} {a b : Nat} (h : ∀ i, a ≤ i → i < b → p i = false) : sel p a b = [] := by
  refine List.filter_eq_nil_iff.2 fun i hi => ?_
  have := List.mem_range'_1.1 hi
  rw [h i this.1 (by omega)]
  simp
theorem sel_all {p : Nat → Bool} {a b : Nat} (h : ∀ i, a ≤ i → i < b → p i = true) : (sel p a b).length = b - a := by
  unfold sel
  rw [List.filter_eq_self.2 fun i hi => by have := List.mem_range'_1.1 hi; exact h i this.1 (by omega)]
  simp
theorem sel_empty {p : Nat → Bool} {a b : Nat} (h : b ≤ a) : sel p a b = [] := sel_none fun i _ _ => by omega
theorem sel_one {p : Nat → Bool} {a : Nat} : sel p a (a + 1) = if p a then [a] else [] := by
  unfold sel
  rw [show a + 1 - a = 1 by omega]
  show List.filter p [a] = _
  cases h : p a <;> simp [h]
/-- .. up to and with the next one. -/
theorem sel_next {p : Nat → Bool} {lo c hi k : Nat} (h1 : lo ≤ c) (h : Nx p c hi (k : Int)) : sel p lo (k + 1) = sel p lo c ++ [k] := by
  rcases h with ⟨h, _⟩ | ⟨k', h, h2, h3, h4, h5⟩
  · omega
  · have : k' = k := by omega
    subst this
    rw [sel_cut p (show lo ≤ k' by omega) (Nat.le_succ k'), sel_cut p h1 h2, sel_none h5, List.append_nil, sel_one, if_pos h4]
theorem sel_done {p : Nat → Bool} {lo c hi : Nat} {r : Int} (h1 : lo ≤ c) (h2 : c ≤ hi) (h : Nx p c hi r) (hr : r < 0) : sel p lo hi = sel p lo c := by
  rcases h with ⟨_, h3⟩ | ⟨k', h, _⟩
  · rw [sel_cut p h1 h2, sel_none h3, List.append_nil]
  · omega
theorem sel_lo {p : Nat → Bool} {lo hi : Nat} : sel p (min lo hi) hi = sel p lo hi := by
  by_cases h : lo ≤ hi
  · rw [Nat.min_eq_left h]
  · rw [Nat.min_eq_right (by omega), sel_empty (Nat.le_refl _), sel_empty (by omega)]
theorem sel_congr {p q : Nat → Bool} {a b : Nat} (h : ∀ i, a ≤ i → i < b → p i = q i) : sel p a b = sel q a b := by
  unfold sel
  refine List.filter_congr fun i hi => ?_
  have := List.mem_range'_1.1 hi
  exact h i this.1 (by omega)
theorem sel_len_le (p : Nat → Bool) (a b : Nat) : (sel p a b).length ≤ b - a := by
  unfold sel
  exact Nat.le_trans (List.length_filter_le _ _) (by simp)
/-- A rising row is a part's numbers. -/
theorem sel_eq {p : Nat → Bool} {a b : Nat} {l : List Nat} (hs : l.Pairwise (· < ·)) (h : ∀ i, i ∈ l ↔ a ≤ i ∧ i < b ∧ p i = true) : l = sel p a b :=
  sorted_ext hs (sel_sorted p a b) fun i => by rw [h i, mem_sel]
/-- The first few of a part. -/
def lst (p : Nat → Bool) (lo hi m : Nat) : List Nat := (sel p lo hi).take m
theorem lst_full {p : Nat → Bool} {lo c hi m : Nat} (h1 : lo ≤ c) (h2 : c ≤ hi) (h : (sel p lo c).length = m) : lst p lo hi m = sel p lo c := by
  unfold lst
  rw [sel_cut p h1 h2, ← h, List.take_left']
  rfl
theorem lst_all {p : Nat → Bool} {lo hi m : Nat} (h : (sel p lo hi).length ≤ m) : lst p lo hi m = sel p lo hi := List.take_of_length_le h

/-! ### Words -/
/-- A word's numbers from one on, in the part that it tells. -/
def inW (x : Nat) (at_ : Nat) : Nat → Bool := fun i => x.testBit (i - 64 * at_)
theorem filter_shift (x at_ : Nat) : ∀ (n s : Nat), ((List.range' s n).filter fun d => x.testBit d).map (fun d => 64 * at_ + d) = (List.range' (64 * at_ + s) n).filter (inW x at_)
  | 0, _ => rfl
  | n + 1, s => by
    rw [List.range'_succ, List.range'_succ, List.filter_cons, List.filter_cons]
    have e : inW x at_ (64 * at_ + s) = x.testBit s := by unfold inW; rw [show 64 * at_ + s - 64 * at_ = s by omega]
    have ih := filter_shift x at_ n (s + 1)
    rw [show 64 * at_ + (s + 1) = 64 * at_ + s + 1 by omega] at ih
    rw [e, ← ih]
    split <;> rfl
theorem cnt_bits (x at_ a b : Nat) (h : a ≤ b) : (sel (inW x at_) (64 * at_ + a) (64 * at_ + b)).length = (sel (fun d => x.testBit d) a b).length := by
  unfold sel
  rw [show 64 * at_ + b - (64 * at_ + a) = b - a by omega, ← filter_shift x at_ (b - a) a, List.length_map]
theorem cntW_sel (x : Nat) : cntW x = (sel (fun d => x.testBit d) 0 64).length := by
  unfold cntW listW sel
  rw [List.range_eq_range']

/-! ### What may be there -/
def mayW (l : List NodeE) (Ss : Nat → List Nat) (n : Nat) (level at_ : Int) : Nat := (maysE (decide (0 < level)) (fun k => wordS (Ss k) level at_) l).getD n 0
theorem mayW_lt (l : List NodeE) (Ss : Nat → List Nat) (n : Nat) (level at_ : Int) : mayW l Ss n level at_ < 2 ^ 64 := mays_lt (fun _ => wordS_lt _ _ _) l n
def inPl (level at_ : Int) : Prop := 0 ≤ level ∧ level < 4 ∧ 0 ≤ at_ ∧ at_ < 64 ^ (3 - level.toNat)
instance (level at_ : Int) : Decidable (inPl level at_) := by unfold inPl; exact inferInstance
def scW (l : List NodeE) (Ss : Nat → List Nat) (n : Nat) (level at_ : Int) : Nat := if inPl level at_ then mayW l Ss n level at_ else 0
theorem scW_lt (l : List NodeE) (Ss : Nat → List Nat) (n : Nat) (level at_ : Int) : scW l Ss n level at_ < 2 ^ 64 := by
  unfold scW
  split
  · exact mayW_lt _ _ _ _ _
  · decide
theorem joinB_all : ∀ (l : List Bool) (b : Bool), l.foldl (fun w v => if (2 : Nat) = 2 then w && v else if (2 : Nat) = 3 then w || v else w ^^ v) b = (b && l.all id)
  | [], b => by simp
  | a :: l, b => by rw [List.foldl_cons, joinB_all l]; simp [Bool.and_assoc]
theorem joinB_any : ∀ (l : List Bool) (b : Bool), l.foldl (fun w v => if (3 : Nat) = 2 then w && v else if (3 : Nat) = 3 then w || v else w ^^ v) b = (b || l.any id)
  | [], b => by simp
  | a :: l, b => by rw [List.foldl_cons, joinB_any l]; simp [Bool.or_assoc]
theorem joinB_odd : ∀ (l : List Bool) (b : Bool), l.foldl (fun w v => if (4 : Nat) = 2 then w && v else if (4 : Nat) = 3 then w || v else w ^^ v) b = true → (b || l.any id) = true
  | [], b, h => by simpa using h
  | a :: l, b, h => by
    rw [List.foldl_cons] at h
    have := joinB_odd l _ h
    simp at this ⊢
    cases a <;> cases b <;> simp_all
theorem joinB2 (l : List Bool) : joinB 2 l = l.all id := by
  have := joinB_all l true
  simpa [joinB] using this
theorem joinB3 (l : List Bool) : joinB 3 l = l.any id := by
  have := joinB_any l false
  simpa [joinB] using this
theorem joinB4 {l : List Bool} (h : joinB 4 l = true) : l.any id = true := by
  have := joinB_odd l false (by simpa [joinB] using h)
  simpa using this
theorem mayW_tell {l : List NodeE} {Ss : Nat → List Nat} {n i : Nat} (hn : n < l.length) (hi : i < 16777216) : (mayW l Ss n 0 ((i / 64 : Nat) : Int)).testBit (i % 64) = exTell l Ss n i := by
  have h := exTell_in (Ss := Ss) hn hi
  have hd : i % 64 < 64 := Nat.mod_lt _ (by decide)
  rw [← h]
  unfold hasW mayW
  have e0 : decide ((0 : Int) < 0) = false := by decide
  have e1 : decide (0 ≤ ((i % 64 : Nat) : Int)) = true := decide_eq_true (by omega)
  have e2 : decide (((i % 64 : Nat) : Int) < 64) = true := decide_eq_true (by omega)
  rw [e0, e1, e2, Int.toNat_natCast]
  rfl
theorem mayW_tell2 {l : List NodeE} {Ss : Nat → List Nat} {n at_ d : Nat} (hn : n < l.length) (ha : at_ < 262144) (hd : d < 64) : (mayW l Ss n 0 (at_ : Nat)).testBit d = exTell l Ss n ((64 * at_ + d : Nat) : Int) := by
  have h := mayW_tell (Ss := Ss) (n := n) hn (show 64 * at_ + d < 16777216 by omega)
  rw [show (64 * at_ + d) / 64 = at_ by omega, show (64 * at_ + d) % 64 = d by omega] at h
  exact h
theorem pw_cast {at_ L : Nat} : ((at_ : Nat) : Int) < 64 ^ (3 - L) ↔ at_ < 64 ^ (3 - L) := by
  rw [show (64 : Int) ^ (3 - L) = ((64 ^ (3 - L) : Nat) : Int) by simp]
  exact Int.ofNat_lt
theorem wordS_bit {S : List Nat} {L p d : Nat} (hL : L < 4) (hp : p < 64 ^ (3 - L)) (hd : d < 64) : (wordS S L p).testBit d = true ↔ ∃ i ∈ S, i / 64 ^ L = 64 * p + d := by
  unfold wordS
  rw [if_pos ⟨by omega, by omega, by omega, by rw [Int.toNat_natCast]; exact pw_cast.2 hp⟩, Int.toNat_natCast, Int.toNat_natCast]
  exact bit_wordOf S L p d hd
theorem wordS_bit0 {S : List Nat} {p d : Nat} (hp : p < 262144) (hd : d < 64) : (wordS S 0 p).testBit d = true ↔ ∃ i ∈ S, i = 64 * p + d := by
  have h := wordS_bit (S := S) (L := 0) (p := p) (d := d) (by decide) (Nat.lt_of_lt_of_eq hp (by decide)) hd
  simp only [Nat.pow_zero, Nat.div_one] at h
  exact h
theorem plc_lt {i L : Nat} (hi : i < 16777216) (hL : L < 4) : i / 64 ^ (L + 1) < 64 ^ (3 - L) := by
  rcases (show L = 0 ∨ L = 1 ∨ L = 2 ∨ L = 3 by omega) with rfl | rfl | rfl | rfl <;> simp <;> omega
/-- Where something is, it may be. -/
theorem mayW_over {l : List NodeE} {m : Nat} (hok : ArOk l m) {Ss : Nat → List Nat} {i L : Nat} (hi : i < 16777216) (hL : L < 4) (hL0 : 0 < L) : ∀ n, n < l.length →
    (mayW l Ss n 0 ((i / 64 : Nat) : Int)).testBit (i % 64) = true → (mayW l Ss n L ((i / 64 ^ (L + 1) : Nat) : Int)).testBit (i / 64 ^ L % 64) = true := by
  have hd : i % 64 < 64 := Nat.mod_lt _ (by decide)
  have hd2 : i / 64 ^ L % 64 < 64 := Nat.mod_lt _ (by decide)
  have e0 : decide ((0 : Int) < 0) = false := by decide
  have e1 : decide ((0 : Int) < (L : Nat)) = true := by simpa using hL0
  intro n
  induction n using Nat.strongRecOn with
  | ind n ih =>
    intro hn h
    obtain ⟨x, hx⟩ : ∃ x, l[n]? = some x := ⟨_, List.getElem?_eq_getElem hn⟩
    obtain ⟨k1, k2, _⟩ := hok.kind n x hx
    unfold mayW at h ih ⊢
    rw [e0] at h ih
    rw [e1] at ih ⊢
    have A : ∀ (lv : Bool) (sw : Nat → Nat), (maysE lv sw l).getD n 0 = mayF lv sw x fun y => (maysE lv sw l).getD y 0 := fun lv sw => mays_at hok hx fun _ _ _ => rfl
    rw [A] at h
    rw [A]
    unfold mayF at h ⊢
    by_cases h1 : x.k = 1
    · rw [if_pos h1] at h ⊢
      obtain ⟨j, hj, h2⟩ := (wordS_bit0 (S := Ss (x.kids.headD 0)) (p := i / 64) (d := i % 64) (by omega) hd).1 h
      refine (wordS_bit hL (plc_lt hi hL) hd2).2 ⟨j, hj, ?_⟩
      have : j = i := by omega
      subst this
      rw [Nat.pow_succ, ← Nat.div_div_eq_div_mul]
      omega
    · rw [if_neg h1] at h ⊢
      by_cases h5 : x.k = 5
      · rw [if_pos h5, if_pos rfl]
        exact full_bit hd2
      · rw [if_neg h5] at h ⊢
        rw [joinW_bit hd] at h
        rw [joinW_bit hd2]
        simp only [List.map_map] at h ⊢
        have key : ∀ y ∈ x.kids, ((maysE false (fun s => wordS (Ss s) 0 ((i / 64 : Nat) : Int)) l).getD y 0).testBit (i % 64) = true → ((maysE true (fun s => wordS (Ss s) L ((i / 64 ^ (L + 1) : Nat) : Int)) l).getD y 0).testBit (i / 64 ^ L % 64) = true := fun y hy => by
          have hlow := hok.low n x hx h1 y hy
          exact ih y hlow (by omega)
        have anyk : (x.kids.map ((fun v => v.testBit (i % 64)) ∘ fun i_1 => (maysE false (fun s => wordS (Ss s) 0 ((i / 64 : Nat) : Int)) l).getD i_1 0)).any id = true →
            (x.kids.map ((fun v => v.testBit (i / 64 ^ L % 64)) ∘ fun i_1 => (maysE true (fun s => wordS (Ss s) L ((i / 64 ^ (L + 1) : Nat) : Int)) l).getD i_1 0)).any id = true := fun h => by
          rw [List.any_eq_true] at h ⊢
          obtain ⟨b, hb, h⟩ := h
          obtain ⟨y, hy, rfl⟩ := List.mem_map.1 hb
          exact ⟨_, List.mem_map.2 ⟨y, hy, rfl⟩, key y hy h⟩
        rcases (show x.k = 2 ∨ x.k = 3 ∨ x.k = 4 by omega) with e | e | e
        · rw [e] at h ⊢
          rw [show mayK false 2 = 2 from rfl, joinB2, List.all_eq_true] at h
          rw [show mayK true 2 = 2 from rfl, joinB2, List.all_eq_true]
          intro b hb
          obtain ⟨y, hy, rfl⟩ := List.mem_map.1 hb
          exact key y hy (h _ (List.mem_map.2 ⟨y, hy, rfl⟩))
        · rw [e] at h ⊢
          rw [show mayK false 3 = 3 from rfl, joinB3] at h
          rw [show mayK true 3 = 3 from rfl, joinB3]
          exact anyk h
        · rw [e] at h ⊢
          rw [show mayK false 4 = 4 from rfl] at h
          rw [show mayK true 4 = 3 from rfl, joinB3]
          exact anyk (joinB4 h)
/-- .. at a digit where nothing may be nothing is. -/
theorem mayW_none {l : List NodeE} {m : Nat} (hok : ArOk l m) {Ss : Nat → List Nat} {n L p d : Nat} (hn : n < l.length) (hL : L < 4) (hp : p < 64 ^ (3 - L)) (hd : d < 64) (h : (mayW l Ss n L (p : Nat)).testBit d = false) {i : Nat} (hi : i / 64 ^ L = 64 * p + d) : exTell l Ss n i = false := by
  have hi24 : i < 16777216 := by
    rcases (show L = 0 ∨ L = 1 ∨ L = 2 ∨ L = 3 by omega) with rfl | rfl | rfl | rfl <;> simp at hi hp <;> omega
  cases ht : exTell l Ss n i with
  | false => rfl
  | true =>
    rw [← mayW_tell hn hi24] at ht
    have e1 : i / 64 ^ (L + 1) = p := by rw [Nat.pow_succ, ← Nat.div_div_eq_div_mul, hi]; omega
    have e2 : i / 64 ^ L % 64 = d := by rw [hi]; omega
    by_cases hL0 : L = 0
    · subst hL0
      rw [Nat.pow_zero, Nat.div_one] at hi
      rw [show i / 64 = p by omega, show i % 64 = d by omega] at ht
      rw [show ((0 : Nat) : Int) = 0 from rfl] at h
      rw [h] at ht; cases ht
    · have := mayW_over hok hi24 hL (by omega) n hn ht
      rw [e1, e2, h] at this
      cases this
end Go.Proofs.YtpnjoeiohigjmaaDoor
