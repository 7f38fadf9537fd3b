/-
  XJH: joined of XScLaw XSc XSc2 XSc3 XSc4.
-/
import Derived.Test.YtcnbmfaicbkhcaaGreatDoorJE
import Derived.Test.YtcnbmfaicbkhcaaGreatDoorJC
/-
  Going over, plain law: the least number from one on, the numbers of a part; what may be there above. No function of the program stands here.
-/
set_option maxRecDepth 100000
namespace Go.Proofs.YtcnbmfaicbkhcaaGreatDoor
open Go Go.RowKit

/-! ### The least from one on -/
def Nx (p : Nat → Bool) (lo hi : Nat) (r : Int) : Prop := (r = -1 ∧ ∀ i, lo ≤ i → i < hi → p i = false) ∨ ∃ k : Nat, r = k ∧ lo ≤ k ∧ k < hi ∧ p k = true ∧ ∀ i, lo ≤ i → i < k → p i = false
def nxt (p : Nat → Bool) (lo hi : Nat) : Int := match (List.range' lo (hi - lo)).find? p with
  | some k => k
  | none => -1
def sel (p : Nat → Bool) (a b : Nat) : List Nat := List.filter p (List.range' a (b - a))
theorem Nx.uniq {p : Nat → Bool} {lo hi : Nat} {r s : Int} (h : Nx p lo hi r) (k : Nx p lo hi s) : r = s := by
  rcases h with ⟨rfl, h1⟩ | ⟨a, rfl, h1, h2, h3, h4⟩ <;> rcases k with ⟨rfl, k1⟩ | ⟨b, rfl, k1, k2, k3, k4⟩
  · rfl
  · rw [h1 b k1 k2] at k3; cases k3
  · rw [k1 a h1 h2] at h3; cases h3
  · rcases Nat.lt_trichotomy a b with h | h | h
    · rw [k4 a h1 h] at h3; cases h3
    · rw [h]
    · rw [h4 b k1 h] at k3; cases k3
theorem nxt_nx (p : Nat → Bool) (lo hi : Nat) : Nx p lo hi (nxt p lo hi) := by
  unfold nxt
  cases h : (List.range' lo (hi - lo)).find? p with
  | none =>
    refine .inl ⟨rfl, fun i h1 h2 => ?_⟩
    rw [List.find?_eq_none] at h
    have := h i (List.mem_range'_1.2 ⟨h1, by omega⟩)
    simpa using this
  | some k =>
    rw [List.find?_eq_some_iff_append] at h
    obtain ⟨h1, us, bs, h2, h3⟩ := h
    have hk : k ∈ List.range' lo (hi - lo) := by rw [h2]; simp
    obtain ⟨h4, h5⟩ := List.mem_range'_1.1 hk
    refine .inr ⟨k, rfl, h4, by omega, h1, fun i hi1 hi2 => ?_⟩
    have hi : i ∈ us ++ k :: bs := by rw [← h2]; exact List.mem_range'_1.2 ⟨hi1, by omega⟩
    rcases List.mem_append.1 hi with hi | hi
    · simpa using h3 i hi
    · exfalso
      have hs : (us ++ k :: bs).Pairwise (· < ·) := by rw [← h2]; exact List.pairwise_lt_range' 1 (by decide)
      rw [List.pairwise_append, List.pairwise_cons] at hs
      rcases List.mem_cons.1 hi with rfl | hi
      · omega
      · have := hs.2.1.1 i hi; omega
theorem Nx.eq {p : Nat → Bool} {lo hi : Nat} {r : Int} (h : Nx p lo hi r) : r = nxt p lo hi := h.uniq (nxt_nx p lo hi)
/-- Nothing stands between. -/
theorem Nx.down {p : Nat → Bool} {lo lo' hi : Nat} {r : Int} (h : Nx p lo' hi r) (hl : lo ≤ lo') (hn : ∀ i, lo ≤ i → i < lo' → p i = false) : Nx p lo hi r := by
  rcases h with ⟨rfl, h1⟩ | ⟨k, rfl, h1, h2, h3, h4⟩
  · refine .inl ⟨rfl, fun i a b => ?_⟩
    by_cases h : i < lo'
    · exact hn i a h
    · exact h1 i (by omega) b
  · refine .inr ⟨k, rfl, by omega, h2, h3, fun i a b => ?_⟩
    by_cases h : i < lo'
    · exact hn i a h
    · exact h4 i (by omega) b
theorem nxt_min (p : Nat → Bool) (lo hi : Nat) : nxt p (min lo hi) hi = nxt p lo hi := by
  by_cases h : lo ≤ hi
  · rw [Nat.min_eq_left h]
  · rw [Nat.min_eq_right (by omega)]
    refine Nx.uniq (lo := lo) (hi := hi) (p := p) ?_ (nxt_nx p lo hi)
    rcases nxt_nx p hi hi with ⟨h1, _⟩ | ⟨k, _, h1, h2, _⟩
    · exact .inl ⟨h1, fun i a b => by omega⟩
    · omega

/-! ### The numbers of a part -/
theorem mem_sel {p : Nat → Bool} {a b i : Nat} : i ∈ sel p a b ↔ a ≤ i ∧ i < b ∧ p i = true := by
  unfold sel
  rw [List.mem_filter, List.mem_range'_1]
  constructor
  · rintro ⟨⟨h1, h2⟩, h3⟩; exact ⟨h1, by omega, h3⟩
  · rintro ⟨h1, h2, h3⟩; exact ⟨⟨h1, by omega⟩, h3⟩
theorem sel_sorted (p : Nat → Bool) (a b : Nat) : (sel p a b).Pairwise (· < ·) := List.Pairwise.filter _ (List.pairwise_lt_range' 1 (by decide))
theorem sel_cut (p : Nat → Bool) {a c b : Nat} (h1 : a ≤ c) (h2 : c ≤ b) : sel p a b = sel p a c ++ sel p c b := by
  unfold sel
  rw [← List.filter_append]
  congr 1
  have := List.range'_append (s := a) (m := c - a) (n := b - c) (step := 1)
  rw [Nat.one_mul, show a + (c - a) = c by omega] at this
  rw [this, show (c - a) + (b - c) = b - a by omega]
theorem sel_none {p : Nat → Bool} {a b : Nat} (h : ∀ i, a ≤ i → i < b → p i = false) : sel p a b = [] := by
  refine List.filter_eq_nil_iff.2 fun i hi => ?_
  have := List.mem_range'_1.1 hi
  rw [h i this.1 (by omega)]
  simp
theorem sel_empty {p : Nat → Bool} {a b : Nat} (h : b ≤ a) : sel p a b = [] := sel_none fun i _ _ => by omega
theorem sel_one {p : Nat → Bool} {a : Nat} : sel p a (a + 1) = if p a then [a] else [] := by
  unfold sel
  rw [show a + 1 - a = 1 by omega]
  show List.filter p [a] = _
  cases h : p a <;> simp [h]
/-- .. up to and with the next one. -/
theorem sel_next {p : Nat → Bool} {lo c hi k : Nat} (h1 : lo ≤ c) (h : Nx p c hi (k : Int)) : sel p lo (k + 1) = sel p lo c ++ [k] := by
  rcases h with ⟨h, _⟩ | ⟨k', h, h2, h3, h4, h5⟩
  · omega
  · have : k' = k := by omega
    subst this
    rw [sel_cut p (show lo ≤ k' by omega) (Nat.le_succ k'), sel_cut p h1 h2, sel_none h5, List.append_nil, sel_one, if_pos h4]
theorem sel_done {p : Nat → Bool} {lo c hi : Nat} {r : Int} (h1 : lo ≤ c) (h2 : c ≤ hi) (h : Nx p c hi r) (hr : r < 0) : sel p lo hi = sel p lo c := by
  rcases h with ⟨_, h3⟩ | ⟨k', h, _⟩
  · rw [sel_cut p h1 h2, sel_none h3, List.append_nil]
  · omega
theorem sel_lo {p : Nat → Bool} {lo hi : Nat} : sel p (min lo hi) hi = sel p lo hi := by
  by_cases h : lo ≤ hi
  · rw [Nat.min_eq_left h]
  · rw [Nat.min_eq_right (by omega), sel_empty (Nat.le_refl _), sel_empty (by omega)]
/-- A rising row is a part's numbers. -/
theorem sel_eq {p : Nat → Bool} {a b : Nat} {l : List Nat} (hs : l.Pairwise (· < ·)) (h : ∀ i, i ∈ l ↔ a ≤ i ∧ i < b ∧ p i = true) : l = sel p a b :=
  sorted_ext hs (sel_sorted p a b) fun i => by rw [h i, mem_sel]
/-- The first few of a part. -/
def lst (p : Nat → Bool) (lo hi m : Nat) : List Nat := (sel p lo hi).take m
theorem lst_full {p : Nat → Bool} {lo c hi m : Nat} (h1 : lo ≤ c) (h2 : c ≤ hi) (h : (sel p lo c).length = m) : lst p lo hi m = sel p lo c := by
  unfold lst
  rw [sel_cut p h1 h2, ← h, List.take_left']
  rfl
theorem lst_all {p : Nat → Bool} {lo hi m : Nat} (h : (sel p lo hi).length ≤ m) : lst p lo hi m = sel p lo hi := List.take_of_length_le h

/-! ### Words -/
/-- A word's numbers from one on, in the part that it tells. -/
def inW (x : Nat) (at_ : Nat) : Nat → Bool := fun i => x.testBit (i - 64 * at_)
def mayW (l : List NodeE) (Ss : Nat → List Nat) (n : Nat) (level at_ : Int) : Nat := (maysE (decide (0 < level)) (fun k => wordS (Ss k) level at_) l).getD n 0
theorem mayW_lt (l : List NodeE) (Ss : Nat → List Nat) (n : Nat) (level at_ : Int) : mayW l Ss n level at_ < 2 ^ 64 := mays_lt (fun _ => wordS_lt _ _ _) l n
def inPl (level at_ : Int) : Prop := 0 ≤ level ∧ level < 4 ∧ 0 ≤ at_ ∧ at_ < 64 ^ (3 - level.toNat)
instance (level at_ : Int) : Decidable (inPl level at_) := by unfold inPl; exact inferInstance
def scW (l : List NodeE) (Ss : Nat → List Nat) (n : Nat) (level at_ : Int) : Nat := if inPl level at_ then mayW l Ss n level at_ else 0
theorem scW_lt (l : List NodeE) (Ss : Nat → List Nat) (n : Nat) (level at_ : Int) : scW l Ss n level at_ < 2 ^ 64 := by
  unfold scW
  split
  · exact mayW_lt _ _ _ _ _
  · decide
theorem joinB_all : ∀ (l : List Bool) (b : Bool), l.foldl (fun w v => if (2 : Nat) = 2 then w && v else if (2 : Nat) = 3 then w || v else w ^^ v) b = (b && l.all id)
  | [], b => by simp
  | a :: l, b => by rw [List.foldl_cons, joinB_all l]; simp [Bool.and_assoc]
theorem joinB_any : ∀ (l : List Bool) (b : Bool), l.foldl (fun w v => if (3 : Nat) = 2 then w && v else if (3 : Nat) = 3 then w || v else w ^^ v) b = (b || l.any id)
  | [], b => by simp
  | a :: l, b => by rw [List.foldl_cons, joinB_any l]; simp [Bool.or_assoc]
theorem joinB_odd : ∀ (l : List Bool) (b : Bool), l.foldl (fun w v => if (4 : Nat) = 2 then w && v else if (4 : Nat) = 3 then w || v else w ^^ v) b = true → (b || l.any id) = true
  | [], b, h => by simpa using h
  | a :: l, b, h => by
    rw [List.foldl_cons] at h
    have := joinB_odd l _ h
    simp at this ⊢
    cases a <;> cases b <;> simp_all
theorem joinB2 (l : List Bool) : joinB 2 l = l.all id := by
  have := joinB_all l true
  simpa [joinB] using this
theorem joinB3 (l : List Bool) : joinB 3 l = l.any id := by
  have := joinB_any l false
  simpa [joinB] using this
theorem joinB4 {l : List Bool} (h : joinB 4 l = true) : l.any id = true := by
  have := joinB_odd l false (by simpa [joinB] using h)
  simpa using this
theorem mayW_tell {l : List NodeE} {Ss : Nat → List Nat} {n i : Nat} (hn : n < l.length) (hi : i < 16777216) : (mayW l Ss n 0 ((i / 64 : Nat) : Int)).testBit (i % 64) = exTell l Ss n i := by
  have h := exTell_in (Ss := Ss) hn hi
  have hd : i % 64 < 64 := Nat.mod_lt _ (by decide)
  rw [← h]
  unfold hasW mayW
  have e0 : decide ((0 : Int) < 0) = false := by decide
  have e1 : decide (0 ≤ ((i % 64 : Nat) : Int)) = true := decide_eq_true (by omega)
  have e2 : decide (((i % 64 : Nat) : Int) < 64) = true := decide_eq_true (by omega)
  rw [e0, e1, e2, Int.toNat_natCast]
  rfl
theorem mayW_tell2 {l : List NodeE} {Ss : Nat → List Nat} {n at_ d : Nat} (hn : n < l.length) (ha : at_ < 262144) (hd : d < 64) : (mayW l Ss n 0 (at_ : Nat)).testBit d = exTell l Ss n ((64 * at_ + d : Nat) : Int) := by
  have h := mayW_tell (Ss := Ss) (n := n) hn (show 64 * at_ + d < 16777216 by omega)
  rw [show (64 * at_ + d) / 64 = at_ by omega, show (64 * at_ + d) % 64 = d by omega] at h
  exact h
theorem pw_cast {at_ L : Nat} : ((at_ : Nat) : Int) < 64 ^ (3 - L) ↔ at_ < 64 ^ (3 - L) := by
  rw [show (64 : Int) ^ (3 - L) = ((64 ^ (3 - L) : Nat) : Int) by simp]
  exact Int.ofNat_lt
theorem wordS_bit {S : List Nat} {L p d : Nat} (hL : L < 4) (hp : p < 64 ^ (3 - L)) (hd : d < 64) : (wordS S L p).testBit d = true ↔ ∃ i ∈ S, i / 64 ^ L = 64 * p + d := by
  unfold wordS
  rw [if_pos ⟨by omega, by omega, by omega, by rw [Int.toNat_natCast]; exact pw_cast.2 hp⟩, Int.toNat_natCast, Int.toNat_natCast]
  exact bit_wordOf S L p d hd
theorem wordS_bit0 {S : List Nat} {p d : Nat} (hp : p < 262144) (hd : d < 64) : (wordS S 0 p).testBit d = true ↔ ∃ i ∈ S, i = 64 * p + d := by
  have h := wordS_bit (S := S) (L := 0) (p := p) (d := d) (by decide) (Nat.lt_of_lt_of_eq hp (by decide)) hd
  simp only [Nat.pow_zero, Nat.div_one] at h
  exact h
theorem plc_lt {i L : Nat} (hi : i < 16777216) (hL : L < 4) : i / 64 ^ (L + 1) < 64 ^ (3 - L) := by
  rcases (show L = 0 ∨ L = 1 ∨ L = 2 ∨ L = 3 by omega) with rfl | rfl | rfl | rfl <;> simp <;> omega
/-- Where something is, it may be. -/
theorem mayW_over {l : List NodeE} {m : Nat} (hok : ArOk l m) {Ss : Nat → List Nat} {i L : Nat} (hi : i < 16777216) (hL : L < 4) (hL0 : 0 < L) : ∀ n, n < l.length →
    (mayW l Ss n 0 ((i / 64 : Nat) : Int)).testBit (i % 64) = true → (mayW l Ss n L ((i / 64 ^ (L + 1) : Nat) : Int)).testBit (i / 64 ^ L % 64) = true := by
  have hd : i % 64 < 64 := Nat.mod_lt _ (by decide)
  have hd2 : i / 64 ^ L % 64 < 64 := Nat.mod_lt _ (by decide)
  have e0 : decide ((0 : Int) < 0) = false := by decide
  have e1 : decide ((0 : Int) < (L : Nat)) = true := by simpa using hL0
  intro n
  induction n using Nat.strongRecOn with
  | ind n ih =>
    intro hn h
    obtain ⟨x, hx⟩ : ∃ x, l[n]? = some x := ⟨_, List.getElem?_eq_getElem hn⟩
    obtain ⟨k1, k2, _⟩ := hok.kind n x hx
    unfold mayW at h ih ⊢
    rw [e0] at h ih
    rw [e1] at ih ⊢
    have A : ∀ (lv : Bool) (sw : Nat → Nat), (maysE lv sw l).getD n 0 = mayF lv sw x fun y => (maysE lv sw l).getD y 0 := fun lv sw => mays_at hok hx fun _ _ _ => rfl
    rw [A] at h
    rw [A]
    unfold mayF at h ⊢
    by_cases h1 : x.k = 1
    · rw [if_pos h1] at h ⊢
      obtain ⟨j, hj, h2⟩ := (wordS_bit0 (S := Ss (x.kids.headD 0)) (p := i / 64) (d := i % 64) (by omega) hd).1 h
      refine (wordS_bit hL (plc_lt hi hL) hd2).2 ⟨j, hj, ?_⟩
      have : j = i := by omega
      subst this
      rw [Nat.pow_succ, ← Nat.div_div_eq_div_mul]
      omega
    · rw [if_neg h1] at h ⊢
      by_cases h5 : x.k = 5
      · rw [if_pos h5, if_pos rfl]
        exact full_bit hd2
      · rw [if_neg h5] at h ⊢
        rw [joinW_bit hd] at h
        rw [joinW_bit hd2]
        simp only [List.map_map] at h ⊢
        have key : ∀ y ∈ x.kids, ((maysE false (fun s => wordS (Ss s) 0 ((i / 64 : Nat) : Int)) l).getD y 0).testBit (i % 64) = true → ((maysE true (fun s => wordS (Ss s) L ((i / 64 ^ (L + 1) : Nat) : Int)) l).getD y 0).testBit (i / 64 ^ L % 64) = true := fun y hy => by
          have hlow := hok.low n x hx h1 y hy
          exact ih y hlow (by omega)
        have anyk : (x.kids.map ((fun v => v.testBit (i % 64)) ∘ fun i_1 => (maysE false (fun s => wordS (Ss s) 0 ((i / 64 : Nat) : Int)) l).getD i_1 0)).any id = true →
            (x.kids.map ((fun v => v.testBit (i / 64 ^ L % 64)) ∘ fun i_1 => (maysE true (fun s => wordS (Ss s) L ((i / 64 ^ (L + 1) : Nat) : Int)) l).getD i_1 0)).any id = true := fun h => by
          rw [List.any_eq_true] at h ⊢
          obtain ⟨b, hb, h⟩ := h
          obtain ⟨y, hy, rfl⟩ := List.mem_map.1 hb
          exact ⟨_, List.mem_map.2 ⟨y, hy, rfl⟩, key y hy h⟩
        rcases (show x.k = 2 ∨ x.k = 3 ∨ x.k = 4 by omega) with e | e | e
        · rw [e] at h ⊢
          rw [show mayK false 2 = 2 from rfl, joinB2, List.all_eq_true] at h
          rw [show mayK true 2 = 2 from rfl, joinB2, List.all_eq_true]
          intro b hb
          obtain ⟨y, hy, rfl⟩ := List.mem_map.1 hb
          exact key y hy (h _ (List.mem_map.2 ⟨y, hy, rfl⟩))
        · rw [e] at h ⊢
          rw [show mayK false 3 = 3 from rfl, joinB3] at h
          rw [show mayK true 3 = 3 from rfl, joinB3]
          exact anyk h
        · rw [e] at h ⊢
          rw [show mayK false 4 = 4 from rfl] at h
          rw [show mayK true 4 = 3 from rfl, joinB3]
          exact anyk (joinB4 h)
/-- .. at a digit where nothing may be nothing is. -/
theorem mayW_none {l : List NodeE} {m : Nat} (hok : ArOk l m) {Ss : Nat → List Nat} {n L p d : Nat} (hn : n < l.length) (hL : L < 4) (hp : p < 64 ^ (3 - L)) (hd : d < 64) (h : (mayW l Ss n L (p : Nat)).testBit d = false) {i : Nat} (hi : i / 64 ^ L = 64 * p + d) : exTell l Ss n i = false := by
  have hi24 : i < 16777216 := by
    rcases (show L = 0 ∨ L = 1 ∨ L = 2 ∨ L = 3 by omega) with rfl | rfl | rfl | rfl <;> simp at hi hp <;> omega
  cases ht : exTell l Ss n i with
  | false => rfl
  | true =>
    rw [← mayW_tell hn hi24] at ht
    have e1 : i / 64 ^ (L + 1) = p := by rw [Nat.pow_succ, ← Nat.div_div_eq_div_mul, hi]; omega
    have e2 : i / 64 ^ L % 64 = d := by rw [hi]; omega
    by_cases hL0 : L = 0
    · subst hL0
      rw [Nat.pow_zero, Nat.div_one] at hi
      rw [show i / 64 = p by omega, show i % 64 = d by omega] at ht
      rw [show ((0 : Nat) : Int) = 0 from rfl] at h
      rw [h] at ht; cases ht
    · have := mayW_over hok hi24 hL (by omega) n hn ht
      rw [e1, e2, h] at this
      cases this
end Go.Proofs.YtcnbmfaicbkhcaaGreatDoor

/-
  Going over (scan), 1: a walk's memory; over; a word of a walk.
-/
set_option maxRecDepth 100000
namespace Go.Proofs.YtcnbmfaicbkhcaaGreatDoor
open Go Go.RowKit
attribute [local irreducible] wpList Calls Code.wp mayW

/-- A walk over node n of the arena D, made of R. -/
def WkB (K D n : Nat) (R : List Nat) : As := fun h => ∃ (A : Option Addr) (cap g : Nat) (W : List Nat), W.length = n + 1 ∧
  star (own (some ⟨g, 0, none⟩) (n + 1) (n + 1) 267 1 (u64s W)) (star (own A R.length cap 3 1 (ints (natI R))) (YtcnbmfaicbkhcaaGreatDoor.blk K #[ptr D, .slice A R.length cap, .slice (some ⟨g, 0, none⟩) (n + 1) (n + 1)] 381)) h
theorem St.wkopen {w0 w : World} {K D n : Nat} {R : List Nat} {L : List As} (hs : St w0 (WkB K D n R :: L) w) : ∃ (A : Option Addr) (cap g : Nat) (W : List Nat), W.length = n + 1 ∧
    St w0 (own (some ⟨g, 0, none⟩) (n + 1) (n + 1) 267 1 (u64s W) :: own A R.length cap 3 1 (ints (natI R)) :: YtcnbmfaicbkhcaaGreatDoor.blk K #[ptr D, .slice A R.length cap, .slice (some ⟨g, 0, none⟩) (n + 1) (n + 1)] 381 :: L) w := by
  obtain ⟨x, r, hd, hx, a, b, hab, e, ⟨A, cap, g, W, hW, hp⟩, hb⟩ := hs.sat
  have hs2 : St w0 (star (own (some ⟨g, 0, none⟩) (n + 1) (n + 1) 267 1 (u64s W)) (star (own A R.length cap 3 1 (ints (natI R))) (YtcnbmfaicbkhcaaGreatDoor.blk K #[ptr D, .slice A R.length cap, .slice (some ⟨g, 0, none⟩) (n + 1) (n + 1)] 381)) :: L) w :=
    ⟨hs.below, x, r, hd, hx, a, b, hab, e, hp, hb⟩
  exact ⟨A, cap, g, W, hW, (hs2.ent (Ent.open2 fun _ h => h)).ent (Ent.cons _ (Ent.open2 fun _ h => h))⟩
theorem St.wkshut {w0 w : World} {K D n : Nat} {R : List Nat} {L : List As} {A : Option Addr} {cap g : Nat} {W : List Nat} (hW : W.length = n + 1)
    (hs : St w0 (own (some ⟨g, 0, none⟩) (n + 1) (n + 1) 267 1 (u64s W) :: own A R.length cap 3 1 (ints (natI R)) :: YtcnbmfaicbkhcaaGreatDoor.blk K #[ptr D, .slice A R.length cap, .slice (some ⟨g, 0, none⟩) (n + 1) (n + 1)] 381 :: L) w) : St w0 (WkB K D n R :: L) w :=
  ((hs.ent (Ent.cons _ (Ent.shut2 fun _ h => h))).ent (Ent.shut2 fun _ h => h)).conv fun _ h => ⟨A, cap, g, W, hW, h⟩
/-- What a walk stands on. -/
structure ScC (w0 : World) (D n : Nat) (l : List NodeE) (ss : List Value) (R : List Nat) (Ss : Nat → List Nat) : Prop where
  view : ∃ N cap P cap2, ExV D l ss N cap P cap2 w0
  ok : ArOk l ss.length
  lt : n < l.length
  need : NeedOk l n R
  sets : SetsOk w0 ss Ss
theorem scW_in {l : List NodeE} {Ss : Nat → List Nat} {n : Nat} {level at_ : Int} (h : inPl level at_) : scW l Ss n level at_ = mayW l Ss n level at_ := if_pos h
theorem scW_out {l : List NodeE} {Ss : Nat → List Nat} {n : Nat} {level at_ : Int} (h : ¬ inPl level at_) : scW l Ss n level at_ = 0 := if_neg h
theorem words_m {w0 w : World} {L : List As} {D g n : Nat} {l : List NodeE} {ss : List Value} {R : List Nat} {Ss : Nat → List Nat} {A : Option Addr} {capR r : Nat} {W : List Nat} (hc : Hid (ScC w0 D n l ss R Ss)) (hs : St w0 (own (some ⟨g, 0, none⟩) (n + 1) (n + 1) 267 1 (u64s W) :: own A r capR 3 1 (ints (natI R)) :: L) w) (hW : Hid (W.length = n + 1)) (hr : Hid (R.length = r))
    {level at_ : Int} {x : Nat} (hx : Hid (mayW l Ss n level at_ = x)) :
    Calls Tryz.prog 259 #[ptr D, .slice A r capR, .int .i64 level, .int .i64 at_, .slice (some ⟨g, 0, none⟩) (n + 1) (n + 1)] w fun e w' => e = .returned (.int .u64 (x : Nat)) ∧
      ∃ W', Hid (W'.length = n + 1) ∧ St w0 (own (some ⟨g, 0, none⟩) (n + 1) (n + 1) 267 1 (u64s W') :: own A r capR 3 1 (ints (natI R)) :: L) w' := by
  obtain ⟨N, cap, P, cap2, hv⟩ := hc.out.view
  exact words_c hs hv hW.out hc.out.ok hc.out.lt hc.out.need hr (RdS.own hs.drop) (lv := decide (0 < level)) rfl hc.out.sets rfl (by unfold mayW at hx; exact hx)
attribute [local irreducible] scW
set_option maxHeartbeats 1000000 in
theorem scword_c {w0 w : World} {L : List As} {K D n : Nat} {l : List NodeE} {ss : List Value} {R : List Nat} {Ss : Nat → List Nat} (hc : ScC w0 D n l ss R Ss) (hs : St w0 (WkB K D n R :: L) w) (level at_ : Int) {x : Nat} (hx : Hid (scW l Ss n level at_ = x)) :
    Calls Tryz.prog 195 #[ptr K, .int .i64 level, .int .i64 at_] w fun e w' => e = .returned (.int .u64 (x : Nat)) ∧ St w0 (WkB K D n R :: L) w' := by
  by_cases h1 : level < 0
  · have hx0 : x = 0 := by
      rw [← hx.out]
      exact scW_out fun h => by have := h.1; omega
    subst hx0
    clear hx
    go_enter Tryz.func195, Tryz.ntmps195
    go_wp2
    go_ret
    exact ⟨rfl, hs⟩
  · by_cases h2 : 4 ≤ level
    · have hx0 : x = 0 := by
        rw [← hx.out]
        exact scW_out fun h => by have := h.2.1; omega
      subst hx0
      clear hx
      go_enter Tryz.func195, Tryz.ntmps195
      go_wp2
      go_ret
      exact ⟨rfl, hs⟩
    · by_cases h3 : 0 ≤ at_
      · have h4 : level = 0 ∨ level = 1 ∨ level = 2 ∨ level = 3 := by omega
        clear h1 h2
        rcases h4 with rfl | rfl | rfl | rfl
        · skip
          by_cases ha : at_ < 262144
          · have HX : Hid (mayW l Ss n 0 at_ = x) := by rw [Hid, ← hx.out, scW_in ⟨by decide, by decide, h3, by simpa using ha⟩]
            have da : decide (262144 ≤ at_) = false := decide_eq_false (by omega)
            obtain ⟨A, cap, g, W, hW, hs⟩ := hs.wkopen
            obtain ⟨r, HR⟩ : ∃ r, Hid (R.length = r) := ⟨_, rfl⟩
            rw [HR.out] at hs
            have HWl := Lib.hid hW
            have HC := Lib.hid hc
            clear hW ha hx hc
            generalize hp : ptr D = p at hs
            go_enter Tryz.func195, Tryz.ntmps195
            go_upto_region 3 with (fail)
            have hb := (hs.up2).only
            refine wp_region_plain [false, false, false, false, false, false, false, false, false, false, false, false, false, false, true, true] hb (by kernel_rfl) (by kernel_rfl) fun hne => ?_
            have e0 := (Rd.blk (w0 := w0) (g := K) (k := 0) (cs := #[p, .slice A r cap, .slice (some ⟨g, 0, none⟩) (n + 1) (n + 1)]) (t := 381) (L := []) rfl).alln
            have e1 := (Rd.blk (w0 := w0) (g := K) (k := 1) (cs := #[p, .slice A r cap, .slice (some ⟨g, 0, none⟩) (n + 1) (n + 1)]) (t := 381) (L := []) rfl).alln
            have e2 := (Rd.blk (w0 := w0) (g := K) (k := 2) (cs := #[p, .slice A r cap, .slice (some ⟨g, 0, none⟩) (n + 1) (n + 1)]) (t := 381) (L := []) rfl).alln
            simp only [pickOps]
            repeat (go_big_quiet_step (fail))
            refine wpQuiet_nil ?_
            clear hne e0 e1 e2
            simp only [chainIx]
            replace hs := hs.drew
            clear hb
            subst hp
            refine wpChainP_next rfl ?_
            go_wp2_with (first
              | (go_at_call 259; refine (words_m HC hs HWl HR HX).mono ?_; clear hs; rintro e w' ⟨rfl, W', HW', hs⟩))
            refine ⟨hs.up2.only, ?_⟩
            refine wpChain_last rfl ?_
            go_wp2
            go_ret
            rw [← HR.out] at hs
            exact ⟨rfl, hs.wkshut HW'.out⟩
          · have hx0 : x = 0 := by
              rw [← hx.out]
              exact scW_out fun h => ha (by simpa using h.2.2.2)
            subst hx0
            have da : decide (262144 ≤ at_) = true := decide_eq_true (by omega)
            clear ha hx hc
            go_enter Tryz.func195, Tryz.ntmps195
            go_wp2
            go_ret
            exact ⟨rfl, hs⟩
        · skip
          by_cases ha : at_ < 4096
          · have HX : Hid (mayW l Ss n 1 at_ = x) := by rw [Hid, ← hx.out, scW_in ⟨by decide, by decide, h3, by simpa using ha⟩]
            have da : decide (4096 ≤ at_) = false := decide_eq_false (by omega)
            obtain ⟨A, cap, g, W, hW, hs⟩ := hs.wkopen
            obtain ⟨r, HR⟩ : ∃ r, Hid (R.length = r) := ⟨_, rfl⟩
            rw [HR.out] at hs
            have HWl := Lib.hid hW
            have HC := Lib.hid hc
            clear hW ha hx hc
            generalize hp : ptr D = p at hs
            go_enter Tryz.func195, Tryz.ntmps195
            go_upto_region 3 with (fail)
            have hb := (hs.up2).only
            refine wp_region_plain [false, false, false, false, false, false, false, false, false, false, false, false, false, false, true, true] hb (by kernel_rfl) (by kernel_rfl) fun hne => ?_
            have e0 := (Rd.blk (w0 := w0) (g := K) (k := 0) (cs := #[p, .slice A r cap, .slice (some ⟨g, 0, none⟩) (n + 1) (n + 1)]) (t := 381) (L := []) rfl).alln
            have e1 := (Rd.blk (w0 := w0) (g := K) (k := 1) (cs := #[p, .slice A r cap, .slice (some ⟨g, 0, none⟩) (n + 1) (n + 1)]) (t := 381) (L := []) rfl).alln
            have e2 := (Rd.blk (w0 := w0) (g := K) (k := 2) (cs := #[p, .slice A r cap, .slice (some ⟨g, 0, none⟩) (n + 1) (n + 1)]) (t := 381) (L := []) rfl).alln
            simp only [pickOps]
            repeat (go_big_quiet_step (fail))
            refine wpQuiet_nil ?_
            clear hne e0 e1 e2
            simp only [chainIx]
            replace hs := hs.drew
            clear hb
            subst hp
            refine wpChainP_next rfl ?_
            go_wp2_with (first
              | (go_at_call 259; refine (words_m HC hs HWl HR HX).mono ?_; clear hs; rintro e w' ⟨rfl, W', HW', hs⟩))
            refine ⟨hs.up2.only, ?_⟩
            refine wpChain_last rfl ?_
            go_wp2
            go_ret
            rw [← HR.out] at hs
            exact ⟨rfl, hs.wkshut HW'.out⟩
          · have hx0 : x = 0 := by
              rw [← hx.out]
              exact scW_out fun h => ha (by simpa using h.2.2.2)
            subst hx0
            have da : decide (4096 ≤ at_) = true := decide_eq_true (by omega)
            clear ha hx hc
            go_enter Tryz.func195, Tryz.ntmps195
            go_wp2
            go_ret
            exact ⟨rfl, hs⟩
        · skip
          by_cases ha : at_ < 64
          · have HX : Hid (mayW l Ss n 2 at_ = x) := by rw [Hid, ← hx.out, scW_in ⟨by decide, by decide, h3, by simpa using ha⟩]
            have da : decide (64 ≤ at_) = false := decide_eq_false (by omega)
            obtain ⟨A, cap, g, W, hW, hs⟩ := hs.wkopen
            obtain ⟨r, HR⟩ : ∃ r, Hid (R.length = r) := ⟨_, rfl⟩
            rw [HR.out] at hs
            have HWl := Lib.hid hW
            have HC := Lib.hid hc
            clear hW ha hx hc
            generalize hp : ptr D = p at hs
            go_enter Tryz.func195, Tryz.ntmps195
            go_upto_region 3 with (fail)
            have hb := (hs.up2).only
            refine wp_region_plain [false, false, false, false, false, false, false, false, false, false, false, false, false, false, true, true] hb (by kernel_rfl) (by kernel_rfl) fun hne => ?_
            have e0 := (Rd.blk (w0 := w0) (g := K) (k := 0) (cs := #[p, .slice A r cap, .slice (some ⟨g, 0, none⟩) (n + 1) (n + 1)]) (t := 381) (L := []) rfl).alln
            have e1 := (Rd.blk (w0 := w0) (g := K) (k := 1) (cs := #[p, .slice A r cap, .slice (some ⟨g, 0, none⟩) (n + 1) (n + 1)]) (t := 381) (L := []) rfl).alln
            have e2 := (Rd.blk (w0 := w0) (g := K) (k := 2) (cs := #[p, .slice A r cap, .slice (some ⟨g, 0, none⟩) (n + 1) (n + 1)]) (t := 381) (L := []) rfl).alln
            simp only [pickOps]
            repeat (go_big_quiet_step (fail))
            refine wpQuiet_nil ?_
            clear hne e0 e1 e2
            simp only [chainIx]
            replace hs := hs.drew
            clear hb
            subst hp
            refine wpChainP_next rfl ?_
            go_wp2_with (first
              | (go_at_call 259; refine (words_m HC hs HWl HR HX).mono ?_; clear hs; rintro e w' ⟨rfl, W', HW', hs⟩))
            refine ⟨hs.up2.only, ?_⟩
            refine wpChain_last rfl ?_
            go_wp2
            go_ret
            rw [← HR.out] at hs
            exact ⟨rfl, hs.wkshut HW'.out⟩
          · have hx0 : x = 0 := by
              rw [← hx.out]
              exact scW_out fun h => ha (by simpa using h.2.2.2)
            subst hx0
            have da : decide (64 ≤ at_) = true := decide_eq_true (by omega)
            clear ha hx hc
            go_enter Tryz.func195, Tryz.ntmps195
            go_wp2
            go_ret
            exact ⟨rfl, hs⟩
        · skip
          by_cases ha : at_ < 1
          · have HX : Hid (mayW l Ss n 3 at_ = x) := by rw [Hid, ← hx.out, scW_in ⟨by decide, by decide, h3, by simpa using ha⟩]
            have da : decide (1 ≤ at_) = false := decide_eq_false (by omega)
            obtain ⟨A, cap, g, W, hW, hs⟩ := hs.wkopen
            obtain ⟨r, HR⟩ : ∃ r, Hid (R.length = r) := ⟨_, rfl⟩
            rw [HR.out] at hs
            have HWl := Lib.hid hW
            have HC := Lib.hid hc
            clear hW ha hx hc
            generalize hp : ptr D = p at hs
            go_enter Tryz.func195, Tryz.ntmps195
            go_upto_region 3 with (fail)
            have hb := (hs.up2).only
            refine wp_region_plain [false, false, false, false, false, false, false, false, false, false, false, false, false, false, true, true] hb (by kernel_rfl) (by kernel_rfl) fun hne => ?_
            have e0 := (Rd.blk (w0 := w0) (g := K) (k := 0) (cs := #[p, .slice A r cap, .slice (some ⟨g, 0, none⟩) (n + 1) (n + 1)]) (t := 381) (L := []) rfl).alln
            have e1 := (Rd.blk (w0 := w0) (g := K) (k := 1) (cs := #[p, .slice A r cap, .slice (some ⟨g, 0, none⟩) (n + 1) (n + 1)]) (t := 381) (L := []) rfl).alln
            have e2 := (Rd.blk (w0 := w0) (g := K) (k := 2) (cs := #[p, .slice A r cap, .slice (some ⟨g, 0, none⟩) (n + 1) (n + 1)]) (t := 381) (L := []) rfl).alln
            simp only [pickOps]
            repeat (go_big_quiet_step (fail))
            refine wpQuiet_nil ?_
            clear hne e0 e1 e2
            simp only [chainIx]
            replace hs := hs.drew
            clear hb
            subst hp
            refine wpChainP_next rfl ?_
            go_wp2_with (first
              | (go_at_call 259; refine (words_m HC hs HWl HR HX).mono ?_; clear hs; rintro e w' ⟨rfl, W', HW', hs⟩))
            refine ⟨hs.up2.only, ?_⟩
            refine wpChain_last rfl ?_
            go_wp2
            go_ret
            rw [← HR.out] at hs
            exact ⟨rfl, hs.wkshut HW'.out⟩
          · have hx0 : x = 0 := by
              rw [← hx.out]
              exact scW_out fun h => ha (by simpa using h.2.2.2)
            subst hx0
            have da : decide (1 ≤ at_) = true := decide_eq_true (by omega)
            clear ha hx hc
            go_enter Tryz.func195, Tryz.ntmps195
            go_wp2
            go_ret
            exact ⟨rfl, hs⟩
      · have hx0 : x = 0 := by
          rw [← hx.out]
          exact scW_out fun h => h3 h.2.2.1
        subst hx0
        have h5 : at_ < 0 := by omega
        clear hx
        go_enter Tryz.func195, Tryz.ntmps195
        go_wp2
        go_ret
        exact ⟨rfl, hs⟩
end Go.Proofs.YtcnbmfaicbkhcaaGreatDoor

/-
  Going over (scan), 2: over; the least number of a part.
-/
set_option maxRecDepth 100000
namespace Go.Proofs.YtcnbmfaicbkhcaaGreatDoor
open Go Go.RowKit
attribute [local irreducible] wpList Calls Code.wp mayW scW exTell

/-! ### over -/
theorem results_tmp2 {fn : Func} {t u : Tmp} (h : fn.results = #[.tmp t, .tmp u]) (tmps : Array Value) (P : Program) (w : World) :
    (results fn tmps).run P w = .ok (.tuple #[tmps.getD t undef, tmps.getD u undef]) w := by simp [results, h]
theorem over_none {w : World} {D : Nat} {l : List NodeE} {ss : List Value} {N P : Option Addr} {cap cap2 : Nat} (hv : ExV D l ss N cap P cap2 w) {n : Int} (hn : n < 0 ∨ (l.length : Int) ≤ n) :
    Calls Tryz.prog 193 #[ptr D, .int .i64 n] w fun e w' => e = .returned (.tuple #[.pointer none, .bool false]) ∧ w' = w := by
  have HV := Lib.hid hv
  have HN := Lib.hid hn
  clear hv hn
  go_enter Tryz.func193, Tryz.ntmps193
  go_wp2_with (first
    | (go_at_call 257; refine (needs_none HV.out HN.out).mono ?_; rintro e w' ⟨rfl, rfl⟩))
  refine bodyPost_ret (results_tmp2 rfl _ _ _) rfl ?_
  exact ⟨rfl, rfl⟩
theorem over_c {w : World} {D : Nat} {l : List NodeE} {ss : List Value} {N P : Option Addr} {cap cap2 : Nat} (hv : ExV D l ss N cap P cap2 w) (hok : ArOk l ss.length) {Ss : Nat → List Nat} (hsets : SetsOk w ss Ss) {n : Nat} (hn : n < l.length) :
    Calls Tryz.prog 193 #[ptr D, .int .i64 (n : Nat)] w fun e w' => ∃ K R, e = .returned (.tuple #[ptr K, .bool true]) ∧ Hid (ScC w D n l ss R Ss) ∧ St w [WkB K D n R] w' := by
  have HV := Lib.hid hv
  have HO := Lib.hid hok
  have HS := Lib.hid hsets
  have HN := Lib.hid hn
  have hn2 : n < 1000 := by have := hok.few; omega
  clear hv hok hsets hn
  unfold ptr
  go_enter Tryz.func193, Tryz.ntmps193
  go_wp2_with (first
    | (go_at_call 257; refine (needs_v HV.out HO.out HN.out).mono ?_; rintro e w' ⟨A, capA, R, r, rfl, HRl, hr0, HR, hs⟩)
    | (at_make; refine wpl_make (n := n + 1) (bytes := 8) (size := 1) (z := .int .u64 0) Tryz.underlying379 (by kernel_rfl) rfl rfl rfl (by omega) (by unfold maxLen; omega) hs ?_; clear hs; intro g w1 hs; rw [made_u64] at hs)
    | (refine wpl_box_v (v := .agg #[ptr D, .slice A r capA, .slice (some ⟨g, 0, none⟩) (n + 1) (n + 1)]) rfl hs ?_; clear hs; intro K w2 hs))
  refine bodyPost_ret (results_tmp2 rfl _ _ _) rfl ?_
  refine ⟨K, R, rfl, Lib.hid ⟨⟨_, _, _, _, HV.out⟩, HO.out, HN.out, HR.out, HS.out⟩, ?_⟩
  rw [← HRl.out] at hs
  exact hs.rot.ent (Ent.cons _ (Ent.swap _ _ _)) |>.wkshut List.length_replicate
/-- Has a node a number? -/
def tel (l : List NodeE) (Ss : Nat → List Nat) (n : Int) : Nat → Bool := fun i => exTell l Ss n i
end Go.Proofs.YtcnbmfaicbkhcaaGreatDoor

/-
  Going over (scan), 3: the least number of a part, level by level; next.
-/
set_option maxRecDepth 100000
namespace Go.Proofs.YtcnbmfaicbkhcaaGreatDoor
open Go Go.RowKit
attribute [local irreducible] wpList Calls Code.wp mayW scW exTell

theorem or_up {a d : Nat} (ha : a < 262144) (hd : d < 64) : bits .or .i64 ((a : Int) * 64) (d : Int) = ((64 * a + d : Nat) : Int) := by
  rw [show (a : Int) * 64 = ((a * 64 : Nat) : Int) by omega, i64_or _ _ (by omega) (by omega), Nat.or_comm, or_add (i := 6) (show d < 2 ^ 6 by omega) (show a * 64 % 2 ^ 6 = 0 by omega)]
  omega
/-- Behind some digits: up to digit k nothing is. -/
structure LsI (p : Nat → Bool) (lo b s x k : Nat) (q : Int) : Prop where
  le : k ≤ 64
  q : q = firstW x k
  none : ∀ i, lo ≤ i → i < b + k * s → p i = false
/-- A digit that is not set: nothing is there. -/
def Dig (p : Nat → Bool) (b s x : Nat) : Prop := ∀ d, d < 64 → x.testBit d = false → ∀ i, b + d * s ≤ i → i < b + d * s + s → p i = false
theorem in_digit {b s i k d : Nat} (hs : 0 < s) (h1 : b + k * s ≤ i) (h2 : i < b + d * s) : ∃ e, k ≤ e ∧ e < d ∧ b + e * s ≤ i ∧ i < b + e * s + s := by
  refine ⟨(i - b) / s, ?_, ?_, ?_, ?_⟩
  · rw [Nat.le_div_iff_mul_le hs]; omega
  · rw [Nat.div_lt_iff_lt_mul hs]; omega
  · have := Nat.div_mul_le_self (i - b) s
    have : b ≤ i := by have := Nat.zero_le (k * s); omega
    omega
  · have h := Nat.lt_div_mul_add (a := i - b) hs
    omega
theorem LsI.upto {p : Nat → Bool} {lo b s x k d : Nat} (h : LsI p lo b s x k (d : Nat)) (hd : Dig p b s x) (hs : 0 < s) : d < 64 ∧ x.testBit d = true ∧ k ≤ d ∧ ∀ i, lo ≤ i → i < b + d * s → p i = false := by
  rcases firstW_cases x k with ⟨h1, _⟩ | ⟨e, h1, h2, h3, h4, h5⟩
  · have := h.q; omega
  · have : e = d := by have := h.q; omega
    subst this
    refine ⟨h3, h4, by omega, fun i hi1 hi2 => ?_⟩
    by_cases hk : i < b + k * s
    · exact h.none i hi1 hk
    · obtain ⟨e', he1, he2, he3, he4⟩ := in_digit (k := k) hs (by omega) hi2
      exact hd e' (by omega) (h5 e' (by omega) he2) i he3 he4
theorem LsI.out {p : Nat → Bool} {lo b s x k : Nat} {q : Int} (h : LsI p lo b s x k q) (hd : Dig p b s x) (hs : 0 < s) (hq : q < 0) : ∀ i, lo ≤ i → i < b + 64 * s → p i = false := by
  rcases firstW_cases x k with ⟨h1, h2⟩ | ⟨e, h1, h2, h3, h4, h5⟩
  · intro i hi1 hi2
    by_cases hk : i < b + k * s
    · exact h.none i hi1 hk
    · obtain ⟨e', he1, he2, he3, he4⟩ := in_digit (k := k) (d := 64) hs (by omega) hi2
      exact hd e' he2 (h2 e' (by omega) he2) i he3 he4
  · have := h.q; omega
theorem dig_may {l : List NodeE} {m : Nat} (hok : ArOk l m) {Ss : Nat → List Nat} {n L a x : Nat} (hn : n < l.length) (hL : L < 4) (ha : a < 64 ^ (3 - L)) (hx : mayW l Ss n L (a : Nat) = x) : Dig (tel l Ss n) (a * 64 ^ (L + 1)) (64 ^ L) x := fun d hd hb i h1 h2 => by
  refine mayW_none hok hn hL ha hd (by rw [hx]; exact hb) ?_
  have hp : 0 < 64 ^ L := Nat.pow_pos (by decide)
  have e : a * 64 ^ (L + 1) + d * 64 ^ L = (64 * a + d) * 64 ^ L := by rw [Nat.pow_succ, Nat.add_mul]; congr 1; rw [Nat.mul_comm 64 a, Nat.mul_assoc, Nat.mul_comm (64 ^ L) 64]
  rw [e] at h1 h2
  exact Nat.le_antisymm (by rw [← Nat.lt_succ_iff, Nat.div_lt_iff_lt_mul hp, Nat.succ_mul]; exact h2) (by rw [Nat.le_div_iff_mul_le hp]; exact h1)
theorem Nx.neg {p : Nat → Bool} {lo hi : Nat} {r : Int} (h : Nx p lo hi r) (hr : r < 0) : ∀ i, lo ≤ i → i < hi → p i = false := by
  rcases h with ⟨_, h⟩ | ⟨k, h, _⟩
  · exact h
  · omega
theorem LsI.found {p : Nat → Bool} {lo b s x k d f : Nat} {r : Int} (h : LsI p lo b s x k (d : Nat)) (hd : Dig p b s x) (hs : 0 < s) (hlo : lo = max f b) (hn : Nx p (max f (b + d * s)) (b + d * s + s) r) (hr : 0 ≤ r) : Nx p lo (b + 64 * s) r := by
  obtain ⟨h1, _, _, h4⟩ := h.upto hd hs
  subst hlo
  have hb : d * s + s ≤ 64 * s := by rw [← Nat.succ_mul]; exact Nat.mul_le_mul_right _ h1
  rcases hn with ⟨e, _⟩ | ⟨m, e, m1, m2, m3, m4⟩
  · omega
  · refine .inr ⟨m, e, by omega, by omega, m3, fun i hi1 hi2 => ?_⟩
    by_cases hi : i < b + d * s
    · exact h4 i hi1 hi
    · exact m4 i (by omega) hi2
theorem LsI.step {p : Nat → Bool} {lo b s x k d f : Nat} {r : Int} (h : LsI p lo b s x k (d : Nat)) (hd : Dig p b s x) (hs : 0 < s) (hlo : lo = max f b) (hn : Nx p (max f (b + d * s)) (b + d * s + s) r) (hr : r < 0) : LsI p lo b s x (d + 1) (firstW x ((d : Int) + 1)) := by
  obtain ⟨h1, _, _, h4⟩ := h.upto hd hs
  subst hlo
  refine ⟨by omega, by congr 1, fun i hi1 hi2 => ?_⟩
  rw [Nat.succ_mul] at hi2
  by_cases hi : i < b + d * s
  · exact h4 i hi1 hi
  · exact hn.neg hr i (by omega) (by omega)
theorem LsI.end_ {p : Nat → Bool} {lo b s x k : Nat} {q : Int} (h : LsI p lo b s x k q) (hd : Dig p b s x) (hs : 0 < s) (hq : q < 0) : Nx p lo (b + 64 * s) (-1) := .inl ⟨rfl, h.out hd hs hq⟩
theorem ls_a {f a k d s B : Nat} (hB : B = 64 * s) (h : f < a * B + (k + 1) * s) (hk : k ≤ d) : f < (64 * a + d + 1) * s ∧ f < a * B + (d + 1 + 1) * s ∧ (64 * a + d) * s = a * B + d * s := by
  subst hB
  have h1 : (k + 1) * s ≤ (d + 1) * s := Nat.mul_le_mul_right _ (by omega)
  have h2 : (d + 1 + 1) * s = (d + 1) * s + s := Nat.succ_mul _ _
  have h3 : (d + 1) * s = d * s + s := Nat.succ_mul _ _
  have h4 : (64 * a + d) * s = a * (64 * s) + d * s := by rw [Nat.add_mul, Nat.mul_comm 64 a, Nat.mul_assoc]
  have h5 : (64 * a + d + 1) * s = (64 * a + d) * s + s := Nat.succ_mul _ _
  refine ⟨?_, ?_, h4⟩ <;> omega
/-- What the least number of a word's part answers. -/
def LstP (w0 : World) (K D n : Nat) (R : List Nat) (L : List As) (p : Nat → Bool) (lo hi : Nat) (e : Ending) (w' : World) : Prop := ∃ r : Int, e = .returned (.int .i64 r) ∧ Hid (Nx p lo hi r) ∧ St w0 (WkB K D n R :: L) w'
set_option maxHeartbeats 1000000 in
theorem least0_c {w0 w : World} {L : List As} {K D n : Nat} {l : List NodeE} {ss : List Value} {R : List Nat} {Ss : Nat → List Nat} (hc : ScC w0 D n l ss R Ss) (hT0 : Tab w0) (hs : St w0 (WkB K D n R :: L) w) {a f : Nat} (ha : a < 262144) (hf : f < (a + 1) * 64) :
    Calls Tryz.prog 258 #[ptr K, .int .i64 0, .int .i64 (a : Nat), .int .i64 (f : Nat)] w (LstP w0 K D n R L (tel l Ss n) (max f (a * 64)) (a * 64 + 64)) := by
  have HC := Lib.hid hc
  obtain ⟨x, HX⟩ : ∃ x, Hid (mayW l Ss n 0 (a : Nat) = x) := ⟨_, rfl⟩
  have HSX : Hid (scW l Ss n 0 (a : Nat) = x) := by rw [Hid, scW_in ⟨by decide, by decide, by omega, by simp; omega⟩]; exact HX.out
  have hx64 : x < 2 ^ 64 := by rw [← HX.out]; exact mayW_lt _ _ _ _ _
  have HD : Hid (Dig (tel l Ss n) (a * 64) 1 x) := dig_may hc.ok hc.lt (L := 0) (by decide) (by simp; omega) HX.out
  have hT := hT0.st hs
  have HT := Lib.hid hT0
  have HX64 := Lib.hid hx64
  have HB : Hid (∀ d, d < 64 → x.testBit d = tel l Ss n (a * 64 + d * 1)) := fun d hd => by
    rw [← HX.out, show ((0 : Int)) = ((0 : Nat) : Int) from rfl]
    have := mayW_tell2 (Ss := Ss) hc.lt ha hd
    unfold tel
    rw [show a * 64 + d * 1 = 64 * a + d by omega]
    exact this
  clear hc hT0 hx64 HX
  go_enter Tryz.func258, Tryz.ntmps258
  go_wp2_with (first
    | (go_at_call 195; refine (scword_c HC.out hs _ _ HSX).mono ?_; clear hs hT; rintro e w' ⟨rfl, hs⟩; have hT := HT.out.st hs)
    | (go_at_call 196; refine (first_c HX64.out _ _ hT).mono ?_; rintro e w' ⟨rfl, rfl⟩))
  go_loopw [12] (fun dv wr => ∃ (k : Nat) (q : Int), dv = .int .i64 q ∧ f < a * 64 + (k + 1) * 1 ∧ Hid (LsI (tel l Ss n) (max f (a * 64)) (a * 64) 1 x k q) ∧ St w0 (WkB K D n R :: L) wr) (fun dv _ => downM (intOf dv))
  case atStart => exact ⟨(f - a * 64) / 1, _, rfl, by omega, ⟨by omega, by congr 1; omega, fun i h1 h2 => by omega⟩, hs⟩
  case round =>
    clear hs hT
    obtain ⟨k, q, rfl, hfk, HI, hs⟩ := hrel
    by_cases h : 0 ≤ q
    · obtain ⟨d, rfl⟩ := Int.eq_ofNat_of_zero_le h
      obtain ⟨h1, h2, h3, h4⟩ := HI.out.upto HD.out (by decide)
      have ht := HB.out d h1
      rw [h2] at ht
      have HF : Hid (Nx (tel l Ss n) (max f (a * 64)) (a * 64 + 64) (a * 64 + d : Int)) := .inr ⟨a * 64 + d * 1, by omega, by omega, by omega, ht.symm, h4⟩
      clear HI h h2 h3 h4 ht hfk
      go_wp2
      go_ret
      exact ⟨_, rfl, HF, hs⟩
    · have HE := Lib.hid (HI.out.end_ HD.out (by decide) (by omega))
      clear HI
      go_wp2
      go_ret
      exact ⟨_, rfl, HE, hs⟩
set_option maxHeartbeats 1000000 in
theorem least1_c {w0 w : World} {L : List As} {K D n : Nat} {l : List NodeE} {ss : List Value} {R : List Nat} {Ss : Nat → List Nat} (hc : ScC w0 D n l ss R Ss) (hT0 : Tab w0) (hs : St w0 (WkB K D n R :: L) w) {a f : Nat} (ha : a < 4096) (hf : f < (a + 1) * 4096) :
    Calls Tryz.prog 258 #[ptr K, .int .i64 1, .int .i64 (a : Nat), .int .i64 (f : Nat)] w (LstP w0 K D n R L (tel l Ss n) (max f (a * 4096)) (a * 4096 + 4096)) := by
  have HC := Lib.hid hc
  obtain ⟨x, HX⟩ : ∃ x, Hid (mayW l Ss n 1 (a : Nat) = x) := ⟨_, rfl⟩
  have HSX : Hid (scW l Ss n 1 (a : Nat) = x) := by rw [Hid, scW_in ⟨by decide, by decide, by omega, by simp; omega⟩]; exact HX.out
  have hx64 : x < 2 ^ 64 := by rw [← HX.out]; exact mayW_lt _ _ _ _ _
  have HD : Hid (Dig (tel l Ss n) (a * 4096) 64 x) := dig_may hc.ok hc.lt (L := 1) (by decide) (by simp; omega) HX.out
  have hT := hT0.st hs
  have HT := Lib.hid hT0
  have HX64 := Lib.hid hx64
  clear hc hT0 hx64 HX
  go_enter Tryz.func258, Tryz.ntmps258
  go_wp2_with (first
    | (go_at_call 195; refine (scword_c HC.out hs _ _ HSX).mono ?_; clear hs hT; rintro e w' ⟨rfl, hs⟩; have hT := HT.out.st hs)
    | (go_at_call 196; refine (first_c HX64.out _ _ hT).mono ?_; rintro e w' ⟨rfl, rfl⟩))
  go_loopw [12] (fun dv wr => ∃ (k : Nat) (q : Int), dv = .int .i64 q ∧ f < a * 4096 + (k + 1) * 64 ∧ Hid (LsI (tel l Ss n) (max f (a * 4096)) (a * 4096) 64 x k q) ∧ St w0 (WkB K D n R :: L) wr) (fun dv _ => downM (intOf dv))
  case atStart => exact ⟨(f - a * 4096) / 64, _, rfl, by omega, ⟨by omega, by congr 1; omega, fun i h1 h2 => by omega⟩, hs⟩
  case round =>
    clear hs hT
    obtain ⟨k, q, rfl, hfk, HI, hs⟩ := hrel
    by_cases h : 0 ≤ q
    · obtain ⟨d, rfl⟩ := Int.eq_ofNat_of_zero_le h
      obtain ⟨h1, _, h3, _⟩ := HI.out.upto HD.out (by decide)
      obtain ⟨hc2, hfk2, hcS⟩ := ls_a (a := a) (s := 64) (B := 4096) (by decide) hfk h3
      have hc1 : 64 * a + d < 64 * 4096 := by omega
      have ho := or_up (a := a) (d := d) (by omega) h1
      generalize 64 * a + d = c at *
      have HcS := Lib.hid hcS
      have HFk := Lib.hid hfk2
      clear hcS hfk hfk2
      go_upto_region 10 with (first
        | (go_at_call 258; refine (least0_c HC.out HT.out hs (a := c) hc1 hc2).mono ?_; clear hs; rintro e w' ⟨r, rfl, HN, hs⟩))
      rw [HcS.out] at HN
      by_cases hr : 0 ≤ r
      · have HF := Lib.hid (HI.out.found HD.out (by decide) rfl HN.out hr)
        clear HI HN h ho hc1 hc2 h1 h3
        go_wp2
        go_ret
        exact ⟨_, rfl, HF, hs⟩
      · have HF := Lib.hid (HI.out.step HD.out (by decide) rfl HN.out (by omega))
        have hT := HT.out.st hs
        have HM := Lib.hid (downM_first x d h1)
        clear HI HN ho hc1 hc2 h3
        go_wp2_with (first
          | (go_at_call 196; refine (first_c HX64.out _ _ hT).mono ?_; rintro e w' ⟨rfl, rfl⟩))
        go_roundw
        case rel => exact ⟨d + 1, _, rfl, HFk.out, HF, hs⟩
        case measure => exact HM.out
    · have HE := Lib.hid (HI.out.end_ HD.out (by decide) (by omega))
      clear HI
      go_wp2
      go_ret
      exact ⟨_, rfl, HE, hs⟩
set_option maxHeartbeats 1000000 in
theorem least2_c {w0 w : World} {L : List As} {K D n : Nat} {l : List NodeE} {ss : List Value} {R : List Nat} {Ss : Nat → List Nat} (hc : ScC w0 D n l ss R Ss) (hT0 : Tab w0) (hs : St w0 (WkB K D n R :: L) w) {a f : Nat} (ha : a < 64) (hf : f < (a + 1) * 262144) :
    Calls Tryz.prog 258 #[ptr K, .int .i64 2, .int .i64 (a : Nat), .int .i64 (f : Nat)] w (LstP w0 K D n R L (tel l Ss n) (max f (a * 262144)) (a * 262144 + 262144)) := by
  have HC := Lib.hid hc
  obtain ⟨x, HX⟩ : ∃ x, Hid (mayW l Ss n 2 (a : Nat) = x) := ⟨_, rfl⟩
  have HSX : Hid (scW l Ss n 2 (a : Nat) = x) := by rw [Hid, scW_in ⟨by decide, by decide, by omega, by simp; omega⟩]; exact HX.out
  have hx64 : x < 2 ^ 64 := by rw [← HX.out]; exact mayW_lt _ _ _ _ _
  have HD : Hid (Dig (tel l Ss n) (a * 262144) 4096 x) := dig_may hc.ok hc.lt (L := 2) (by decide) (by simp; omega) HX.out
  have hT := hT0.st hs
  have HT := Lib.hid hT0
  have HX64 := Lib.hid hx64
  clear hc hT0 hx64 HX
  go_enter Tryz.func258, Tryz.ntmps258
  go_wp2_with (first
    | (go_at_call 195; refine (scword_c HC.out hs _ _ HSX).mono ?_; clear hs hT; rintro e w' ⟨rfl, hs⟩; have hT := HT.out.st hs)
    | (go_at_call 196; refine (first_c HX64.out _ _ hT).mono ?_; rintro e w' ⟨rfl, rfl⟩))
  go_loopw [12] (fun dv wr => ∃ (k : Nat) (q : Int), dv = .int .i64 q ∧ f < a * 262144 + (k + 1) * 4096 ∧ Hid (LsI (tel l Ss n) (max f (a * 262144)) (a * 262144) 4096 x k q) ∧ St w0 (WkB K D n R :: L) wr) (fun dv _ => downM (intOf dv))
  case atStart => exact ⟨(f - a * 262144) / 4096, _, rfl, by omega, ⟨by omega, by congr 1; omega, fun i h1 h2 => by omega⟩, hs⟩
  case round =>
    clear hs hT
    obtain ⟨k, q, rfl, hfk, HI, hs⟩ := hrel
    by_cases h : 0 ≤ q
    · obtain ⟨d, rfl⟩ := Int.eq_ofNat_of_zero_le h
      obtain ⟨h1, _, h3, _⟩ := HI.out.upto HD.out (by decide)
      obtain ⟨hc2, hfk2, hcS⟩ := ls_a (a := a) (s := 4096) (B := 262144) (by decide) hfk h3
      have hc1 : 64 * a + d < 64 * 64 := by omega
      have ho := or_up (a := a) (d := d) (by omega) h1
      generalize 64 * a + d = c at *
      have HcS := Lib.hid hcS
      have HFk := Lib.hid hfk2
      clear hcS hfk hfk2
      go_upto_region 10 with (first
        | (go_at_call 258; refine (least1_c HC.out HT.out hs (a := c) hc1 hc2).mono ?_; clear hs; rintro e w' ⟨r, rfl, HN, hs⟩))
      rw [HcS.out] at HN
      by_cases hr : 0 ≤ r
      · have HF := Lib.hid (HI.out.found HD.out (by decide) rfl HN.out hr)
        clear HI HN h ho hc1 hc2 h1 h3
        go_wp2
        go_ret
        exact ⟨_, rfl, HF, hs⟩
      · have HF := Lib.hid (HI.out.step HD.out (by decide) rfl HN.out (by omega))
        have hT := HT.out.st hs
        have HM := Lib.hid (downM_first x d h1)
        clear HI HN ho hc1 hc2 h3
        go_wp2_with (first
          | (go_at_call 196; refine (first_c HX64.out _ _ hT).mono ?_; rintro e w' ⟨rfl, rfl⟩))
        go_roundw
        case rel => exact ⟨d + 1, _, rfl, HFk.out, HF, hs⟩
        case measure => exact HM.out
    · have HE := Lib.hid (HI.out.end_ HD.out (by decide) (by omega))
      clear HI
      go_wp2
      go_ret
      exact ⟨_, rfl, HE, hs⟩
set_option maxHeartbeats 1000000 in
theorem least3_c {w0 w : World} {L : List As} {K D n : Nat} {l : List NodeE} {ss : List Value} {R : List Nat} {Ss : Nat → List Nat} (hc : ScC w0 D n l ss R Ss) (hT0 : Tab w0) (hs : St w0 (WkB K D n R :: L) w) {a f : Nat} (ha : a < 1) (hf : f < (a + 1) * 16777216) :
    Calls Tryz.prog 258 #[ptr K, .int .i64 3, .int .i64 (a : Nat), .int .i64 (f : Nat)] w (LstP w0 K D n R L (tel l Ss n) (max f (a * 16777216)) (a * 16777216 + 16777216)) := by
  have HC := Lib.hid hc
  obtain ⟨x, HX⟩ : ∃ x, Hid (mayW l Ss n 3 (a : Nat) = x) := ⟨_, rfl⟩
  have HSX : Hid (scW l Ss n 3 (a : Nat) = x) := by rw [Hid, scW_in ⟨by decide, by decide, by omega, by simp; omega⟩]; exact HX.out
  have hx64 : x < 2 ^ 64 := by rw [← HX.out]; exact mayW_lt _ _ _ _ _
  have HD : Hid (Dig (tel l Ss n) (a * 16777216) 262144 x) := dig_may hc.ok hc.lt (L := 3) (by decide) (by simp; omega) HX.out
  have hT := hT0.st hs
  have HT := Lib.hid hT0
  have HX64 := Lib.hid hx64
  clear hc hT0 hx64 HX
  go_enter Tryz.func258, Tryz.ntmps258
  go_wp2_with (first
    | (go_at_call 195; refine (scword_c HC.out hs _ _ HSX).mono ?_; clear hs hT; rintro e w' ⟨rfl, hs⟩; have hT := HT.out.st hs)
    | (go_at_call 196; refine (first_c HX64.out _ _ hT).mono ?_; rintro e w' ⟨rfl, rfl⟩))
  go_loopw [12] (fun dv wr => ∃ (k : Nat) (q : Int), dv = .int .i64 q ∧ f < a * 16777216 + (k + 1) * 262144 ∧ Hid (LsI (tel l Ss n) (max f (a * 16777216)) (a * 16777216) 262144 x k q) ∧ St w0 (WkB K D n R :: L) wr) (fun dv _ => downM (intOf dv))
  case atStart => exact ⟨(f - a * 16777216) / 262144, _, rfl, by omega, ⟨by omega, by congr 1; omega, fun i h1 h2 => by omega⟩, hs⟩
  case round =>
    clear hs hT
    obtain ⟨k, q, rfl, hfk, HI, hs⟩ := hrel
    by_cases h : 0 ≤ q
    · obtain ⟨d, rfl⟩ := Int.eq_ofNat_of_zero_le h
      obtain ⟨h1, _, h3, _⟩ := HI.out.upto HD.out (by decide)
      obtain ⟨hc2, hfk2, hcS⟩ := ls_a (a := a) (s := 262144) (B := 16777216) (by decide) hfk h3
      have hc1 : 64 * a + d < 64 * 1 := by omega
      have ho := or_up (a := a) (d := d) (by omega) h1
      generalize 64 * a + d = c at *
      have HcS := Lib.hid hcS
      have HFk := Lib.hid hfk2
      clear hcS hfk hfk2
      go_upto_region 10 with (first
        | (go_at_call 258; refine (least2_c HC.out HT.out hs (a := c) hc1 hc2).mono ?_; clear hs; rintro e w' ⟨r, rfl, HN, hs⟩))
      rw [HcS.out] at HN
      by_cases hr : 0 ≤ r
      · have HF := Lib.hid (HI.out.found HD.out (by decide) rfl HN.out hr)
        clear HI HN h ho hc1 hc2 h1 h3
        go_wp2
        go_ret
        exact ⟨_, rfl, HF, hs⟩
      · have HF := Lib.hid (HI.out.step HD.out (by decide) rfl HN.out (by omega))
        have hT := HT.out.st hs
        have HM := Lib.hid (downM_first x d h1)
        clear HI HN ho hc1 hc2 h3
        go_wp2_with (first
          | (go_at_call 196; refine (first_c HX64.out _ _ hT).mono ?_; rintro e w' ⟨rfl, rfl⟩))
        go_roundw
        case rel => exact ⟨d + 1, _, rfl, HFk.out, HF, hs⟩
        case measure => exact HM.out
    · have HE := Lib.hid (HI.out.end_ HD.out (by decide) (by omega))
      clear HI
      go_wp2
      go_ret
      exact ⟨_, rfl, HE, hs⟩
/-- The least from one on. -/
theorem scnext_c {w0 w : World} {L : List As} {K D n : Nat} {l : List NodeE} {ss : List Value} {R : List Nat} {Ss : Nat → List Nat} (hc : Hid (ScC w0 D n l ss R Ss)) (hT0 : Hid (Tab w0)) (hs : St w0 (WkB K D n R :: L) w) (f : Int) {r : Int} (hr : Hid (nxt (tel l Ss n) f.toNat 16777216 = r)) :
    Calls Tryz.prog 194 #[ptr K, .int .i64 f] w fun e w' => e = .returned (.int .i64 r) ∧ St w0 (WkB K D n R :: L) w' := by
  by_cases h : 16777216 ≤ f
  · have HR : Hid (r = -1) := by
      rw [Hid, ← hr.out]
      rcases nxt_nx (tel l Ss n) f.toNat 16777216 with ⟨h1, _⟩ | ⟨k, _, h2, h3, _⟩
      · exact h1
      · omega
    go_enter Tryz.func194, Tryz.ntmps194
    go_wp2
    go_ret
    exact ⟨by rw [HR.out]; rfl, hs⟩
  · obtain ⟨g, hg⟩ : ∃ g : Nat, g = f.toNat := ⟨_, rfl⟩
    rw [← hg] at hr
    have hm : max f 0 = (g : Int) := by omega
    have hg2 : g < (0 + 1) * 16777216 := by omega
    clear hg
    go_enter Tryz.func194, Tryz.ntmps194
    go_wp2_with (first
      | (go_at_call 258; refine (least3_c hc.out hT0.out hs (a := 0) (by decide) hg2).mono ?_; clear hs; rintro e w' ⟨r', rfl, HN, hs⟩))
    go_ret
    have he := HN.out.eq
    rw [show max g (0 * 16777216) = g by omega, show 0 * 16777216 + 16777216 = 16777216 by omega, hr.out] at he
    subst he
    exact ⟨rfl, hs⟩
end Go.Proofs.YtcnbmfaicbkhcaaGreatDoor

/-
  Going over (scan), 4: Next, May, Word, List.
-/
set_option maxRecDepth 100000
namespace Go.Proofs.YtcnbmfaicbkhcaaGreatDoor
open Go Go.RowKit
attribute [local irreducible] wpList Calls Code.wp mayW scW exTell

/-- An arena in memory, with its sets. -/
structure ScV (w : World) (D : Nat) (l : List NodeE) (ss : List Value) (Ss : Nat → List Nat) : Prop where
  view : ∃ N cap P cap2, ExV D l ss N cap P cap2 w
  ok : ArOk l ss.length
  sets : SetsOk w ss Ss
  tab : Tab w
theorem ScV.grew {w w' : World} {D : Nat} {l : List NodeE} {ss : List Value} {Ss : Nat → List Nat} (h : ScV w D l ss Ss) (hg : Grew w w') : ScV w' D l ss Ss :=
  ⟨let ⟨N, c, P, c2, hv⟩ := h.view; ⟨N, c, P, c2, hv.grew hg⟩, h.ok, h.sets.grew hg, fun i hi => hg.cell (h.tab i hi)⟩
theorem St.scv {w0 w : World} {D : Nat} {l : List NodeE} {ss : List Value} {L : List As} {Ss : Nat → List Nat} (hs : St w0 (ExB D l ss :: L) w) (hok : ArOk l ss.length) (hsets : SetsOk w ss Ss) (hT : Tab w0) : ScV w D l ss Ss :=
  ⟨hs.exview, hok, hsets, hT.st hs⟩
theorem tel_out {l : List NodeE} {Ss : Nat → List Nat} {n : Int} (hn : n < 0 ∨ (l.length : Int) ≤ n) (i : Nat) : tel l Ss n i = false := exTell_out (by omega)
def scMay (l : List NodeE) (Ss : Nat → List Nat) (n level at_ : Int) : Nat := if 0 ≤ n ∧ n < l.length then scW l Ss n.toNat level at_ else 0
def lenV : Value → Nat
  | .slice _ n _ => n
  | _ => 0
theorem in_word {p : Nat → Bool} {x a k : Nat} {q : Int} (hb : ∀ d, d < 64 → x.testBit d = p (64 * a + d)) (ha : a < 262144) (hq : q = firstW x k) (h0 : 0 ≤ q) : ∃ d : Nat, q = d ∧ d < 64 ∧ k ≤ d ∧ Nx p (64 * a + k) 16777216 ((64 * a + d : Nat) : Int) := by
  rcases firstW_cases x k with ⟨h1, _⟩ | ⟨e, h1, h2, h3, h4, h5⟩
  · omega
  · refine ⟨e, by omega, h3, by omega, .inr ⟨64 * a + e, rfl, by omega, by omega, by rw [← hb e h3]; exact h4, fun i hi1 hi2 => ?_⟩⟩
    have := h5 (i - 64 * a) (by omega) (by omega)
    rw [hb _ (by omega), show 64 * a + (i - 64 * a) = i by omega] at this
    exact this
theorem out_word {p : Nat → Bool} {x a k lo : Nat} {q : Int} (hb : ∀ d, d < 64 → x.testBit d = p (64 * a + d)) (hq : q = firstW x k) (h0 : q < 0) (hk : k ≤ 64) (hl : lo ≤ 64 * a + k) : sel p lo (64 * a + 64) = sel p lo (64 * a + k) := by
  rcases firstW_cases x k with ⟨h1, h2⟩ | ⟨e, h1, h2, h3, h4, h5⟩
  · rw [sel_cut p hl (show 64 * a + k ≤ 64 * a + 64 by omega), sel_none (a := 64 * a + k) (b := 64 * a + 64) (fun i hi1 hi2 => ?_), List.append_nil]
    have := h2 (i - 64 * a) (by omega) (by omega)
    rw [hb _ (by omega), show 64 * a + (i - 64 * a) = i by omega] at this
    exact this
  · omega
/-- Some are listed, up to c; the next one is q. -/
structure LiI (p : Nat → Bool) (lo m c : Nat) (o : List Nat) (q : Int) : Prop where
  hlo : lo ≤ c
  hhi : c ≤ 16777216
  ho : o = sel p lo c
  len : o.length ≤ m
  next : o.length < m → q = nxt p c 16777216
/-- .. within a word. -/
structure LiJ (p : Nat → Bool) (lo m a x b n0 k : Nat) (o : List Nat) (q : Int) : Prop where
  hlo : lo ≤ 64 * a + k
  hk : k ≤ 64
  ho : o = sel p lo (64 * a + k)
  len : o.length ≤ m
  hq : q = firstW x k
  more : n0 < o.length ∨ k = b ∧ o.length = n0
theorem LiI.done {p : Nat → Bool} {lo m c : Nat} {o : List Nat} {q : Int} (h : LiI p lo m c o q) (hq : q < 0 ∨ ¬ o.length < m) : lst p lo 16777216 m = o := by
  by_cases hl : o.length < m
  · have h1 : q < 0 := by
      rcases hq with h1 | h1
      · exact h1
      · exact absurd hl h1
    have h2 := h.next hl
    have h3 := sel_done h.hlo h.hhi (nxt_nx p c 16777216) (by omega)
    rw [lst_all (by rw [h3, ← h.ho]; omega), h3, h.ho]
  · rw [h.ho, lst_full h.hlo h.hhi (by rw [← h.ho]; have := h.len; omega)]
theorem LiI.word {p : Nat → Bool} {lo m c : Nat} {o : List Nat} {i : Nat} (h : LiI p lo m c o i) (hl : o.length < m) {x : Nat} : LiJ p lo m (i / 64) x (i % 64) o.length (i % 64) o (firstW x (i % 64 : Nat)) ∧ i < 16777216 ∧ p i = true := by
  have h1 := h.next hl
  rcases nxt_nx p c 16777216 with ⟨h2, _⟩ | ⟨k, h2, h3, h4, h5, h6⟩
  · omega
  · have hk : k = i := by omega
    subst hk
    have hlo := h.hlo
    refine ⟨⟨by omega, by omega, ?_, h.len, rfl, .inr ⟨rfl, rfl⟩⟩, h4, h5⟩
    rw [show 64 * (k / 64) + k % 64 = k by omega, h.ho, sel_cut p h.hlo h3, sel_none h6, List.append_nil]
theorem LiJ.step {p : Nat → Bool} {lo m a x b n0 k d : Nat} {o : List Nat} (h : LiJ p lo m a x b n0 k o d) (hb : ∀ d, d < 64 → x.testBit d = p (64 * a + d)) (ha : a < 262144) (hl : o.length < m) : d < 64 ∧ LiJ p lo m a x b n0 (d + 1) (o ++ [64 * a + d]) (firstW x ((d : Int) + 1)) := by
  obtain ⟨e, he, h1, h2, h3⟩ := in_word hb ha h.hq (by omega)
  have : e = d := by omega
  subst this
  have hlo := h.hlo
  refine ⟨h1, by omega, by omega, ?_, by simp; omega, by congr 1, .inl ?_⟩
  · rw [h.ho, ← sel_next hlo h3]; rfl
  · have := h.more
    simp
    omega
theorem LiJ.end_ {p : Nat → Bool} {lo m a x b n0 k : Nat} {o : List Nat} {q q' : Int} (h : LiJ p lo m a x b n0 k o q) (hb : ∀ d, d < 64 → x.testBit d = p (64 * a + d)) (ha : a < 262144) (hb2 : x.testBit b = true) (hb3 : b < 64) (hn : n0 < m) (hq : q < 0 ∨ ¬ o.length < m) (hq' : o.length < m → q' = nxt p (64 * a + 64) 16777216) : n0 < o.length ∧ ∃ c, LiI p lo m c o q' := by
  have hne : n0 < o.length := by
    rcases h.more with h1 | ⟨rfl, h1⟩
    · exact h1
    · rcases hq with h2 | h2
      · exfalso
        rcases firstW_cases x k with ⟨_, h3⟩ | ⟨e, h3, _⟩
        · have := h3 k (by omega) hb3
          rw [hb2] at this
          cases this
        · have := h.hq; omega
      · omega
  refine ⟨hne, ?_⟩
  have hlo := h.hlo
  have hk := h.hk
  by_cases hl : o.length < m
  · have h1 : q < 0 := by
      rcases hq with h1 | h1
      · exact h1
      · exact absurd hl h1
    exact ⟨64 * a + 64, by omega, by omega, by rw [out_word hb h.hq h1 hk hlo]; exact h.ho, h.len, hq'⟩
  · exact ⟨64 * a + k, hlo, by omega, h.ho, h.len, fun h1 => absurd h1 hl⟩
theorem li_measure {m n0 n1 : Nat} (h : n0 < n1) (h2 : n1 ≤ m) : m - n1 < m - n0 := by omega
attribute [local irreducible] firstW sel lst nxt
set_option maxHeartbeats 1000000 in
theorem sclist_c {w : World} {D : Nat} {l : List NodeE} {ss : List Value} {Ss : Nat → List Nat} (hc : ScV w D l ss Ss) (n f most : Int) {o : List Nat} {z : Nat} (hr : Hid (lst (tel l Ss n) f.toNat 16777216 (min most 100000).toNat = o)) (hz : Hid (o.length = z)) :
    Calls Tryz.prog 103 #[ptr D, .int .i64 n, .int .i64 f, .int .i64 most] w fun e w' => ∃ A cp, e = .returned (.slice A z cp) ∧ St w [own A z cp 3 1 (ints (natI o))] w' := by
  have HC := Lib.hid hc
  obtain ⟨N, cap, P, cap2, hv⟩ := hc.view
  have HV := Lib.hid hv
  clear hc hv
  by_cases hn : 0 ≤ n ∧ n < l.length
  · obtain ⟨n, rfl⟩ := Int.eq_ofNat_of_zero_le hn.1
    have HN : Hid (n < l.length) := by have := hn.2; exact Int.ofNat_lt.1 this
    clear hn
    by_cases h0 : min most 100000 ≤ 0
    · have d0 : decide (min most 100000 ≤ 0) = true := decide_eq_true h0
      have HR : Hid (o = []) := by
        rw [Hid, ← hr.out, show (min most 100000).toNat = 0 by omega]
        unfold lst
        rfl
      have hl0 : z = 0 := by rw [← hz.out, HR.out]; rfl
      subst hl0
      clear h0
      go_enter Tryz.func103, Tryz.ntmps103
      go_wp2_with (first
        | (go_at_call 193; refine (over_c HV.out HC.out.ok HC.out.sets HN.out).mono ?_; rintro e w' ⟨K, R, rfl, HS, hs⟩))
      go_ret
      exact ⟨none, 0, rfl, by rw [HR.out]; exact (hs.own_nil 3 1).rot.drop⟩
    · obtain ⟨m, hm⟩ : ∃ m : Nat, min most 100000 = (m : Int) := ⟨(min most 100000).toNat, by omega⟩
      have hm1 : 0 < m := by omega
      have hm2 : m ≤ 100000 := by omega
      rw [hm, Int.toNat_natCast] at hr
      have d0 : decide (m = 0) = false := decide_eq_false (by omega)
      have HT := Lib.hid HC.out.tab
      obtain ⟨lo, hlo⟩ : ∃ lo, lo = min f.toNat 16777216 := ⟨_, rfl⟩
      have HR : Hid (lst (tel l Ss (n : Nat)) lo 16777216 m = o) := by
        rw [Hid, ← hr.out, hlo]
        unfold lst
        rw [sel_lo]
      have HNX : Hid (nxt (tel l Ss (n : Nat)) f.toNat 16777216 = nxt (tel l Ss (n : Nat)) lo 16777216) := by rw [Hid, hlo, nxt_min]
      have hlo2 : lo ≤ 16777216 := by omega
      obtain ⟨q0, HQ0⟩ : ∃ q, Hid (nxt (tel l Ss (n : Nat)) lo 16777216 = q) := ⟨_, rfl⟩
      rw [HQ0.out] at HNX
      clear h0 hlo hr
      go_enter Tryz.func103, Tryz.ntmps103
      go_wp2_with (first
        | (go_at_call 193; refine (over_c HV.out HC.out.ok HC.out.sets HN.out).mono ?_; rintro e w' ⟨K, R, rfl, HS, hs⟩)
        | (go_at_call 194; refine (scnext_c HS HT hs f HNX).mono ?_; clear hs; rintro e w' ⟨rfl, hs⟩))
      replace hs := hs.own_nil 3 1
      have hst : LiI (tel l Ss (n : Nat)) lo m lo [] q0 := ⟨Nat.le_refl _, hlo2, (sel_empty (Nat.le_refl _)).symm, Nat.zero_le _, fun _ => HQ0.out.symm⟩
      go_loopw [11, 12] (fun ov iv wr => ∃ (c : Nat) (A : Option Addr) (cp : Nat) (o : List Nat) (z : Nat) (q : Int), ov = .slice A z cp ∧ iv = .int .i64 q ∧ Hid (o.length = z) ∧ LiI (tel l Ss (n : Nat)) lo m c o q ∧ St w [own A z cp 3 1 (ints (natI o)), WkB K D n R] wr) (fun ov _ _ => m - lenV ov)
      case atStart => exact ⟨lo, none, 0, [], 0, q0, rfl, rfl, rfl, hst, hs⟩
      case round =>
        clear hs hst
        obtain ⟨c, A, cp, o2, z2, q, rfl, rfl, HZ, HI, hs⟩ := hrel
        by_cases hg : 0 ≤ q ∧ z2 < m
        · obtain ⟨hq, hlt⟩ := hg
          obtain ⟨i, rfl⟩ := Int.eq_ofNat_of_zero_le hq
          obtain ⟨hJ, hi24, hpi⟩ := HI.word (by rw [HZ.out]; exact hlt) (x := scW l Ss n 0 ((i / 64 : Nat) : Int))
          obtain ⟨a, ha⟩ : ∃ a, i / 64 = a := ⟨_, rfl⟩
          obtain ⟨b, hb⟩ : ∃ b, i % 64 = b := ⟨_, rfl⟩
          rw [ha, hb] at hJ
          have ha2 : a < 262144 := by omega
          have hb2 : b < 64 := by omega
          obtain ⟨x, HX⟩ : ∃ x, Hid (scW l Ss n 0 (a : Nat) = x) := ⟨_, rfl⟩
          rw [HX.out] at hJ
          have HX64 : Hid (x < 2 ^ 64) := by rw [Hid, ← HX.out]; exact scW_lt _ _ _ _ _
          have HB : Hid (∀ d, d < 64 → x.testBit d = tel l Ss (n : Nat) (64 * a + d)) := fun d hd => by
            rw [← HX.out, scW_in ⟨by decide, by decide, by omega, by simp; omega⟩]
            exact mayW_tell2 HN.out ha2 hd
          have hxb : Hid (x.testBit b = true) := by rw [Hid, HB.out b hb2, show 64 * a + b = i by omega]; exact hpi
          have hd1 : (i : Int) / 64 = (a : Int) := by omega
          have hd2 : bits .and .i64 (i : Int) 63 = (b : Int) := by rw [i64_and63 i (by omega), hb]
          have d1 : decide (z2 < m) = true := decide_eq_true hlt
          have HZ2 := Lib.hid HZ.out
          rw [HZ.out] at hJ
          clear ha hb hpi HI
          replace hs := hs.rot
          have hT := HT.out.st hs
          go_wp2_with (first
            | (go_at_call 195; refine (scword_c HS.out hs _ _ HX).mono ?_; clear hs hT; rintro e w' ⟨rfl, hs⟩; have hT := HT.out.st hs)
            | (go_at_call 196; refine (first_c HX64.out _ _ hT).mono ?_; rintro e w' ⟨rfl, rfl⟩))
          replace hs := hs.rot
          clear hd1 hd2 hq
          go_loopw [11, 15] (fun ov dv wr => ∃ (k : Nat) (A : Option Addr) (cp : Nat) (o : List Nat) (z : Nat) (q : Int), ov = .slice A z cp ∧ dv = .int .i64 q ∧ Hid (o.length = z) ∧ LiJ (tel l Ss (n : Nat)) lo m a x b z2 k o q ∧ St w [own A z cp 3 1 (ints (natI o)), WkB K D n R] wr) (fun _ dv _ => downM (intOf dv))
          case atStart => exact ⟨b, A, cp, o2, z2, _, rfl, rfl, HZ2, hJ, hs⟩
          case round =>
            clear hs hJ hT
            obtain ⟨k, A, cp, o3, z3, q, rfl, rfl, HZ3, HJ, hs⟩ := hrel
            by_cases hg : 0 ≤ q ∧ z3 < m
            · obtain ⟨hq, hlt3⟩ := hg
              obtain ⟨d, rfl⟩ := Int.eq_ofNat_of_zero_le hq
              obtain ⟨hd64, hJ2⟩ := HJ.step HB.out ha2 (by rw [HZ3.out]; exact hlt3)
              have HZ4 : Hid ((o3 ++ [64 * a + d]).length = z3 + 1) := by rw [Hid, List.length_append, HZ3.out]; rfl
              have ho := or_up ha2 hd64
              have HO := Lib.hid (natI_snoc o3 (64 * a + d))
              generalize 64 * a + d = v at *
              have HM := Lib.hid (downM_first x d hd64)
              have HJ2 := Lib.hid hJ2
              have hT := HT.out.st hs
              have d2 : decide (z3 < m) = true := decide_eq_true hlt3
              have hz3 : z3 < 100000 := by omega
              clear HJ hq hJ2 hlt3
              go_wp2_with (first
                | (refine wpl_build1 (v := .int .i64 (v : Nat)) elem24 (by decide) rfl rfl hs ?_; clear hs; intro g w1 hs)
                | (refine wpl_append (B := some ⟨g, 0, none⟩) (m := 1) (news := [.int .i64 (v : Nat)]) elem24 rfl rfl hs (Ent.skip (Ent.refl _)) RdS.blk rfl (ints_one (v : Int)) (by unfold maxLen; omega) (by omega) ?_; clear hs; intro A2 cp2 w2 hs; rw [HO.out] at hs; replace hs := hs.rot.drop; have hT := HT.out.st hs)
                | (go_at_call 196; refine (first_c HX64.out _ _ hT).mono ?_; rintro e w' ⟨rfl, rfl⟩))
              go_roundw
              case rel => exact ⟨d + 1, A2, cp2, _, z3 + 1, _, rfl, rfl, HZ4, HJ2.out, hs⟩
              case measure => exact HM.out
            · obtain ⟨q', HQ'⟩ : ∃ q', Hid (nxt (tel l Ss (n : Nat)) (64 * a + 64) 16777216 = q') := ⟨_, rfl⟩
              have hend : q < 0 ∨ ¬ o3.length < m := by rw [HZ3.out]; omega
              by_cases hl3 : z3 < m
              · obtain ⟨hne, c2, hI2⟩ := HJ.end_ (q' := q') HB.out ha2 hxb.out hb2 hlt hend (fun _ => HQ'.out.symm)
                rw [HZ3.out] at hne
                have hq2 : q < 0 := by omega
                have HM := Lib.hid (li_measure hne (by omega : z3 ≤ m))
                have HI2 := Lib.hid hI2
                have d2 : decide (z3 < m) = true := decide_eq_true hl3
                have HQ2 : Hid (nxt (tel l Ss (n : Nat)) (((a : Int) + 1) * 64).toNat 16777216 = q') := by rw [Hid, ← HQ'.out]; congr 1; omega
                replace hs := hs.rot
                have HLT := Lib.hid hlt
                clear HJ hend hg hne hI2 hl3 hi24 d1 hlt
                go_wp2_with (first
                  | (go_at_call 194; refine (scnext_c HS HT hs _ HQ2).mono ?_; clear hs; rintro e w' ⟨rfl, hs⟩))
                replace hs := hs.rot
                go_roundw
                case rel => exact ⟨c2, A, cp, o3, z3, q', rfl, rfl, HZ3, HI2.out, hs⟩
                case measure => exact HM.out
              · obtain ⟨hne, c2, hI2⟩ := HJ.end_ (q' := (i : Int)) HB.out ha2 hxb.out hb2 hlt hend (fun h => absurd h (by rw [HZ3.out]; exact hl3))
                rw [HZ3.out] at hne
                have hzm : z3 ≤ m := by have := HJ.len; rw [HZ3.out] at this; exact this
                have HM := Lib.hid (li_measure hne hzm)
                have HI2 := Lib.hid hI2
                have d2 : decide (z3 < m) = false := decide_eq_false hl3
                clear HJ hend hg hne hI2 hl3 hi24 d1 hlt hzm
                by_cases hq : 0 ≤ q
                · go_wp2
                  go_roundw
                  case rel => exact ⟨c2, A, cp, o3, z3, _, rfl, rfl, HZ3, HI2.out, hs⟩
                  case measure => exact HM.out
                · go_wp2
                  go_roundw
                  case rel => exact ⟨c2, A, cp, o3, z3, _, rfl, rfl, HZ3, HI2.out, hs⟩
                  case measure => exact HM.out
        · have HE : Hid (o2 = o) := by
            rw [Hid, ← HR.out]
            exact (HI.done (by rw [HZ.out]; omega)).symm
          have HZE : Hid (z2 = z) := by rw [Hid, ← HZ.out, HE.out, hz.out]
          clear HI
          by_cases hq : 0 ≤ q
          · have d1 : decide (z2 < m) = false := decide_eq_false (by omega)
            clear hg
            go_wp2
            go_ret
            have h1 := HE.out
            have h2 := HZE.out
            subst h1 h2
            exact ⟨A, cp, rfl, hs.rot.drop⟩
          · clear hg
            go_wp2
            go_ret
            have h1 := HE.out
            have h2 := HZE.out
            subst h1 h2
            exact ⟨A, cp, rfl, hs.rot.drop⟩
  · skip
    have HN : Hid (n < 0 ∨ (l.length : Int) ≤ n) := by rw [Hid]; omega
    have HR : Hid (o = []) := by
      rw [Hid, ← hr.out]
      unfold lst
      rw [sel_none fun i _ _ => tel_out HN.out i, List.take_nil]
    have hl0 : z = 0 := by rw [← hz.out, HR.out]; rfl
    subst hl0
    have hs := (St.start w).own_nil 3 1
    clear hn
    go_enter Tryz.func103, Tryz.ntmps103
    go_wp2_with (first
      | (go_at_call 193; refine (over_none HV.out HN.out).mono ?_; rintro e w' ⟨rfl, rfl⟩))
    go_ret
    exact ⟨none, 0, rfl, by rw [HR.out]; exact hs⟩
end Go.Proofs.YtcnbmfaicbkhcaaGreatDoor
