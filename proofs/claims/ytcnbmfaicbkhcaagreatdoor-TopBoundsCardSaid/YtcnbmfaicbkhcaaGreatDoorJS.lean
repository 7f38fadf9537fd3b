/-
  XJS: joined of XHtLaw XHt XHt2 XHt3 XHt4 XHt5 XHtLaw2 XHt6 XHt7 XHt8 XHt9.
-/
import Derived.Test.YtcnbmfaicbkhcaaGreatDoorJB
import Derived.Test.YtcnbmfaicbkhcaaGreatDoorJQ
/-
  A table that is found by sums: plain law. No function of the program stands here.
-/
set_option maxRecDepth 100000
namespace Go.Proofs.YtcnbmfaicbkhcaaGreatDoor
open Go Go.RowKit

/-- A slot: empty, a tomb, or an index with its value. -/
inductive HS where
  | e : HS
  | t : HS
  | f : Nat → V3 → HS
def HS.isE : HS → Bool
  | .e => true
  | _ => false
def HS.isF : HS → Bool
  | .f _ _ => true
  | _ => false
def HS.isT : HS → Bool
  | .t => true
  | _ => false
def homeN (n i : Nat) : Nat := i * 2654435761 % 4294967296 / (4294967296 / n)
def Pow (n : Nat) : Prop := ∃ k, 3 ≤ k ∧ k ≤ 18 ∧ n = 2 ^ k
theorem Pow.pos {n : Nat} (h : Pow n) : 8 ≤ n ∧ n ≤ 262144 := by
  obtain ⟨k, h1, h2, rfl⟩ := h
  exact ⟨Nat.pow_le_pow_right (n := 2) (by decide) h1, Nat.pow_le_pow_right (n := 2) (by decide) h2⟩
theorem Pow.dvd {n : Nat} (h : Pow n) : 4294967296 / n * n = 4294967296 := by
  obtain ⟨k, h1, h2, rfl⟩ := h
  have : (4294967296 : Nat) = 2 ^ (32 - k) * 2 ^ k := by rw [← Nat.pow_add, show 32 - k + k = 32 by omega]
  rw [this, Nat.mul_div_cancel _ (Nat.two_pow_pos k)]
theorem homeN_lt {n : Nat} (h : Pow n) (i : Nat) : homeN n i < n := by
  unfold homeN
  have hp := h.pos
  have hd := h.dvd
  have hq : 0 < 4294967296 / n := Nat.div_pos (by omega) (by omega)
  rw [Nat.div_lt_iff_lt_mul hq, Nat.mul_comm n, hd]
  exact Nat.mod_lt _ (by decide)
/-- The d-th slot that is looked at. -/
def at_ (n i d : Nat) : Nat := (homeN n i + d) % n
theorem at_lt {n : Nat} (h : Pow n) (i d : Nat) : at_ n i d < n := Nat.mod_lt _ (by have := h.pos; omega)
theorem at_zero {n : Nat} (h : Pow n) (i : Nat) : at_ n i 0 = homeN n i := by
  unfold at_
  rw [Nat.add_zero, Nat.mod_eq_of_lt (homeN_lt h i)]
theorem at_succ {n : Nat} (h : Pow n) (i d : Nat) : at_ n i (d + 1) = (at_ n i d + 1) % n := by
  have := h.pos
  unfold at_
  rw [← Nat.add_assoc, Nat.mod_add_mod]
theorem at_inj {n : Nat} (h : Pow n) {i d e : Nat} (hd : d < n) (he : e < n) (heq : at_ n i d = at_ n i e) : d = e := by
  have hh := homeN_lt h i
  unfold at_ at heq
  have h1 : (homeN n i + d) % n = if homeN n i + d < n then homeN n i + d else homeN n i + d - n := by
    split
    · exact Nat.mod_eq_of_lt (by assumption)
    · rw [Nat.mod_eq_sub_mod (by omega), Nat.mod_eq_of_lt (by omega)]
  have h2 : (homeN n i + e) % n = if homeN n i + e < n then homeN n i + e else homeN n i + e - n := by
    split
    · exact Nat.mod_eq_of_lt (by assumption)
    · rw [Nat.mod_eq_sub_mod (by omega), Nat.mod_eq_of_lt (by omega)]
  rw [h1, h2] at heq
  split at heq <;> split at heq <;> omega
theorem at_onto {n : Nat} (h : Pow n) (i : Nat) {p : Nat} (hp : p < n) : ∃ d, d < n ∧ at_ n i d = p := by
  have hh := homeN_lt h i
  by_cases hc : homeN n i ≤ p
  · refine ⟨p - homeN n i, by omega, ?_⟩
    unfold at_
    rw [show homeN n i + (p - homeN n i) = p by omega, Nat.mod_eq_of_lt hp]
  · refine ⟨p + n - homeN n i, by omega, ?_⟩
    unfold at_
    rw [show homeN n i + (p + n - homeN n i) = p + n by omega, Nat.add_mod_right, Nat.mod_eq_of_lt hp]
/-- On the way to the d-th slot nothing is empty, nothing is the index's. -/
def Path (n : Nat) (l : List HS) (i d : Nat) : Prop := ∀ j, j < d → ∃ s : HS, l[at_ n i j]? = some s ∧ s.isE = false ∧ ∀ v, s ≠ HS.f i v
theorem Path.mono {n : Nat} {l : List HS} {i d e : Nat} (h : Path n l i d) (he : e ≤ d) : Path n l i e := fun j hj => h j (by omega)
theorem Path.succ {n : Nat} {l : List HS} {i d : Nat} {s : HS} (h : Path n l i d) (hs : l[at_ n i d]? = some s) (h1 : s.isE = false) (h2 : ∀ v, s ≠ HS.f i v) : Path n l i (d + 1) := fun j hj => by
  by_cases e : j = d
  · subst e; exact ⟨s, hs, h1, h2⟩
  · exact h j (by omega)
/-- A path in a table of which one slot that was not full has become another index's, or a full one a tomb. -/
theorem Path.set {n : Nat} {l : List HS} {i d q : Nat} {s : HS} (h : Path n l i d) (h1 : s.isE = false) (h2 : ∀ v, s ≠ HS.f i v) : Path n (l.set q s) i d := fun j hj => by
  obtain ⟨s', hs, h3, h4⟩ := h j hj
  rw [List.getElem?_set]
  split
  · rename_i e
    rw [if_pos (by rw [e]; exact (List.getElem?_eq_some_iff.1 hs).1)]
    exact ⟨s, rfl, h1, h2⟩
  · exact ⟨s', hs, h3, h4⟩
structure HtOk (n : Nat) (l : List HS) (S : List Nat) (g : Nat → V3) (left : Nat) : Prop where
  pow : Pow n
  len : l.length = n
  sorted : S.Pairwise (· < ·)
  small : ∀ i ∈ S, i < 65536
  full : ∀ (p i : Nat) (v : V3), l[p]? = some (HS.f i v) → i ∈ S ∧ v = g i ∧ ∃ d, d < n ∧ at_ n i d = p ∧ Path n l i d
  has : ∀ i ∈ S, ∃ p : Nat, l[p]? = some (HS.f i (g i))
  cf : (l.filter HS.isF).length = S.length
  ct : (l.filter HS.isT).length = left
/-- There is room. -/
theorem HtOk.room {n : Nat} {l : List HS} {S : List Nat} {g : Nat → V3} {left : Nat} (h : HtOk n l S g left) (hr : S.length + left < n) : ∃ p : Nat, p < n ∧ l[p]? = some HS.e := by
  refine Classical.byContradiction fun hno => ?_
  have key : ∀ l : List HS, (∀ s ∈ l, s.isE = false) → (l.filter HS.isF).length + (l.filter HS.isT).length = l.length := by
    intro l
    induction l with
    | nil => intro _; rfl
    | cons s l ih =>
      intro hs
      have h1 := ih fun x hx => hs x (List.mem_cons_of_mem _ hx)
      have h2 := hs s List.mem_cons_self
      cases s with
      | e => cases h2
      | t =>
        rw [List.filter_cons_of_neg (by simp [HS.isF]), List.filter_cons_of_pos (by simp [HS.isT])]
        simp only [List.length_cons]; omega
      | f i v =>
        rw [List.filter_cons_of_pos (by simp [HS.isF]), List.filter_cons_of_neg (by simp [HS.isT])]
        simp only [List.length_cons]; omega
  have := key l fun s hs => by
    obtain ⟨p, hp, he⟩ := List.getElem_of_mem hs
    cases s with
    | e => exact absurd ⟨p, by rw [← h.len]; exact hp, by rw [List.getElem?_eq_getElem hp, he]⟩ hno
    | t => rfl
    | f i v => rfl
  have h1 := h.cf
  have h2 := h.ct
  have h3 := h.len
  omega
theorem HtOk.one {n : Nat} {l : List HS} {S : List Nat} {g : Nat → V3} {left i p q : Nat} {v u : V3} (h : HtOk n l S g left) (h1 : l[p]? = some (HS.f i v)) (h2 : l[q]? = some (HS.f i u)) : p = q := by
  obtain ⟨_, _, d, hd, ha, hp⟩ := h.full p i v h1
  obtain ⟨_, _, e, he, hb, hq⟩ := h.full q i u h2
  rcases Nat.lt_trichotomy d e with hlt | rfl | hlt
  · obtain ⟨s, h3, _, h4⟩ := hq d hlt
    rw [ha, h1] at h3
    injection h3 with h3
    exact absurd h3.symm (h4 v)
  · rw [← ha, ← hb]
  · obtain ⟨s, h3, _, h4⟩ := hp e hlt
    rw [hb, h2] at h3
    injection h3 with h3
    exact absurd h3.symm (h4 u)
theorem filter_set {α : Type} {p : α → Bool} : ∀ {l : List α} {k : Nat} {a b : α}, l[k]? = some a → ((l.set k b).filter p).length + (if p a then 1 else 0) = (l.filter p).length + (if p b then 1 else 0)
  | [], k, a, b, h => by simp at h
  | x :: l, 0, a, b, h => by
    simp at h
    subst h
    rw [List.set_cons_zero, List.filter_cons, List.filter_cons]
    cases p x <;> cases p b <;> simp <;> omega
  | x :: l, k + 1, a, b, h => by
    have := filter_set (p := p) (l := l) (k := k) (a := a) (b := b) (by simpa using h)
    rw [List.set_cons_succ, List.filter_cons, List.filter_cons]
    cases hx : p x <;> simp <;> omega
def updG (g : Nat → V3) (i : Nat) (v : V3) : Nat → V3 := fun j => if j = i then v else g j
/-- A new index comes to a slot that is free on its way. -/
theorem HtOk.put {n : Nat} {l : List HS} {S : List Nat} {g : Nat → V3} {left i d : Nat} {s : HS} (h : HtOk n l S g left) (hi : i ∉ S) (hi6 : i < 65536) (hd : d < n) (hp : Path n l i d) (hs : l[at_ n i d]? = some s) (hf : s.isF = false) (v : V3) :
    HtOk n (l.set (at_ n i d) (.f i v)) (insS i S) (updG g i v) (left - if s.isT then 1 else 0) := by
  have hql : at_ n i d < l.length := (List.getElem?_eq_some_iff.1 hs).1
  refine ⟨h.pow, by rw [List.length_set]; exact h.len, sorted_insS h.sorted, fun j hj => ?_, fun p j u hu => ?_, fun j hj => ?_, ?_, ?_⟩
  · rcases mem_insS.1 hj with rfl | hj
    · exact hi6
    · exact h.small j hj
  · rw [List.getElem?_set] at hu
    split at hu
    · rename_i e
      try rw [if_pos hql] at hu
      injection hu with hu
      injection hu with h1 h2
      subst h1 h2
      refine ⟨mem_insS.2 (.inl rfl), by simp [updG], d, hd, e, fun j hj => ?_⟩
      obtain ⟨s', h3, h4, h5⟩ := hp j hj
      rw [List.getElem?_set, if_neg (fun e2 => by have := at_inj h.pow (i := i) (d := d) (e := j) hd (by omega) e2; omega)]
      exact ⟨s', h3, h4, h5⟩
    · obtain ⟨h1, h2, d', h3, h4, h5⟩ := h.full p j u hu
      have hne : j ≠ i := fun e => hi (e ▸ h1)
      refine ⟨mem_insS.2 (.inr h1), by rw [h2]; simp [updG, hne], d', h3, h4, h5.set rfl fun v' e => ?_⟩
      injection e with e1 e2
      exact hne e1.symm
  · rcases mem_insS.1 hj with rfl | hj
    · exact ⟨at_ n j d, by rw [List.getElem?_set, if_pos rfl, if_pos hql]; simp [updG]⟩
    · obtain ⟨p, h1⟩ := h.has j hj
      have hne : j ≠ i := fun e => hi (e ▸ hj)
      refine ⟨p, ?_⟩
      rw [List.getElem?_set, if_neg (fun e => by
        rw [← e, hs] at h1
        injection h1 with h1
        subst h1
        cases hf), h1]
      simp [updG, hne]
  · have := filter_set (p := HS.isF) (b := HS.f i v) hs
    rw [hf] at this
    simp [HS.isF] at this
    rw [this, len_insS hi, h.cf]
  · have := filter_set (p := HS.isT) (b := HS.f i v) hs
    have h0 : (HS.f i v).isT = false := rfl
    rw [h0] at this
    simp only [Bool.false_eq_true, if_false, Nat.add_zero] at this
    rw [h.ct] at this
    omega
/-- A value is turned. -/
theorem HtOk.turn {n : Nat} {l : List HS} {S : List Nat} {g : Nat → V3} {left i p : Nat} {u : V3} (h : HtOk n l S g left) (hp : l[p]? = some (.f i u)) (v : V3) : HtOk n (l.set p (.f i v)) S (updG g i v) left := by
  have hpl : p < l.length := (List.getElem?_eq_some_iff.1 hp).1
  have path : ∀ {j d : Nat}, d ≤ n → (∀ d', d' < d → at_ n j d' ≠ p ∨ j ≠ i) → Path n l j d → Path n (l.set p (.f i v)) j d := fun {j d} _ hne hq k hk => by
    obtain ⟨s, h1, h2, h3⟩ := hq k hk
    rw [List.getElem?_set]
    split
    · rename_i e
      try rw [if_pos hpl]
      refine ⟨_, rfl, rfl, fun v' e' => ?_⟩
      injection e' with e1 e2
      rcases hne k hk with h4 | h4
      · exact h4 e.symm
      · exact h4 e1.symm
    · exact ⟨s, h1, h2, h3⟩
  refine ⟨h.pow, by rw [List.length_set]; exact h.len, h.sorted, h.small, fun q j w hw => ?_, fun j hj => ?_, ?_, ?_⟩
  · rw [List.getElem?_set] at hw
    split at hw
    · rename_i e
      try rw [if_pos hpl] at hw
      injection hw with hw
      injection hw with h1 h2
      subst h1 h2 e
      obtain ⟨h3, _, d, h5, h6, h7⟩ := h.full p i u hp
      refine ⟨h3, by simp [updG], d, h5, h6, path (by omega) (fun d' hd' => .inl fun e => ?_) h7⟩
      have := at_inj h.pow (i := i) (d := d') (e := d) (by omega) h5 (by rw [e, h6])
      omega
    · rename_i e
      obtain ⟨h3, h4, d, h5, h6, h7⟩ := h.full q j w hw
      have hne : j ≠ i := fun e2 => by
        subst e2
        exact e (h.one hp hw)
      exact ⟨h3, by rw [h4]; simp [updG, hne], d, h5, h6, path (by omega) (fun _ _ => .inr hne) h7⟩
  · obtain ⟨q, h1⟩ := h.has j hj
    by_cases hne : j = i
    · subst hne
      exact ⟨p, by rw [List.getElem?_set, if_pos rfl, if_pos hpl]; simp [updG]⟩
    · refine ⟨q, ?_⟩
      rw [List.getElem?_set, if_neg (fun e => by
        subst e
        rw [hp] at h1
        injection h1 with h1
        injection h1 with h1 _
        exact hne h1.symm), h1]
      simp [updG, hne]
  · have := filter_set (p := HS.isF) (b := HS.f i v) hp
    simp [HS.isF] at this
    rw [← h.cf, ← this]
  · have := filter_set (p := HS.isT) (b := HS.f i v) hp
    simp [HS.isT] at this
    rw [← h.ct, ← this]
/-- An index goes: a tomb stays. -/
theorem HtOk.take {n : Nat} {l : List HS} {S : List Nat} {g : Nat → V3} {left i p : Nat} {u : V3} (h : HtOk n l S g left) (hp : l[p]? = some (.f i u)) : HtOk n (l.set p .t) (delS i S) g (left + 1) := by
  have hpl : p < l.length := (List.getElem?_eq_some_iff.1 hp).1
  have hi := (h.full p i u hp).1
  refine ⟨h.pow, by rw [List.length_set]; exact h.len, sorted_delS h.sorted, fun j hj => h.small j (mem_delS.1 hj).1, fun q j w hw => ?_, fun j hj => ?_, ?_, ?_⟩
  · rw [List.getElem?_set] at hw
    split at hw
    · try rw [if_pos hpl] at hw
      cases hw
    · rename_i e
      obtain ⟨h3, h4, d, h5, h6, h7⟩ := h.full q j w hw
      have hne : j ≠ i := fun e2 => by
        subst e2
        exact e (h.one hp hw)
      exact ⟨mem_delS.2 ⟨h3, hne⟩, h4, d, h5, h6, h7.set rfl fun v' e' => by cases e'⟩
  · obtain ⟨hj1, hne⟩ := mem_delS.1 hj
    obtain ⟨q, h1⟩ := h.has j hj1
    refine ⟨q, ?_⟩
    rw [List.getElem?_set, if_neg (fun e => by
      subst e
      rw [hp] at h1
      injection h1 with h1
      injection h1 with h1 _
      exact hne h1.symm), h1]
  · have := filter_set (p := HS.isF) (b := HS.t) hp
    simp [HS.isF] at this
    have h2 := len_delS (sorted_nodup h.sorted) hi
    have h3 := h.cf
    omega
  · have := filter_set (p := HS.isT) (b := HS.t) hp
    simp [HS.isT] at this
    have h3 := h.ct
    omega
theorem HtOk.fresh {n : Nat} (h : Pow n) (g : Nat → V3) : HtOk n (List.replicate n .e) [] g 0 := by
  refine ⟨h, by simp, List.Pairwise.nil, fun _ h => absurd h List.not_mem_nil, fun p i v hv => ?_, fun _ h => absurd h List.not_mem_nil, ?_, ?_⟩
  · rw [List.getElem?_replicate] at hv
    split at hv <;> cases hv
  · rw [List.filter_replicate]; simp [HS.isF]
  · rw [List.filter_replicate]; simp [HS.isT]
end Go.Proofs.YtcnbmfaicbkhcaaGreatDoor

/-
  The contracts of values found by sums (hash): Home, find.
-/
set_option maxRecDepth 100000
namespace Go.Proofs.YtcnbmfaicbkhcaaGreatDoor
open Go Go.RowKit
attribute [local irreducible] wpList Calls Code.wp okI okN pS memS getG homeN

/-! ### Home -/
theorem and_pow {k : Nat} (hk : k ≤ 18) : bits .and .i64 ((2 ^ k : Nat) : Int) ((2 ^ k : Nat) - 1 : Int) = 0 := by
  have h1 : 1 ≤ 2 ^ k := Nat.one_le_two_pow
  have h2 : 2 ^ k ≤ 2 ^ 18 := Nat.pow_le_pow_right (by decide) hk
  rw [show ((2 ^ k : Nat) - 1 : Int) = ((2 ^ k - 1 : Nat) : Int) by omega]
  show IntKind.i64.wrap ((BitVec.ofInt 64 ((2 ^ k : Nat) : Int) &&& BitVec.ofInt 64 ((2 ^ k - 1 : Nat) : Int)).toNat : Int) = 0
  rw [BitVec.toNat_and, ofInt_u64 _ (by omega), ofInt_u64 _ (by omega), Nat.and_two_pow_sub_one_eq_mod, Nat.mod_self]
  decide
theorem home_c {w : World} {i n : Nat} (hi : i < 65536) (hn : Pow n) :
    Calls Tryz.prog 407 #[.int .i64 (i : Nat), .int .i64 (n : Nat)] w fun e w' => e = .returned (.int .i64 (homeN n i : Nat)) ∧ w = w' := by
  obtain ⟨k, hk3, hk, rfl⟩ := hn
  have HA := Lib.hid (and_pow hk)
  have hp := Pow.pos ⟨k, hk3, hk, rfl⟩
  have HH : Hid (i * 2654435761 % 4294967296 / (4294967296 / 2 ^ k) = homeN (2 ^ k) i) := by unfold homeN; rfl
  generalize 2 ^ k = n at hp HA HH ⊢
  have d0 : decide ((i : Int) < 0) = false := decide_eq_false (by omega)
  have d1 : decide (65536 ≤ (i : Int)) = false := decide_eq_false (by omega)
  have d2 : decide ((n : Int) < 8) = false := decide_eq_false (by omega)
  have d3 : decide (1048576 < (n : Int)) = false := decide_eq_false (by omega)
  have hq : 0 < 4294967296 / n := Nat.div_pos (by omega) (by omega)
  have hA : (bits .and .i64 (n : Int) ((n : Int) - 1) != 0) = false := by rw [HA.out]; rfl
  have hz : ¬ ((4294967296 : Int) / (n : Int) = 0) := by
    intro h
    have e : ((4294967296 / n : Nat) : Int) = (4294967296 : Int) / (n : Int) := by simp
    rw [h] at e
    omega
  have hqn : 4294967296 / n ≤ 4294967296 := Nat.div_le_self _ _
  have hr : i * 2654435761 % 4294967296 / (4294967296 / n) < 4294967296 := Nat.lt_of_le_of_lt (Nat.div_le_self _ _) (Nat.mod_lt _ (by decide))
  have HE : Hid (wrap64 (IntKind.u64.wrap (((i : Int) * 2654435761 % 4294967296).tdiv (4294967296 / (n : Int)))) = ((i * 2654435761 % 4294967296 / (4294967296 / n) : Nat) : Int)) := by
    rw [Hid, show ((i : Int) * 2654435761 % 4294967296) = ((i * 2654435761 % 4294967296 : Nat) : Int) by simp, show ((4294967296 : Int) / (n : Int)) = ((4294967296 / n : Nat) : Int) by simp, ← Int.ofNat_tdiv]
    generalize i * 2654435761 % 4294967296 / (4294967296 / n) = r at hr
    rw [IntKind.wrap_u64, wrap64]
    omega
  clear HA
  rw [← HH.out]
  clear HH
  go_enter Tryz.func407, Tryz.ntmps407
  go_wp2
  rw [HE.out]
  go_ret
  exact ⟨rfl, rfl⟩

/-! ### The table's block -/
def HS.kn : HS → Int
  | .e => 0
  | .f _ _ => 1
  | .t => 2
def HS.ix : HS → Int
  | .f i _ => (i : Nat)
  | _ => 0
def HS.vl : HS → V3
  | .f _ v => v
  | _ => V3.z
def c5 (s : HS) : List Value := .int .i64 s.kn :: .int .i64 s.ix :: c3 s.vl
def cs5 (l : List HS) : List Value := l.flatMap c5
theorem c5_len (s : HS) : (c5 s).length = 5 := rfl
theorem cs5_len (l : List HS) : (cs5 l).length = l.length * 5 := flat_len c5_len l
theorem c5_one (s : HS) : ∀ u ∈ c5 s, u.oneCell' = true := by
  intro u hu
  rcases List.mem_cons.1 hu with rfl | hu
  · rfl
  · rcases List.mem_cons.1 hu with rfl | hu
    · rfl
    · exact one3 s.vl u hu
abbrev htC (S : List Nat) (left : Nat) (A : Option Addr) (n cap : Nat) : Array Value := #[.int .i64 (S.length : Nat), .int .i64 (left : Nat), .slice A n cap]
def HtB (D : Nat) (S : List Nat) (g : Nat → V3) : As := fun h => ∃ l left A cap, (HtOk l.length l S g left ∧ 4 * (S.length + left) ≤ 3 * l.length) ∧ star (blk D (htC S left A l.length cap) 469) (own A l.length cap 513 5 (cs5 l)) h
theorem St.htopen {w0 w : World} {D : Nat} {S : List Nat} {g : Nat → V3} {L : List As} (hs : St w0 (HtB D S g :: L) w) :
    ∃ l left A cap, (HtOk l.length l S g left ∧ 4 * (S.length + left) ≤ 3 * l.length) ∧ St w0 (YtcnbmfaicbkhcaaGreatDoor.blk D (htC S left A l.length cap) 469 :: own A l.length cap 513 5 (cs5 l) :: L) w := by
  obtain ⟨hb, h, r, hd, hu, a, b, hab, rfl, ⟨l, left, A, cap, hok, ht⟩, hl⟩ := hs
  have h1 : St w0 (star (YtcnbmfaicbkhcaaGreatDoor.blk D (htC S left A l.length cap) 469) (own A l.length cap 513 5 (cs5 l)) :: L) w := ⟨hb, _, r, hd, hu, a, b, hab, rfl, ht, hl⟩
  exact ⟨l, left, A, cap, hok, h1.ent (Ent.open2 fun _ h => h)⟩
theorem St.htshut {w0 w : World} {D : Nat} {S : List Nat} {g : Nat → V3} {l : List HS} {left : Nat} {L : List As} {A : Option Addr} {cap : Nat} (hok : HtOk l.length l S g left) (hr : 4 * (S.length + left) ≤ 3 * l.length) (hs : St w0 (YtcnbmfaicbkhcaaGreatDoor.blk D (htC S left A l.length cap) 469 :: own A l.length cap 513 5 (cs5 l) :: L) w) : St w0 (HtB D S g :: L) w :=
  (hs.ent (Ent.shut2 fun _ h => h)).conv fun _ h => ⟨l, left, A, cap, ⟨hok, hr⟩, h⟩
theorem Rd.ht2 {w0 : World} {D n cap left : Nat} {S : List Nat} {A : Option Addr} {L : List As} {t : TypeId} : Rd w0 (YtcnbmfaicbkhcaaGreatDoor.blk D (htC S left A n cap) t :: L) ⟨D, 2, none⟩ (.slice A n cap) := Rd.blk rfl
theorem Rd.ht0 {w0 : World} {D n cap left : Nat} {S : List Nat} {A : Option Addr} {L : List As} {t : TypeId} : Rd w0 (YtcnbmfaicbkhcaaGreatDoor.blk D (htC S left A n cap) t :: L) ⟨D, 0, none⟩ (.int .i64 (S.length : Nat)) := Rd.blk rfl
theorem Rd.ht1 {w0 : World} {D n cap left : Nat} {S : List Nat} {A : Option Addr} {L : List As} {t : TypeId} : Rd w0 (YtcnbmfaicbkhcaaGreatDoor.blk D (htC S left A n cap) t :: L) ⟨D, 1, none⟩ (.int .i64 (left : Nat)) := Rd.blk rfl
theorem Rd.row5 {w0 : World} {g n cap i : Nat} {vs : List HS} {v : HS} {t : TypeId} {L : List As} (h : vs[i]? = some v) : ∀ j u, (c5 v)[j]? = some u → Rd w0 (YtcnbmfaicbkhcaaGreatDoor.own (some ⟨g, 0, none⟩) n cap t 5 (cs5 vs) :: L) ⟨g, i * 5 + j, none⟩ u :=
  fun j u hu => Rd.own (flat_get c5_len h j u hu)
def val5 (s : HS) : Value := .agg (c5 s).toArray
theorem size5 (s : HS) : (Tryz.prog.info? 513).map (·.size) = some (val5 s).cells.size := by kernel_rfl
theorem size5n (s : HS) : (Tryz.prog.info? 513).map (·.size) = some (c5 s).length := by kernel_rfl
theorem agg5 : aggB Tryz.prog 513 = true := by kernel_rfl
theorem zero5 : (Tryz.prog.info? 513).bind (·.zero) = some (val5 .e) := by kernel_rfl
theorem WrA.slot5 {w0 : World} {g : Nat} {u v : HS} {t : TypeId} {L : List As} : WrA w0 (YtcnbmfaicbkhcaaGreatDoor.blk g (c5 u).toArray t :: L) ⟨g, 0, none⟩ (val5 v).cells.toList (YtcnbmfaicbkhcaaGreatDoor.blk g (c5 v).toArray t :: L) := by
  have := WrA.blk (w0 := w0) (g := g) (o := 0) (cs := c5 u) (t := t) (vs := c5 v) (L := L) (by simp [c5_len]) (c5_one v)
  rwa [splice_all (by simp [c5_len])] at this
/-- How far a slot is from home. -/
theorem at_back {n : Nat} (h : Pow n) (i : Nat) {d : Nat} (hd : d < n) : (at_ n i d + n - homeN n i) % n = d := by
  have hh := homeN_lt h i
  have hp := h.pos
  by_cases hc : homeN n i + d < n
  · unfold at_
    rw [Nat.mod_eq_of_lt hc, show homeN n i + d + n - homeN n i = d + n by omega, Nat.add_mod_right, Nat.mod_eq_of_lt hd]
  · unfold at_
    have e : (homeN n i + d) % n = homeN n i + d - n := by rw [Nat.mod_eq_sub_mod (by omega), Nat.mod_eq_of_lt (by omega)]
    rw [e, show homeN n i + d - n + n - homeN n i = d by omega, Nat.mod_eq_of_lt hd]
/-- On the way to a full table's end there is an empty slot. -/
theorem Path.short {n : Nat} {l : List HS} {i d p : Nat} (h : Pow n) (hp : Path n l i d) (hpn : p < n) (he : l[p]? = some HS.e) : d < n := by
  obtain ⟨q, hq, rfl⟩ := at_onto h i hpn
  refine Classical.byContradiction fun hc => ?_
  obtain ⟨s, h1, h2, _⟩ := hp q (by omega)
  rw [he] at h1
  injection h1 with h1
  subst h1
  cases h2
theorem home_v {w : World} {i n : Nat} {x : Int} (hi : i < 65536) (hn : Pow n) (hx : Hid (((at_ n i 0 : Nat) : Int) = x)) :
    Calls Tryz.prog 407 #[.int .i64 (i : Nat), .int .i64 (n : Nat)] w fun e w' => e = .returned (.int .i64 x) ∧ w = w' := by
  rw [← hx.out, at_zero hn]; exact home_c hi hn
end Go.Proofs.YtcnbmfaicbkhcaaGreatDoor

/-
  The contracts of values found by sums (hash): find.
-/
set_option maxRecDepth 100000
namespace Go.Proofs.YtcnbmfaicbkhcaaGreatDoor
open Go Go.RowKit
attribute [local irreducible] wpList Calls Code.wp okI okN pS memS getG homeN at_

theorem at_next {n : Nat} (hn : Pow n) (i d : Nat) : (((at_ n i d : Nat) : Int) + 1) % (n : Int) = ((at_ n i (d + 1) : Nat) : Int) := by
  rw [at_succ hn]
  simp
set_option maxHeartbeats 1000000 in
/-- An index that is there. -/
theorem find_in {w0 w : World} {L : List As} {D left n : Nat} {S : List Nat} {g : Nat → V3} {l : List HS} {A : Option Addr} {cap i p : Nat} {v : V3} (hs : St w0 (blk D (htC S left A n cap) 469 :: own A n cap 513 5 (cs5 l) :: L) w) (hok : HtOk n l S g left) (hi : i < 65536) (hp : l[p]? = some (HS.f i v)) :
    Calls Tryz.prog 405 #[.pointer (some ⟨D, 0, none⟩), .int .i64 (i : Nat)] w fun e w' => e = .returned (.tuple #[.int .i64 (p : Nat), .int .i64 (-1)]) ∧ Grew w w' := by
  obtain ⟨hin, hgv, d0, hd0, hat, hpath⟩ := hok.full p i v hp
  clear hin hgv
  have hn := hok.pow
  have hnb := hn.pos
  have hlen := hok.len
  obtain ⟨gA, rfl⟩ := (hs.ent (Ent.swap _ _ _)).own_at (by omega)
  obtain ⟨x0, HX0⟩ : ∃ x, Hid (((at_ n i 0 : Nat) : Int) = x) := ⟨_, rfl⟩
  obtain ⟨K, H, hK0, hHAT, hP, hlt, hnext, hback⟩ : ∃ (K : Nat → Nat) (H : Nat), ((K 0 : Nat) : Int) = x0 ∧ K d0 = p ∧ (∀ j, j < d0 → ∃ s : HS, l[K j]? = some s ∧ s.isE = false ∧ ∀ v, s ≠ HS.f i v) ∧ (∀ d, K d < n) ∧ (∀ d, (((K d : Nat) : Int) + 1) % (n : Int) = ((K (d + 1) : Nat) : Int)) ∧ (∀ d, d < n → (K d + n - H) % n = d) :=
    ⟨at_ n i, homeN n i, HX0.out, hat, hpath, fun d => at_lt hn i d, fun d => at_next hn i d, fun d hd => at_back hn i hd⟩
  have HP := Lib.hid hP
  have HPP := Lib.hid hp
  have HAT := Lib.hid hHAT
  clear hP hHAT
  have hr2 := Rd.ht2 (w0 := w0) (D := D) (n := n) (cap := cap) (A := some ⟨gA, 0, none⟩) (S := S) (left := left) (t := 469) (L := own (some ⟨gA, 0, none⟩) n cap 513 5 (cs5 l) :: L)
  clear hpath hp hat hok
  have hc := hr2 _ hs
  go_enter Tryz.func405, Tryz.ntmps405
  go_wp2_with (first
    | (go_at_call 407; refine (home_v hi hn HX0).mono ?_; rintro e w' ⟨rfl, rfl⟩))
  clear hc
  go_loopw [5, 6] (fun fv kv wr => ∃ (d : Nat) (fr : Int), d ≤ d0 ∧ fv = .int .i64 fr ∧ kv = .int .i64 (K d : Nat) ∧ Grew w wr) (fun _ kv _ => n - ((intOf kv).toNat + n - H) % n)
  case atStart => exact ⟨0, -1, Nat.zero_le _, rfl, by rw [hK0], Grew.refl _⟩
  case round =>
    clear HX0 hK0
    obtain ⟨d, fr, hdd, rfl, rfl, hg⟩ := hrel
    have hd : d < n := by omega
    have hk := hlt d
    obtain ⟨s, hsd⟩ : ∃ s, l[K d]? = some s := ⟨_, List.getElem?_eq_getElem (by omega)⟩
    have hrv := fun j u hu => (Rd.row5 (w0 := w0) (g := gA) (n := n) (cap := cap) (t := 513) (L := L) hsd j u hu).tail (p := blk D (htC S left (some ⟨gA, 0, none⟩) n cap) 469)
    have hsr := hs.grew hg
    have hc := hr2 _ hsr
    have hw := St.start wr
    by_cases he : d = d0
    · subst he
      have e1 : s = HS.f i v := by
        have := HPP.out
        rw [← HAT.out, hsd] at this
        injection this
      subst e1
      clear hsd
      go_upto_region 5 with (first
        | (refine wpl_load_agg (cs := c5 (HS.f i v)) (b := gA) (o := K d * 5) rfl agg5 (size5n (HS.f i v)) hsr hrv ?_; clear hc)
        | (refine wpl_alloc zero5 hw ?_; clear hw; intro g7 w1 hw)
        | (refine wpl_store_agg (v := val5 (HS.f i v)) rfl rfl (size5 _) hw WrA.slot5 ?_; clear hw; intro w2 hw))
      have hc := hr2 _ (hsr.grew hw.made_grew)
      have k0 : w2.cell? ⟨g7, 0, none⟩ = some (.int .i64 (HS.kn (HS.f i v))) := Rd.blk (g := g7) (k := 0) (cs := (c5 (HS.f i v)).toArray) (t := 513) rfl _ hw
      have k1 : w2.cell? ⟨g7, 1, none⟩ = some (.int .i64 (HS.ix (HS.f i v))) := Rd.blk (g := g7) (k := 1) (cs := (c5 (HS.f i v)).toArray) (t := 513) rfl _ hw
      simp only [HS.kn, HS.ix] at k0 k1
      go_wp2
      go_ret2
      exact ⟨by rw [← HAT.out]; rfl, hg.trans hw.made_grew⟩
    · obtain ⟨s', hs1, hs2, hs3⟩ := HP.out d (by omega)
      rw [hsd] at hs1
      injection hs1 with hs1
      subst hs1
      cases s with
      | e => cases hs2
      | t =>
        clear hsd hs2 hs3
        by_cases hf : fr < 0
        · skip
          go_upto_region 5 with (first
            | (refine wpl_load_agg (cs := c5 (HS.t)) (b := gA) (o := K d * 5) rfl agg5 (size5n (HS.t)) hsr hrv ?_; clear hc)
            | (refine wpl_alloc zero5 hw ?_; clear hw; intro g7 w1 hw)
            | (refine wpl_store_agg (v := val5 (HS.t)) rfl rfl (size5 _) hw WrA.slot5 ?_; clear hw; intro w2 hw))
          have hc := hr2 _ (hsr.grew hw.made_grew)
          have k0 : w2.cell? ⟨g7, 0, none⟩ = some (.int .i64 (HS.kn (HS.t))) := Rd.blk (g := g7) (k := 0) (cs := (c5 (HS.t)).toArray) (t := 513) rfl _ hw
          have k1 : w2.cell? ⟨g7, 1, none⟩ = some (.int .i64 (HS.ix (HS.t))) := Rd.blk (g := g7) (k := 1) (cs := (c5 (HS.t)).toArray) (t := 513) rfl _ hw
          simp only [HS.kn, HS.ix] at k0 k1
          go_wp2
          have hnx := hnext d
          refine ⟨⟨d + 1, (K d : Nat), by omega, rfl, by rw [hnx], hg.trans hw.made_grew⟩, ?_⟩
          rw [hnx]
          simp only [intOf, Int.toNat_natCast]
          rw [hback d hd, hback (d + 1) (by omega)]
          omega
        · skip
          go_upto_region 5 with (first
            | (refine wpl_load_agg (cs := c5 (HS.t)) (b := gA) (o := K d * 5) rfl agg5 (size5n (HS.t)) hsr hrv ?_; clear hc)
            | (refine wpl_alloc zero5 hw ?_; clear hw; intro g7 w1 hw)
            | (refine wpl_store_agg (v := val5 (HS.t)) rfl rfl (size5 _) hw WrA.slot5 ?_; clear hw; intro w2 hw))
          have hc := hr2 _ (hsr.grew hw.made_grew)
          have k0 : w2.cell? ⟨g7, 0, none⟩ = some (.int .i64 (HS.kn (HS.t))) := Rd.blk (g := g7) (k := 0) (cs := (c5 (HS.t)).toArray) (t := 513) rfl _ hw
          have k1 : w2.cell? ⟨g7, 1, none⟩ = some (.int .i64 (HS.ix (HS.t))) := Rd.blk (g := g7) (k := 1) (cs := (c5 (HS.t)).toArray) (t := 513) rfl _ hw
          simp only [HS.kn, HS.ix] at k0 k1
          go_wp2
          have hnx := hnext d
          refine ⟨⟨d + 1, fr, by omega, rfl, by rw [hnx], hg.trans hw.made_grew⟩, ?_⟩
          rw [hnx]
          simp only [intOf, Int.toNat_natCast]
          rw [hback d hd, hback (d + 1) (by omega)]
          omega
      | f j u =>
        have hne : j ≠ i := fun e => hs3 u (by rw [e])
        have hjb : ((j : Int) == (i : Int)) = false := by simp; omega
        clear hsd hs2 hs3
        go_upto_region 5 with (first
          | (refine wpl_load_agg (cs := c5 (HS.f j u)) (b := gA) (o := K d * 5) rfl agg5 (size5n (HS.f j u)) hsr hrv ?_; clear hc)
          | (refine wpl_alloc zero5 hw ?_; clear hw; intro g7 w1 hw)
          | (refine wpl_store_agg (v := val5 (HS.f j u)) rfl rfl (size5 _) hw WrA.slot5 ?_; clear hw; intro w2 hw))
        have hc := hr2 _ (hsr.grew hw.made_grew)
        have k0 : w2.cell? ⟨g7, 0, none⟩ = some (.int .i64 (HS.kn (HS.f j u))) := Rd.blk (g := g7) (k := 0) (cs := (c5 (HS.f j u)).toArray) (t := 513) rfl _ hw
        have k1 : w2.cell? ⟨g7, 1, none⟩ = some (.int .i64 (HS.ix (HS.f j u))) := Rd.blk (g := g7) (k := 1) (cs := (c5 (HS.f j u)).toArray) (t := 513) rfl _ hw
        simp only [HS.kn, HS.ix] at k0 k1
        clear hne
        go_wp2
        have hnx := hnext d
        refine ⟨⟨d + 1, fr, by omega, rfl, by rw [hnx], hg.trans hw.made_grew⟩, ?_⟩
        rw [hnx]
        simp only [intOf, Int.toNat_natCast]
        rw [hback d hd, hback (d + 1) (by omega)]
        omega
end Go.Proofs.YtcnbmfaicbkhcaaGreatDoor

/-
  The contracts of values found by sums (hash): find, of an index that is not there.
-/
set_option maxRecDepth 100000
namespace Go.Proofs.YtcnbmfaicbkhcaaGreatDoor
open Go Go.RowKit
attribute [local irreducible] wpList Calls Code.wp okI okN pS memS getG homeN at_

/-- How far the search has come: nothing on the way is empty; the first tomb, if there was one. -/
def FrI (K : Nat → Nat) (l : List HS) (d : Nat) (fr : Int) : Prop := fr = -1 ∨ ∃ e, e < d ∧ fr = (K e : Nat) ∧ l[K e]? = some HS.t
def PthK (K : Nat → Nat) (l : List HS) (i d : Nat) : Prop := ∀ j, j < d → ∃ s : HS, l[K j]? = some s ∧ s.isE = false ∧ ∀ v, s ≠ HS.f i v
theorem PthK.succ {K : Nat → Nat} {l : List HS} {i d : Nat} {s : HS} (h : PthK K l i d) (hs : l[K d]? = some s) (h1 : s.isE = false) (h2 : ∀ v, s ≠ HS.f i v) : PthK K l i (d + 1) := fun j hj => by
  by_cases e : j = d
  · subst e; exact ⟨s, hs, h1, h2⟩
  · exact h j (by omega)
theorem FrI.succ {K : Nat → Nat} {l : List HS} {d : Nat} {fr : Int} (h : FrI K l d fr) : FrI K l (d + 1) fr := by
  rcases h with h | ⟨e, h1, h2, h3⟩
  · exact .inl h
  · exact .inr ⟨e, by omega, h2, h3⟩
set_option maxHeartbeats 1000000 in
/-- An index that is not there: where it may be put. -/
theorem find_outK {w0 w : World} {L : List As} {D left n : Nat} {S : List Nat} {l : List HS} {A : Option Addr} {cap i : Nat} {K : Nat → Nat} {H : Nat} {x0 : Int} (hs : St w0 (blk D (htC S left A n cap) 469 :: own A n cap 513 5 (cs5 l) :: L) w) (hn : Pow n) (hlen : l.length = n) (hi : i < 65536)
    (hno : ∀ (q : Nat) (v : V3), l[q]? ≠ some (HS.f i v)) (HX0 : Hid (((at_ n i 0 : Nat) : Int) = x0)) (hK0 : ((K 0 : Nat) : Int) = x0) (hlt : ∀ d, K d < n) (hnext : ∀ d, (((K d : Nat) : Int) + 1) % (n : Int) = ((K (d + 1) : Nat) : Int)) (hback : ∀ d, d < n → (K d + n - H) % n = d) (hshort : ∀ d, PthK K l i d → d < n) :
    Calls Tryz.prog 405 #[.pointer (some ⟨D, 0, none⟩), .int .i64 (i : Nat)] w fun e w' => ∃ d s, d < n ∧ PthK K l i d ∧ l[K d]? = some s ∧ s.isF = false ∧ e = .returned (.tuple #[.int .i64 (-1), .int .i64 (K d : Nat)]) ∧ Grew w w' := by
  have hnb := hn.pos
  obtain ⟨gA, rfl⟩ := (hs.ent (Ent.swap _ _ _)).own_at (by omega)
  have hr2 := Rd.ht2 (w0 := w0) (D := D) (n := n) (cap := cap) (A := some ⟨gA, 0, none⟩) (S := S) (left := left) (t := 469) (L := own (some ⟨gA, 0, none⟩) n cap 513 5 (cs5 l) :: L)
  have hc := hr2 _ hs
  go_enter Tryz.func405, Tryz.ntmps405
  go_wp2_with (first
    | (go_at_call 407; refine (home_v hi hn HX0).mono ?_; rintro e w' ⟨rfl, rfl⟩))
  clear hc
  go_loopw [5, 6] (fun fv kv wr => ∃ (d : Nat) (fr : Int), Hid (PthK K l i d) ∧ Hid (FrI K l d fr) ∧ fv = .int .i64 fr ∧ kv = .int .i64 (K d : Nat) ∧ Grew w wr) (fun _ kv _ => n - ((intOf kv).toNat + n - H) % n)
  case atStart => exact ⟨0, -1, fun j hj => absurd hj (Nat.not_lt_zero j), .inl rfl, rfl, by rw [hK0], Grew.refl _⟩
  case round =>
    clear HX0 hK0
    obtain ⟨d, fr, HP, HF, rfl, rfl, hg⟩ := hrel
    have hd : d < n := hshort d HP.out
    have hk := hlt d
    obtain ⟨s, hsd⟩ : ∃ s, l[K d]? = some s := ⟨_, List.getElem?_eq_getElem (by omega)⟩
    have HSd := Lib.hid hsd
    have hrv := fun j u hu => (Rd.row5 (w0 := w0) (g := gA) (n := n) (cap := cap) (t := 513) (L := L) hsd j u hu).tail (p := blk D (htC S left (some ⟨gA, 0, none⟩) n cap) 469)
    have hsr := hs.grew hg
    have hc := hr2 _ hsr
    have hw := St.start wr
    clear hsd
    cases s with
    | e =>
      rcases HF.out with rfl | ⟨e, he, rfl, het⟩
      · clear HF
        go_upto_region 5 with (first
          | (refine wpl_load_agg (cs := c5 (HS.e)) (b := gA) (o := K d * 5) rfl agg5 (size5n (HS.e)) hsr hrv ?_; clear hc)
          | (refine wpl_alloc zero5 hw ?_; clear hw; intro g7 w1 hw)
          | (refine wpl_store_agg (v := val5 (HS.e)) rfl rfl (size5 _) hw WrA.slot5 ?_; clear hw; intro w2 hw))
        have hc := hr2 _ (hsr.grew hw.made_grew)
        have k0 : w2.cell? ⟨g7, 0, none⟩ = some (.int .i64 (HS.kn (HS.e))) := Rd.blk (g := g7) (k := 0) (cs := (c5 (HS.e)).toArray) (t := 513) rfl _ hw
        have k1 : w2.cell? ⟨g7, 1, none⟩ = some (.int .i64 (HS.ix (HS.e))) := Rd.blk (g := g7) (k := 1) (cs := (c5 (HS.e)).toArray) (t := 513) rfl _ hw
        simp only [HS.kn, HS.ix] at k0 k1
        go_wp2
        go_ret2
        exact ⟨d, HS.e, hd, HP.out, HSd.out, rfl, rfl, hg.trans hw.made_grew⟩
      · have hen : e < n := by omega
        have HET := Lib.hid het
        clear HF het
        go_upto_region 5 with (first
          | (refine wpl_load_agg (cs := c5 (HS.e)) (b := gA) (o := K d * 5) rfl agg5 (size5n (HS.e)) hsr hrv ?_; clear hc)
          | (refine wpl_alloc zero5 hw ?_; clear hw; intro g7 w1 hw)
          | (refine wpl_store_agg (v := val5 (HS.e)) rfl rfl (size5 _) hw WrA.slot5 ?_; clear hw; intro w2 hw))
        have hc := hr2 _ (hsr.grew hw.made_grew)
        have k0 : w2.cell? ⟨g7, 0, none⟩ = some (.int .i64 (HS.kn (HS.e))) := Rd.blk (g := g7) (k := 0) (cs := (c5 (HS.e)).toArray) (t := 513) rfl _ hw
        have k1 : w2.cell? ⟨g7, 1, none⟩ = some (.int .i64 (HS.ix (HS.e))) := Rd.blk (g := g7) (k := 1) (cs := (c5 (HS.e)).toArray) (t := 513) rfl _ hw
        simp only [HS.kn, HS.ix] at k0 k1
        go_wp2
        go_ret2
        exact ⟨e, HS.t, hen, fun j hj => HP.out j (by omega), HET.out, rfl, rfl, hg.trans hw.made_grew⟩
    | t =>
      have HP2 : Hid (PthK K l i (d + 1)) := HP.out.succ HSd.out rfl (fun v e => by cases e)
      have hd1 := hshort _ HP2.out
      rcases HF.out with rfl | ⟨e, he, rfl, het⟩
      · have HF2 : Hid (FrI K l (d + 1) ((K d : Nat) : Int)) := .inr ⟨d, by omega, rfl, HSd.out⟩
        clear HF
        go_upto_region 5 with (first
          | (refine wpl_load_agg (cs := c5 (HS.t)) (b := gA) (o := K d * 5) rfl agg5 (size5n (HS.t)) hsr hrv ?_; clear hc)
          | (refine wpl_alloc zero5 hw ?_; clear hw; intro g7 w1 hw)
          | (refine wpl_store_agg (v := val5 (HS.t)) rfl rfl (size5 _) hw WrA.slot5 ?_; clear hw; intro w2 hw))
        have hc := hr2 _ (hsr.grew hw.made_grew)
        have k0 : w2.cell? ⟨g7, 0, none⟩ = some (.int .i64 (HS.kn (HS.t))) := Rd.blk (g := g7) (k := 0) (cs := (c5 (HS.t)).toArray) (t := 513) rfl _ hw
        have k1 : w2.cell? ⟨g7, 1, none⟩ = some (.int .i64 (HS.ix (HS.t))) := Rd.blk (g := g7) (k := 1) (cs := (c5 (HS.t)).toArray) (t := 513) rfl _ hw
        simp only [HS.kn, HS.ix] at k0 k1
        go_wp2
        have hnx := hnext d
        refine ⟨⟨d + 1, (K d : Nat), HP2, HF2, rfl, by rw [hnx], hg.trans hw.made_grew⟩, ?_⟩
        rw [hnx]
        simp only [intOf, Int.toNat_natCast]
        rw [hback d hd, hback (d + 1) (by omega)]
        omega
      · have HF2 := Lib.hid HF.out.succ
        clear HF het
        go_upto_region 5 with (first
          | (refine wpl_load_agg (cs := c5 (HS.t)) (b := gA) (o := K d * 5) rfl agg5 (size5n (HS.t)) hsr hrv ?_; clear hc)
          | (refine wpl_alloc zero5 hw ?_; clear hw; intro g7 w1 hw)
          | (refine wpl_store_agg (v := val5 (HS.t)) rfl rfl (size5 _) hw WrA.slot5 ?_; clear hw; intro w2 hw))
        have hc := hr2 _ (hsr.grew hw.made_grew)
        have k0 : w2.cell? ⟨g7, 0, none⟩ = some (.int .i64 (HS.kn (HS.t))) := Rd.blk (g := g7) (k := 0) (cs := (c5 (HS.t)).toArray) (t := 513) rfl _ hw
        have k1 : w2.cell? ⟨g7, 1, none⟩ = some (.int .i64 (HS.ix (HS.t))) := Rd.blk (g := g7) (k := 1) (cs := (c5 (HS.t)).toArray) (t := 513) rfl _ hw
        simp only [HS.kn, HS.ix] at k0 k1
        go_wp2
        have hnx := hnext d
        refine ⟨⟨d + 1, (K e : Nat), HP2, HF2, rfl, by rw [hnx], hg.trans hw.made_grew⟩, ?_⟩
        rw [hnx]
        simp only [intOf, Int.toNat_natCast]
        rw [hback d hd, hback (d + 1) (by omega)]
        omega
    | f j u =>
      have hne : j ≠ i := fun e => hno _ u (e ▸ HSd.out)
      have hjb : ((j : Int) == (i : Int)) = false := by simp; omega
      have HP2 : Hid (PthK K l i (d + 1)) := HP.out.succ HSd.out rfl (fun v e => by injection e with e1 _; exact hne e1)
      have hd1 := hshort _ HP2.out
      have HF2 := Lib.hid HF.out.succ
      clear hne HF
      go_upto_region 5 with (first
        | (refine wpl_load_agg (cs := c5 (HS.f j u)) (b := gA) (o := K d * 5) rfl agg5 (size5n (HS.f j u)) hsr hrv ?_; clear hc)
        | (refine wpl_alloc zero5 hw ?_; clear hw; intro g7 w1 hw)
        | (refine wpl_store_agg (v := val5 (HS.f j u)) rfl rfl (size5 _) hw WrA.slot5 ?_; clear hw; intro w2 hw))
      have hc := hr2 _ (hsr.grew hw.made_grew)
      have k0 : w2.cell? ⟨g7, 0, none⟩ = some (.int .i64 (HS.kn (HS.f j u))) := Rd.blk (g := g7) (k := 0) (cs := (c5 (HS.f j u)).toArray) (t := 513) rfl _ hw
      have k1 : w2.cell? ⟨g7, 1, none⟩ = some (.int .i64 (HS.ix (HS.f j u))) := Rd.blk (g := g7) (k := 1) (cs := (c5 (HS.f j u)).toArray) (t := 513) rfl _ hw
      simp only [HS.kn, HS.ix] at k0 k1
      go_wp2
      have hnx := hnext d
      refine ⟨⟨d + 1, fr, HP2, HF2, rfl, by rw [hnx], hg.trans hw.made_grew⟩, ?_⟩
      rw [hnx]
      simp only [intOf, Int.toNat_natCast]
      rw [hback d hd, hback (d + 1) (by omega)]
      omega
theorem find_out {w0 w : World} {L : List As} {D left n : Nat} {S : List Nat} {g : Nat → V3} {l : List HS} {A : Option Addr} {cap i : Nat} (hs : St w0 (blk D (htC S left A n cap) 469 :: own A n cap 513 5 (cs5 l) :: L) w) (hok : HtOk n l S g left) (hroom : S.length + left < n) (hi : i < 65536) (hiS : i ∉ S) :
    Calls Tryz.prog 405 #[.pointer (some ⟨D, 0, none⟩), .int .i64 (i : Nat)] w fun e w' => ∃ d s, d < n ∧ Path n l i d ∧ l[at_ n i d]? = some s ∧ s.isF = false ∧ e = .returned (.tuple #[.int .i64 (-1), .int .i64 (at_ n i d : Nat)]) ∧ Grew w w' := by
  obtain ⟨pe, hpe, hpl⟩ := hok.room hroom
  have hn := hok.pow
  exact find_outK hs hn hok.len hi (fun q v hq => hiS (hok.full q i v hq).1) rfl rfl (fun d => at_lt hn i d) (fun d => at_next hn i d) (fun d hd => at_back hn i hd) (fun d hd => Path.short hn hd hpe hpl)
end Go.Proofs.YtcnbmfaicbkhcaaGreatDoor

/-
  The contracts of values found by sums (hash): New, Len, Get.
-/
set_option maxRecDepth 100000
namespace Go.Proofs.YtcnbmfaicbkhcaaGreatDoor
open Go Go.RowKit
attribute [local irreducible] wpList Calls Code.wp okI okN pS memS getG homeN at_

theorem info5 : (Tryz.prog.info? 513).map (fun i => (i.zero, i.size, i.bytes)) = some (some (val5 .e), 5, 40) := by kernel_rfl
theorem size_int1 : (Tryz.prog.info? 3).map (·.size) = some 1 := by kernel_rfl
theorem made5 (m : Nat) : (madeCells (val5 .e).cells (m * 5)).toList = cs5 (List.replicate m .e) := by
  have e1 : ∀ m, cs5 (List.replicate m .e) = List.replicate (m * 5) (.int .i64 0) := fun m => by
    induction m with
    | zero => rfl
    | succ m ih =>
      rw [List.replicate_succ]
      simp only [cs5, List.flatMap_cons] at ih ⊢
      rw [ih, Nat.succ_mul, Nat.add_comm, ← List.replicate_append_replicate]
      rfl
  rw [e1]
  apply List.ext_getElem
  · simp [madeCells]
  · intro i h1 h2
    rw [List.getElem_replicate]
    simp only [madeCells, Array.getElem_toList, Array.getElem_map, Array.getElem_range]
    have : i % 5 < 5 := Nat.mod_lt _ (by decide)
    show (#[Value.int .i64 0, Value.int .i64 0, Value.int .i64 0, Value.int .i64 0, Value.int .i64 0] : Array Value)[i % 5]! = _
    have h3 : i % 5 = 0 ∨ i % 5 = 1 ∨ i % 5 = 2 ∨ i % 5 = 3 ∨ i % 5 = 4 := by omega
    rcases h3 with h | h | h | h | h <;> rw [h] <;> rfl
theorem pow8 : Pow 8 := ⟨3, by decide, by decide, rfl⟩
theorem ht_new {w : World} : Calls Tryz.prog 332 #[] w fun e w' => ∃ D, e = .returned (.pointer (some ⟨D, 0, none⟩)) ∧ St w [HtB D [] (fun _ => V3.z)] w' := by
  have hs := St.start w
  go_enter Tryz.func332, Tryz.ntmps332
  go_wp2_with (first
    | (refine wpl_make (n := 8) Tryz.underlying465 info5 rfl rfl rfl (by decide) (by decide) hs ?_; clear hs; intro G w hs)
    | (refine wpl_box_v (v := .agg (htC [] 0 (some ⟨G, 0, none⟩) 8 8)) rfl hs ?_; clear hs; intro D w hs))
  go_ret
  refine ⟨D, rfl, ?_⟩
  rw [made5 8] at hs
  exact hs.htshut (l := List.replicate 8 .e) (left := 0) (HtOk.fresh pow8 _) (by decide)
theorem HtOk.room2 {n : Nat} {l : List HS} {S : List Nat} {g : Nat → V3} {left : Nat} (h : HtOk n l S g left) (hr : 4 * (S.length + left) ≤ 3 * l.length) : S.length + left < n := by
  have := h.pow.pos
  have := h.len
  omega
theorem find_in_v {w0 w : World} {L : List As} {D left n : Nat} {S : List Nat} {g : Nat → V3} {l : List HS} {A : Option Addr} {cap i p : Nat} {v : V3} (hs : St w0 (blk D (htC S left A n cap) 469 :: own A n cap 513 5 (cs5 l) :: L) w) (hok : Hid (HtOk n l S g left)) (hi : i < 65536) (hp : Hid (l[p]? = some (HS.f i v))) :
    Calls Tryz.prog 405 #[.pointer (some ⟨D, 0, none⟩), .int .i64 (i : Nat)] w fun e w' => e = .returned (.tuple #[.int .i64 (p : Nat), .int .i64 (-1)]) ∧ Grew w w' := find_in hs hok.out hi hp.out
theorem ht_get_in {w0 w : World} {L : List As} {D : Nat} {S : List Nat} {g : Nat → V3} (hs : St w0 (HtB D S g :: L) w) {i : Nat} (hi : i ∈ S) :
    Calls Tryz.prog 400 #[.pointer (some ⟨D, 0, none⟩), .int .i64 (i : Nat)] w fun e w' => e = .returned (.tuple #[val3 (g i), .bool true]) ∧ Grew w w' := by
  obtain ⟨l, left, A, cap, ⟨hok, hrm⟩, hs⟩ := hs.htopen
  obtain ⟨p, hp⟩ := hok.has i hi
  have hi6 := hok.small i hi
  have hpl := (List.getElem?_eq_some_iff.1 hp).1
  obtain ⟨gA, rfl⟩ := (hs.ent (Ent.swap _ _ _)).own_at (by omega)
  generalize g i = v at hp ⊢
  have hrv := fun k u hu => (Rd.row5 (w0 := w0) (g := gA) (n := l.length) (cap := cap) (t := 513) (L := L) hp k u hu).tail (p := blk D (htC S left (some ⟨gA, 0, none⟩) l.length cap) 469)
  have hrv3 : ∀ k u, (c3 v)[k]? = some u → Rd w0 (blk D (htC S left (some ⟨gA, 0, none⟩) l.length cap) 469 :: own (some ⟨gA, 0, none⟩) l.length cap 513 5 (cs5 l) :: L) ⟨gA, p * 5 + 2 + k, none⟩ u := fun k u hu => by
    rw [show p * 5 + 2 + k = p * 5 + (k + 2) by omega]
    exact hrv (k + 2) u (by simpa [c5, HS.vl] using hu)
  have hr2 := Rd.ht2 (w0 := w0) (D := D) (n := l.length) (cap := cap) (A := some ⟨gA, 0, none⟩) (S := S) (left := left) (t := 469) (L := own (some ⟨gA, 0, none⟩) l.length cap 513 5 (cs5 l) :: L)
  have HP := Lib.hid hp
  have HOK := Lib.hid hok
  have d0 : decide ((i : Int) < 0) = false := decide_eq_false (by omega)
  have d1 : decide (65536 ≤ (i : Int)) = false := decide_eq_false (by omega)
  clear hp hok hrv hi
  go_enter Tryz.func400, Tryz.ntmps400
  go_upto_region 1 with (fail)
  have hw := (St.start w).alloc (c3 V3.z).toArray 41
  generalize w.heap.size = g4 at hw ⊢
  refine wp_gen hw ?_
  clear hw
  intro w1 hw
  go_wp2_with (first
    | (go_at_call 405; refine (find_in_v (hs.grew hw.made_grew) HOK hi6 HP).mono ?_; rintro e w2 ⟨rfl, hg2⟩; replace hw := hw.grew hg2; have hc2 := hr2 _ (hs.grew hw.made_grew))
    | (refine wpl_load_agg (cs := c3 v) (b := gA) (o := p * 5 + 2) rfl agg3 (size3 v) (hs.grew hw.made_grew) hrv3 ?_)
    | (refine wpl_store_agg (v := val3 v) rfl rfl (size3 _) hw WrA.slot3 ?_; clear hw; intro w3 hw))
  refine bodyPost_at (results_cell_tmp Tryz.results400 rfl (hw.slot_run agg3 (size3 _))) rfl ?_
  exact ⟨rfl, hw.made_grew⟩
theorem ht_get_out {w0 w : World} {L : List As} {D : Nat} {S : List Nat} {g : Nat → V3} (hs : St w0 (HtB D S g :: L) w) {i : Nat} (hi : i ∉ S) (hi6 : i < 65536) :
    Calls Tryz.prog 400 #[.pointer (some ⟨D, 0, none⟩), .int .i64 (i : Nat)] w fun e w' => e = .returned (.tuple #[val3 V3.z, .bool false]) ∧ Grew w w' := by
  obtain ⟨l, left, A, cap, ⟨hok, hrm⟩, hs⟩ := hs.htopen
  have hrm2 := hok.room2 hrm
  have d0 : decide ((i : Int) < 0) = false := decide_eq_false (by omega)
  have d1 : decide (65536 ≤ (i : Int)) = false := decide_eq_false (by omega)
  go_enter Tryz.func400, Tryz.ntmps400
  go_upto_region 1 with (fail)
  have hw := (St.start w).alloc (c3 V3.z).toArray 41
  generalize w.heap.size = g4 at hw ⊢
  refine wp_gen hw ?_
  clear hw
  intro w1 hw
  go_wp2_with (first
    | (go_at_call 405; refine (find_out (hs.grew hw.made_grew) hok hrm2 hi6 hi).mono ?_; rintro e w2 ⟨d, s, hd, _, _, _, rfl, hg2⟩; replace hw := hw.grew hg2)
    | (refine wpl_store_agg (v := val3 V3.z) rfl rfl (size3 _) hw WrA.slot3 ?_; clear hw; intro w3 hw))
  refine bodyPost_at (results_cell_tmp Tryz.results400 rfl (hw.slot_run agg3 (size3 _))) rfl ?_
  exact ⟨rfl, hw.made_grew⟩
theorem ht_get_bad {w : World} {D : Nat} {i : Int} (hi : ¬ (0 ≤ i ∧ i < 65536)) :
    Calls Tryz.prog 400 #[.pointer (some ⟨D, 0, none⟩), .int .i64 i] w fun e w' => e = .returned (.tuple #[val3 V3.z, .bool false]) ∧ Grew w w' := by
  by_cases h0 : i < 0
  all_goals
    go_enter Tryz.func400, Tryz.ntmps400
    go_upto_region 1 with (fail)
    have hw := (St.start w).alloc (c3 V3.z).toArray 41
    generalize w.heap.size = g4 at hw ⊢
    refine wp_gen hw ?_
    clear hw
    intro w1 hw
    go_wp2_with (first
      | (refine wpl_store_agg (v := val3 V3.z) rfl rfl (size3 _) hw WrA.slot3 ?_; clear hw; intro w3 hw))
    refine bodyPost_at (results_cell_tmp Tryz.results400 rfl (hw.slot_run agg3 (size3 _))) rfl ?_
    exact ⟨rfl, hw.made_grew⟩
theorem HtOk.memOut {n : Nat} {l : List HS} {S : List Nat} {g : Nat → V3} {left : Nat} (h : HtOk n l S g left) {i : Int} (hi : ¬ (0 ≤ i ∧ i < 65536)) : memS S i = false := by
  cases hm : memS S i with
  | false => rfl
  | true =>
    obtain ⟨j, rfl, hj⟩ := memS_in hm
    have := h.small j hj
    omega
theorem ht_get {w0 w : World} {L : List As} {D : Nat} {S : List Nat} {g : Nat → V3} (hs : St w0 (HtB D S g :: L) w) (i : Int) :
    Calls Tryz.prog 400 #[.pointer (some ⟨D, 0, none⟩), .int .i64 i] w fun e w' => e = .returned (.tuple #[val3 (getG S g i), .bool (memS S i)]) ∧ Grew w w' := by
  obtain ⟨l, left, A, cap, ⟨hok, hrm⟩, _⟩ := hs.htopen
  by_cases hi : 0 ≤ i ∧ i < 65536
  · obtain ⟨j, rfl⟩ := Int.eq_ofNat_of_zero_le hi.1
    cases hm : memS S (j : Nat) with
    | true =>
      rw [getG_in (memS_iff.1 hm)]
      exact ht_get_in hs (memS_iff.1 hm)
    | false =>
      rw [getG_out hm]
      exact ht_get_out hs (fun h => by rw [memS_iff.2 h] at hm; cases hm) (by omega)
  · have hm := hok.memOut hi
    rw [getG_out hm, hm]
    exact ht_get_bad hi
end Go.Proofs.YtcnbmfaicbkhcaaGreatDoor

/-
  The contracts of values found by sums (hash): put.
-/
set_option maxRecDepth 100000
namespace Go.Proofs.YtcnbmfaicbkhcaaGreatDoor
open Go Go.RowKit
attribute [local irreducible] wpList Calls Code.wp okI okN pS memS getG homeN at_ insS

theorem HtOk.left_pos {n : Nat} {l : List HS} {S : List Nat} {g : Nat → V3} {left p : Nat} (h : HtOk n l S g left) (hp : l[p]? = some HS.t) : 0 < left := by
  rw [← h.ct]
  refine List.length_pos_of_mem (a := HS.t) (List.mem_filter.2 ⟨?_, rfl⟩)
  obtain ⟨hl, he⟩ := List.getElem?_eq_some_iff.1 hp
  rw [← he]
  exact List.getElem_mem hl
theorem updG_pG (g : Nat → V3) (i : Nat) (v : V3) : updG g i v = pG g (i : Nat) v := by
  funext j
  unfold updG pG
  by_cases h : j = i
  · subst h; simp
  · rw [if_neg h, if_neg (by omega)]
/-- A slot that an index may take. -/
def FreeAt (n : Nat) (l : List HS) (S : List Nat) (g : Nat → V3) (left i q : Nat) (s : HS) : Prop := l[q]? = some s ∧ s.isF = false ∧ ∀ v, HtOk n (l.set q (HS.f i v)) (insS i S) (pG g (i : Nat) v) (left - if s.isT then 1 else 0)
theorem find_free {w0 w : World} {L : List As} {D left n : Nat} {S : List Nat} {g : Nat → V3} {l : List HS} {A : Option Addr} {cap i : Nat} (hs : St w0 (blk D (htC S left A n cap) 469 :: own A n cap 513 5 (cs5 l) :: L) w) (hok : Hid (HtOk n l S g left)) (hroom : S.length + left < n) (hi : i < 65536) (hiS : i ∉ S) :
    Calls Tryz.prog 405 #[.pointer (some ⟨D, 0, none⟩), .int .i64 (i : Nat)] w fun e w' => ∃ q s, FreeAt n l S g left i q s ∧ e = .returned (.tuple #[.int .i64 (-1), .int .i64 (q : Nat)]) ∧ Grew w w' :=
  (find_out hs hok.out hroom hi hiS).mono fun e w' ⟨d, s, hd, hpt, hsd, hsf, he, hg⟩ => ⟨at_ n i d, s, ⟨hsd, hsf, fun v => by rw [← updG_pG]; exact hok.out.put hiS hi hd hpt hsd hsf v⟩, he, hg⟩
attribute [local irreducible] FreeAt
set_option maxHeartbeats 1000000 in
theorem ht_put_raw {w0 w : World} {L : List As} {D left n : Nat} {S : List Nat} {g : Nat → V3} {l : List HS} {A : Option Addr} {cap i : Nat} (hs : St w0 (blk D (htC S left A n cap) 469 :: own A n cap 513 5 (cs5 l) :: L) w) (hok : HtOk n l S g left) (hroom : S.length + left < n) (hi : i < 65536) (hiS : i ∉ S) (v : V3) :
    Calls Tryz.prog 406 #[.pointer (some ⟨D, 0, none⟩), .int .i64 (i : Nat), val3 v] w fun e w' => ∃ l' left', e = .returned (.tuple #[]) ∧ HtOk n l' (insS i S) (pG g (i : Nat) v) left' ∧ left' ≤ left ∧ St w0 (blk D (htC (insS i S) left' A n cap) 469 :: own A n cap 513 5 (cs5 l') :: L) w' := by
  have hlen := hok.len
  have hnb := hok.pow.pos
  obtain ⟨gA, rfl⟩ := (hs.ent (Ent.swap _ _ _)).own_at (by omega)
  have hlS := len_insS hiS
  have HOK := Lib.hid hok
  clear hok
  have hl262 : left ≤ 262144 := by omega
  have hs262 : S.length ≤ 262144 := by omega
  go_enter Tryz.func406, Tryz.ntmps406
  go_upto_region 1 with (first
    | (refine wpl_box_v (v := val3 v) rfl hs ?_; clear hs; intro g5 w hs))
  replace hs : St w0 (blk D (htC S left (some ⟨gA, 0, none⟩) n cap) 469 :: own (some ⟨gA, 0, none⟩) n cap 513 5 (cs5 l) :: blk g5 (c3 v).toArray 41 :: L) w := hs.ent (by (repeat first | exact Ent.refl _ | refine Ent.step (by repeat first | exact Ent.refl _ | apply Ent.skip) ?_))
  go_upto_region 2 with (first
    | (go_at_call 405; refine (find_free hs HOK hroom hi hiS).mono ?_; rintro e w2 ⟨q, s, hfr, rfl, hg2⟩; replace hs := hs.grew hg2; clear hg2))
  have hfr2 := hfr
  unfold FreeAt at hfr2
  obtain ⟨hsd, hsf, hput⟩ := hfr2
  clear hfr
  have HPUT := Lib.hid (hput v)
  have HLS := Lib.hid hlS
  have hql := (List.getElem?_eq_some_iff.1 hsd).1
  have hrv := (Rd.row5 (w0 := w0) (g := gA) (n := n) (cap := cap) (t := 513) (L := blk g5 (c3 v).toArray 41 :: L) hsd 0 _ rfl).tail (p := blk D (htC S left (some ⟨gA, 0, none⟩) n cap) 469)
  have hc2 := Rd.ht2 w2 hs
  have hc0 := Rd.ht0 w2 hs
  have hc1 := Rd.ht1 w2 hs
  have hk := hrv w2 hs
  simp only [Nat.add_zero] at hk
  cases s with
  | f j u => cases hsf
  | e =>
    simp only [HS.kn] at hk
    clear hsd hsf hput hrv hlS
    go_upto_region 5 with (first
      | (refine wpl_store rfl rfl rfl size_int1 hs (Wr.blk (k := 0) (by simp)) ?_; clear hs hc0 hc1 hc2 hk; intro w hs))
    replace hs : St w0 (blk D #[.int .i64 ((S.length : Nat) + 1), .int .i64 (left : Nat), .slice (some ⟨gA, 0, none⟩) n cap] 469 :: blk g5 (c3 v).toArray 41 :: own (some ⟨gA, 0, none⟩) n cap 513 5 (cs5 l) :: L) w := hs.ent (Ent.cons _ (by (repeat first | exact Ent.refl _ | refine Ent.step (by repeat first | exact Ent.refl _ | apply Ent.skip) ?_)))
    refine wp_region_plain [false, false, false, false, false, false, false, false, false, true] hs.only2 (by kernel_rfl) (by kernel_rfl) fun hne => ?_
    have hc2 := (Rd.blk (w0 := w0) (g := D) (k := 2) (cs := #[.int .i64 ((S.length : Nat) + 1), .int .i64 (left : Nat), .slice (some ⟨gA, 0, none⟩) n cap]) (v := .slice (some ⟨gA, 0, none⟩) n cap) (t := 469) (L := [blk g5 (c3 v).toArray 41]) rfl).alln
    have hh := has3_tail (p := blk D #[.int .i64 ((S.length : Nat) + 1), .int .i64 (left : Nat), .slice (some ⟨gA, 0, none⟩) n cap] 469) (has3_slot (w0 := w0) (L := []) (g := g5) (v := v) (t := 41))
    have hv0 := (hh 0 _ rfl).alln
    have hv1 := (hh 1 _ rfl).alln
    have hv2 := (hh 2 _ rfl).alln
    simp only [Nat.add_zero, Nat.zero_add] at hv0 hv1 hv2
    clear hh
    simp only [pickOps]
    repeat (go_big_quiet_step (fail))
    refine wpQuiet_nil ?_
    clear hne hc2 hv0 hv1 hv2
    simp only [chainIx]
    refine wpChain_last rfl ?_
    refine wpl_store_agg (v := val5 (HS.f i v)) rfl rfl (size5 _) (hs.ent (M := own (some ⟨gA, 0, none⟩) n cap 513 5 (cs5 l) :: blk D #[.int .i64 ((S.length : Nat) + 1), .int .i64 (left : Nat), .slice (some ⟨gA, 0, none⟩) n cap] 469 :: blk g5 (c3 v).toArray 41 :: L) (by (repeat first | exact Ent.refl _ | refine Ent.step (by repeat first | exact Ent.refl _ | apply Ent.skip) ?_))).drew (WrA.own (o := q * 5) (vs := c5 (HS.f i v)) (by rw [cs5_len, c5_len]; omega) (c5_one _)) ?_
    clear hs
    intro w hs
    rw [show splice (cs5 l) (q * 5) (c5 (HS.f i v)) = cs5 (l.set q (HS.f i v)) from flat_set c5_len _ hql] at hs
    refine wpList_nil ⟨rfl, ?_⟩
    go_wp2
    go_end0
    refine ⟨l.set q (HS.f i v), left, rfl, HPUT.out, Nat.le_refl _, ?_⟩
    have hs2 : St w0 (blk D #[.int .i64 ((S.length : Nat) + 1), .int .i64 (left : Nat), .slice (some ⟨gA, 0, none⟩) n cap] 469 :: own (some ⟨gA, 0, none⟩) n cap 513 5 (cs5 (l.set q (HS.f i v))) :: L) w := (hs.ent (M := blk g5 (c3 v).toArray 41 :: blk D #[.int .i64 ((S.length : Nat) + 1), .int .i64 (left : Nat), .slice (some ⟨gA, 0, none⟩) n cap] 469 :: own (some ⟨gA, 0, none⟩) n cap 513 5 (cs5 (l.set q (HS.f i v))) :: L) (by (repeat first | exact Ent.refl _ | refine Ent.step (by repeat first | exact Ent.refl _ | apply Ent.skip) ?_))).drop
    have e : ((S.length : Nat) : Int) + 1 = ((insS i S).length : Nat) := by rw [HLS.out]; omega
    rw [e] at hs2
    exact hs2
  | t =>
    have hlp := HOK.out.left_pos hsd
    simp only [HS.kn] at hk
    have hl1 : ((left : Nat) : Int) - 1 = ((left - 1 : Nat) : Int) := by omega
    have HL1 := Lib.hid hl1
    clear hsd hsf hput hrv hlS hl1
    go_upto_region 5 with (first
      | (refine wpl_store rfl rfl rfl size_int1 hs (Wr.blk (k := 1) (by simp)) ?_; clear hs hc1 hc2 hk hc0; intro w hs; have hc0 := Rd.blk (g := D) (k := 0) (cs := #[.int .i64 (S.length : Nat), .int .i64 ((left : Nat) - 1), .slice (some ⟨gA, 0, none⟩) n cap]) (v := .int .i64 (S.length : Nat)) rfl w hs)
      | (refine wpl_store rfl rfl rfl size_int1 hs (Wr.blk (k := 0) (by simp)) ?_; clear hs hc0; intro w hs))
    replace hs : St w0 (blk D #[.int .i64 ((S.length : Nat) + 1), .int .i64 ((left : Nat) - 1), .slice (some ⟨gA, 0, none⟩) n cap] 469 :: blk g5 (c3 v).toArray 41 :: own (some ⟨gA, 0, none⟩) n cap 513 5 (cs5 l) :: L) w := hs.ent (Ent.cons _ (by (repeat first | exact Ent.refl _ | refine Ent.step (by repeat first | exact Ent.refl _ | apply Ent.skip) ?_)))
    refine wp_region_plain [false, false, false, false, false, false, false, false, false, true] hs.only2 (by kernel_rfl) (by kernel_rfl) fun hne => ?_
    have hc2 := (Rd.blk (w0 := w0) (g := D) (k := 2) (cs := #[.int .i64 ((S.length : Nat) + 1), .int .i64 ((left : Nat) - 1), .slice (some ⟨gA, 0, none⟩) n cap]) (v := .slice (some ⟨gA, 0, none⟩) n cap) (t := 469) (L := [blk g5 (c3 v).toArray 41]) rfl).alln
    have hh := has3_tail (p := blk D #[.int .i64 ((S.length : Nat) + 1), .int .i64 ((left : Nat) - 1), .slice (some ⟨gA, 0, none⟩) n cap] 469) (has3_slot (w0 := w0) (L := []) (g := g5) (v := v) (t := 41))
    have hv0 := (hh 0 _ rfl).alln
    have hv1 := (hh 1 _ rfl).alln
    have hv2 := (hh 2 _ rfl).alln
    simp only [Nat.add_zero, Nat.zero_add] at hv0 hv1 hv2
    clear hh
    simp only [pickOps]
    repeat (go_big_quiet_step (fail))
    refine wpQuiet_nil ?_
    clear hne hc2 hv0 hv1 hv2
    simp only [chainIx]
    refine wpChain_last rfl ?_
    refine wpl_store_agg (v := val5 (HS.f i v)) rfl rfl (size5 _) (hs.ent (M := own (some ⟨gA, 0, none⟩) n cap 513 5 (cs5 l) :: blk D #[.int .i64 ((S.length : Nat) + 1), .int .i64 ((left : Nat) - 1), .slice (some ⟨gA, 0, none⟩) n cap] 469 :: blk g5 (c3 v).toArray 41 :: L) (by (repeat first | exact Ent.refl _ | refine Ent.step (by repeat first | exact Ent.refl _ | apply Ent.skip) ?_))).drew (WrA.own (o := q * 5) (vs := c5 (HS.f i v)) (by rw [cs5_len, c5_len]; omega) (c5_one _)) ?_
    clear hs
    intro w hs
    rw [show splice (cs5 l) (q * 5) (c5 (HS.f i v)) = cs5 (l.set q (HS.f i v)) from flat_set c5_len _ hql] at hs
    refine wpList_nil ⟨rfl, ?_⟩
    go_wp2
    go_end0
    refine ⟨l.set q (HS.f i v), left - 1, rfl, HPUT.out, Nat.sub_le _ _, ?_⟩
    have hs2 : St w0 (blk D #[.int .i64 ((S.length : Nat) + 1), .int .i64 ((left : Nat) - 1), .slice (some ⟨gA, 0, none⟩) n cap] 469 :: own (some ⟨gA, 0, none⟩) n cap 513 5 (cs5 (l.set q (HS.f i v))) :: L) w := (hs.ent (M := blk g5 (c3 v).toArray 41 :: blk D #[.int .i64 ((S.length : Nat) + 1), .int .i64 ((left : Nat) - 1), .slice (some ⟨gA, 0, none⟩) n cap] 469 :: own (some ⟨gA, 0, none⟩) n cap 513 5 (cs5 (l.set q (HS.f i v))) :: L) (by (repeat first | exact Ent.refl _ | refine Ent.step (by repeat first | exact Ent.refl _ | apply Ent.skip) ?_))).drop
    have e : ((S.length : Nat) : Int) + 1 = ((insS i S).length : Nat) := by rw [HLS.out]; omega
    rw [e, HL1.out] at hs2
    exact hs2
end Go.Proofs.YtcnbmfaicbkhcaaGreatDoor

/-
  A table that is found by sums, laid anew: plain law. No function of the program stands here.
-/
set_option maxRecDepth 100000
namespace Go.Proofs.YtcnbmfaicbkhcaaGreatDoor
open Go Go.RowKit

/-- The first k slots have been put anew. -/
structure GrI (l : List HS) (g : Nat → V3) (k : Nat) (Sk : List Nat) (gk : Nat → V3) : Prop where
  mem : ∀ j, j ∈ Sk ↔ ∃ (p : Nat) (v : V3), p < k ∧ l[p]? = some (HS.f j v)
  val : ∀ j ∈ Sk, gk j = g j
  len : Sk.length ≤ k
theorem GrI.start (l : List HS) (g gk : Nat → V3) : GrI l g 0 [] gk :=
  ⟨fun _ => ⟨fun h => absurd h List.not_mem_nil, fun ⟨_, _, h, _⟩ => absurd h (Nat.not_lt_zero _)⟩, fun _ h => absurd h List.not_mem_nil, Nat.le_refl _⟩
section
variable {n : Nat} {l : List HS} {S Sk : List Nat} {g gk : Nat → V3} {left k : Nat}
theorem GrI.skip (h : GrI l g k Sk gk) {s : HS} (hs : l[k]? = some s) (hf : s.isF = false) : GrI l g (k + 1) Sk gk := by
  refine ⟨fun j => ?_, h.val, Nat.le_trans h.len (Nat.le_succ _)⟩
  rw [h.mem]
  constructor
  · rintro ⟨p, v, h1, h2⟩
    exact ⟨p, v, by omega, h2⟩
  · rintro ⟨p, v, h1, h2⟩
    by_cases e : p = k
    · subst e
      rw [hs] at h2
      injection h2 with h2
      subst h2
      cases hf
    · exact ⟨p, v, by omega, h2⟩
theorem GrI.fresh (h : GrI l g k Sk gk) (hok : HtOk n l S g left) {j : Nat} {v : V3} (hs : l[k]? = some (HS.f j v)) : j ∉ Sk := fun hj => by
  obtain ⟨p, u, h1, h2⟩ := (h.mem j).1 hj
  have := hok.one hs h2
  omega
theorem GrI.put (h : GrI l g k Sk gk) (hok : HtOk n l S g left) {j : Nat} {v : V3} (hs : l[k]? = some (HS.f j v)) : GrI l g (k + 1) (insS j Sk) (pG gk (j : Nat) v) := by
  have hfr := h.fresh hok hs
  have hv := (hok.full k j v hs).2.1
  refine ⟨fun i => ?_, fun i hi => ?_, by rw [len_insS hfr]; exact Nat.succ_le_succ h.len⟩
  · rw [mem_insS, h.mem]
    constructor
    · rintro (rfl | ⟨p, u, h1, h2⟩)
      · exact ⟨k, v, by omega, hs⟩
      · exact ⟨p, u, by omega, h2⟩
    · rintro ⟨p, u, h1, h2⟩
      by_cases e : p = k
      · subst e
        rw [hs] at h2
        injection h2 with h2
        injection h2 with h2 _
        exact .inl h2.symm
      · exact .inr ⟨p, u, by omega, h2⟩
  · by_cases e : i = j
    · subst e
      simp only [pG]
      rw [if_pos trivial, hv]
    · have : i ∈ Sk := (mem_insS.1 hi).resolve_left e
      simp only [pG]
      rw [if_neg (by omega), h.val i this]
theorem HtOk.congr {g' : Nat → V3} (h : HtOk n l S g left) (hg : ∀ j ∈ S, g j = g' j) : HtOk n l S g' left :=
  ⟨h.pow, h.len, h.sorted, h.small, fun p i v hv => by
    obtain ⟨h1, h2, h3⟩ := h.full p i v hv
    exact ⟨h1, by rw [h2, hg i h1], h3⟩, fun i hi => by
    obtain ⟨p, hp⟩ := h.has i hi
    exact ⟨p, by rw [← hg i hi]; exact hp⟩, h.cf, h.ct⟩
/-- All have been put anew. -/
theorem GrI.done {n' left' : Nat} {l' : List HS} (h : GrI l g l.length Sk gk) (hok : HtOk n l S g left) (hok' : HtOk n' l' Sk gk left') : HtOk n' l' S g left' := by
  have e : Sk = S := sorted_ext hok'.sorted hok.sorted fun j => by
    rw [h.mem]
    constructor
    · rintro ⟨p, v, _, h2⟩
      exact (hok.full p j v h2).1
    · intro hj
      obtain ⟨p, hp⟩ := hok.has j hj
      exact ⟨p, g j, (List.getElem?_eq_some_iff.1 hp).1, hp⟩
  subst e
  exact hok'.congr h.val
theorem Pow.twice {n m : Nat} (h : Pow n) (hm : n < 2 * m) (hm2 : m ≤ 65536) : Pow (n * 2) := by
  obtain ⟨k, h1, h2, rfl⟩ := h
  refine ⟨k + 1, by omega, ?_, by rw [Nat.pow_succ]⟩
  refine Classical.byContradiction fun hc => ?_
  have : 2 ^ 18 ≤ 2 ^ k := Nat.pow_le_pow_right (by decide) (by omega)
  omega
end
end Go.Proofs.YtcnbmfaicbkhcaaGreatDoor

/-
  The contracts of values found by sums (hash): grow.
-/
set_option maxRecDepth 100000
namespace Go.Proofs.YtcnbmfaicbkhcaaGreatDoor
open Go Go.RowKit
attribute [local irreducible] wpList Calls Code.wp okI okN pS memS getG homeN at_ insS FreeAt

theorem rd5 {j q : Nat} {v : V3} {x : Value} (hx : (c3 v)[q]? = some x) : (c5 (HS.f j v)).toArray[2 + q]? = some x := by
  rw [show 2 + q = q + 2 by omega]
  simpa [c5, HS.vl] using hx
theorem sizeH (S : List Nat) (left : Nat) (v : Value) : (Tryz.prog.info? 469).map (·.size) = some (Value.agg #[.int .i64 (S.length : Nat), .int .i64 (left : Nat), v]).cells.size := by kernel_rfl
theorem WrA.ht3 {w0 : World} {D left left' n n' cap cap' : Nat} {S S' : List Nat} {A A' : Option Addr} {t : TypeId} {L : List As} : WrA w0 (YtcnbmfaicbkhcaaGreatDoor.blk D (htC S left A n cap) t :: L) ⟨D, 0, none⟩ (Value.agg (htC S' left' A' n' cap')).cells.toList (YtcnbmfaicbkhcaaGreatDoor.blk D (htC S' left' A' n' cap') t :: L) := by
  have := WrA.blk (w0 := w0) (g := D) (o := 0) (cs := (htC S left A n cap).toList) (t := t) (vs := (htC S' left' A' n' cap').toList) (L := L) (by simp) (by simp; exact ⟨rfl, rfl, rfl⟩)
  rwa [splice_all (by simp)] at this
set_option maxHeartbeats 1000000 in
theorem ht_grow {w0 w : World} {L : List As} {D left : Nat} {S : List Nat} {g : Nat → V3} {l : List HS} {A : Option Addr} {cap : Nat} (hs : St w0 (blk D (htC S left A l.length cap) 469 :: own A l.length cap 513 5 (cs5 l) :: L) w) (hok : HtOk l.length l S g left) (hrm : 4 * (S.length + left) ≤ 3 * l.length) (hsz : S.length + 1 ≤ 65536) :
    Calls Tryz.prog 404 #[.pointer (some ⟨D, 0, none⟩)] w fun e w' => ∃ l' left' A' cap', e = .returned (.tuple #[]) ∧ HtOk l'.length l' S g left' ∧ 4 * (S.length + left' + 1) ≤ 3 * l'.length ∧ St w0 (blk D (htC S left' A' l'.length cap') 469 :: own A' l'.length cap' 513 5 (cs5 l') :: L) w' := by
  have hnb := hok.pow.pos
  obtain ⟨gA, rfl⟩ := (hs.ent (Ent.swap _ _ _)).own_at (by omega)
  obtain ⟨n, hn⟩ : ∃ n, n = l.length := ⟨_, rfl⟩
  rw [← hn] at hs hok hrm hnb
  have HOK := Lib.hid hok
  have HN := Lib.hid hn
  have hl262 : left ≤ 262144 := by omega
  have hc2 := Rd.ht2 w hs
  have hc0 := (Rd.ht0 (w0 := w0) (D := D) (n := n) (cap := cap) (A := some ⟨gA, 0, none⟩) (S := S) (left := left) (t := 469) (L := own (some ⟨gA, 0, none⟩) n cap 513 5 (cs5 l) :: L))
  have hc1 := (Rd.ht1 (w0 := w0) (D := D) (n := n) (cap := cap) (A := some ⟨gA, 0, none⟩) (S := S) (left := left) (t := 469) (L := own (some ⟨gA, 0, none⟩) n cap 513 5 (cs5 l) :: L))
  clear hok hn
  go_enter Tryz.func404, Tryz.ntmps404
  go_upto_region 1 with (fail)
  clear hc2
  refine wp_region_grow (by kernel_rfl) (by kernel_rfl) fun hne => ?_
  have k0 := hc0.gall hs
  have k1 := hc1.gall hs
  repeat (go_big_quiet_step (fail))
  refine wpQuiet_nil ?_
  intro u hu
  clear k0 k1 hne
  replace hs := hs.grew hu
  by_cases hbig : 4 * (S.length + left + 1) ≤ 3 * n
  · have d0 : decide (4 * ((S.length : Int) + (left : Int) + 1) ≤ 3 * (n : Int)) = true := decide_eq_true (by omega)
    go_wp2
    refine bodyPost_at (results_none rfl _ _ _) rfl ?_
    rw [HN.out] at hs HOK hbig
    exact ⟨l, left, _, cap, rfl, HOK.out, hbig, hs⟩
  · have d0 : decide (4 * ((S.length : Int) + (left : Int) + 1) ≤ 3 * (n : Int)) = false := decide_eq_false (by omega)
    have hcf := hc0 _ hs
    by_cases hdb : n < 2 * (S.length + 1)
    · have d1 : decide ((n : Int) < 2 * ((S.length : Int) + 1)) = true := decide_eq_true (by omega)
      go_upto_region 4 with (fail)
      obtain ⟨N, hNN⟩ : ∃ N, N = n * 2 := ⟨_, rfl⟩
      have hPN : Pow N := by rw [hNN]; exact HOK.out.pow.twice hdb hsz
      have hNI : (n : Int) * 2 = (N : Nat) := by omega
      rw [hNI]
      have hN1 : n ≤ N := by omega
      have hN2 : N ≤ 262144 := hPN.pos.2
      have hN3 : 4 * (S.length + 0 + 1) ≤ 3 * N := by omega
      clear hcf hc0 hc1 d0 d1 hNI hNN hdb hbig
      have hc2 := Rd.ht2 _ hs
      go_upto_region 6 with (first
        | (at_make; refine wpl_make (n := N) Tryz.underlying465 info5 rfl rfl rfl (by omega) (by simp only [maxLen]; omega) hs ?_; clear hs hc2; intro G w hs; rw [made5] at hs)
        | (refine wpl_store_agg (v := .agg (htC [] 0 (some ⟨G, 0, none⟩) N N)) rfl rfl (sizeH _ _ _) hs.rot WrA.ht3 ?_; clear hs; intro w hs))
      have hsl := Rd.ht2 _ hs
      go_upto_region 7 with (fail)
      clear hsl
      go_loopw [49] (fun cv wr => ∃ (k : Nat) (Sk : List Nat) (gk : Nat → V3) (lk : List HS), k ≤ n ∧ cv = .int .i64 (k : Nat) ∧ Hid (GrI l g k Sk gk) ∧ Hid (HtOk N lk Sk gk 0) ∧ St w0 (blk D (htC Sk 0 (some ⟨G, 0, none⟩) N N) 469 :: own (some ⟨G, 0, none⟩) N N 513 5 (cs5 lk) :: own (some ⟨gA, 0, none⟩) n cap 513 5 (cs5 l) :: L) wr) (fun cv _ => n - (intOf cv).toNat)
      case atStart => exact ⟨0, [], g, List.replicate N .e, Nat.zero_le _, rfl, GrI.start l g g, HtOk.fresh hPN g, hs⟩
      case round =>
        clear hs
        obtain ⟨k, Sk, gk, lk, hkn, rfl, HG, HK, hs⟩ := hrel
        by_cases hlt : k < n
        · have d3 : decide ((k : Int) < (n : Int)) = true := decide_eq_true (by omega)
          obtain ⟨s, hsd⟩ : ∃ s, l[k]? = some s := ⟨_, List.getElem?_eq_getElem (by rw [← HN.out]; exact hlt)⟩
          have hrv := fun j u hu => ((Rd.row5 (w0 := w0) (g := gA) (n := n) (cap := cap) (t := 513) (L := L) hsd j u hu).tail (p := own (some ⟨G, 0, none⟩) N N 513 5 (cs5 lk))).tail (p := blk D (htC Sk 0 (some ⟨G, 0, none⟩) N N) 469)
          cases s with
          | e =>
            have HG2 := Lib.hid (HG.out.skip hsd rfl)
            clear hsd HG
            go_upto_region 9 with (first
              | (refine wpl_load_agg (cs := c5 (HS.e)) (b := gA) (o := k * 5) rfl agg5 (size5n (HS.e)) hs hrv ?_; clear hrv)
              | (refine wpl_alloc zero5 hs ?_; clear hs; intro g5 w1 hs)
              | (refine wpl_store_agg (v := val5 (HS.e)) rfl rfl (size5 _) hs WrA.slot5 ?_; clear hs; intro wv hs))
            have k0 : wv.cell? ⟨g5, 0, none⟩ = some (.int .i64 (HS.kn (HS.e))) := Rd.blk (g := g5) (k := 0) (cs := (c5 (HS.e)).toArray) (t := 513) rfl _ hs
            have k1 : wv.cell? ⟨g5, 1, none⟩ = some (.int .i64 (HS.ix (HS.e))) := Rd.blk (g := g5) (k := 1) (cs := (c5 (HS.e)).toArray) (t := 513) rfl _ hs
            simp only [HS.kn, HS.ix] at k0 k1
            go_wp2
            refine ⟨⟨k + 1, Sk, gk, lk, by omega, by go_num, HG2, HK, hs.drop⟩, ?_⟩
            simp only [intOf]
            omega
          | t =>
            have HG2 := Lib.hid (HG.out.skip hsd rfl)
            clear hsd HG
            go_upto_region 9 with (first
              | (refine wpl_load_agg (cs := c5 (HS.t)) (b := gA) (o := k * 5) rfl agg5 (size5n (HS.t)) hs hrv ?_; clear hrv)
              | (refine wpl_alloc zero5 hs ?_; clear hs; intro g5 w1 hs)
              | (refine wpl_store_agg (v := val5 (HS.t)) rfl rfl (size5 _) hs WrA.slot5 ?_; clear hs; intro wv hs))
            have k0 : wv.cell? ⟨g5, 0, none⟩ = some (.int .i64 (HS.kn (HS.t))) := Rd.blk (g := g5) (k := 0) (cs := (c5 (HS.t)).toArray) (t := 513) rfl _ hs
            have k1 : wv.cell? ⟨g5, 1, none⟩ = some (.int .i64 (HS.ix (HS.t))) := Rd.blk (g := g5) (k := 1) (cs := (c5 (HS.t)).toArray) (t := 513) rfl _ hs
            simp only [HS.kn, HS.ix] at k0 k1
            go_wp2
            refine ⟨⟨k + 1, Sk, gk, lk, by omega, by go_num, HG2, HK, hs.drop⟩, ?_⟩
            simp only [intOf]
            omega
          | f j v =>
            have hfr := HG.out.fresh HOK.out hsd
            have HG2 := Lib.hid (HG.out.put HOK.out hsd)
            have hj6 := HOK.out.small j (HOK.out.full k j v hsd).1
            have hrmk : Sk.length + 0 < N := by have := HG.out.len; omega
            clear hsd HG
            go_upto_region 9 with (first
              | (refine wpl_load_agg (cs := c5 (HS.f j v)) (b := gA) (o := k * 5) rfl agg5 (size5n (HS.f j v)) hs hrv ?_; clear hrv)
              | (refine wpl_alloc zero5 hs ?_; clear hs; intro g5 w1 hs)
              | (refine wpl_store_agg (v := val5 (HS.f j v)) rfl rfl (size5 _) hs WrA.slot5 ?_; clear hs; intro wv hs))
            have k0 : wv.cell? ⟨g5, 0, none⟩ = some (.int .i64 (HS.kn (HS.f j v))) := Rd.blk (g := g5) (k := 0) (cs := (c5 (HS.f j v)).toArray) (t := 513) rfl _ hs
            have k1 : wv.cell? ⟨g5, 1, none⟩ = some (.int .i64 (HS.ix (HS.f j v))) := Rd.blk (g := g5) (k := 1) (cs := (c5 (HS.f j v)).toArray) (t := 513) rfl _ hs
            simp only [HS.kn, HS.ix] at k0 k1
            go_wp2_with (first
              | (refine wpl_load_agg (cs := c3 v) (b := g5) (o := 2) rfl agg3 (size3 v) hs (fun q x hx => Rd.blk (rd5 hx)) ?_)
              | (go_at_call 406; refine (ht_put_raw hs.drop HK.out hrmk hj6 hfr v).mono ?_; clear hs k0 k1; rintro e w ⟨l', left', rfl, hok', hle, hs⟩))
            obtain rfl : left' = 0 := by omega
            refine ⟨⟨k + 1, (insS j Sk), (pG gk (j : Nat) v), l', by omega, by go_num, HG2, hok', hs⟩, ?_⟩
            simp only [intOf]
            omega
        · have d3 : decide ((k : Int) < (n : Int)) = false := decide_eq_false (by omega)
          go_wp2
          go_end0
          have hkl : k = l.length := by rw [← HN.out]; omega
          have hgd := HG.out
          rw [hkl] at hgd
          have hfin := hgd.done HOK.out HK.out
          have hSS : Sk = S := sorted_ext HK.out.sorted HOK.out.sorted fun j => by
            rw [hgd.mem]
            constructor
            · rintro ⟨p, v, _, h2⟩
              exact (HOK.out.full p j v h2).1
            · intro hj
              obtain ⟨p, hp⟩ := HOK.out.has j hj
              exact ⟨p, g j, (List.getElem?_eq_some_iff.1 hp).1, hp⟩
          have hNl := hfin.len
          subst hSS
          have hs2 := (hs.ent (M := own (some ⟨gA, 0, none⟩) n cap 513 5 (cs5 l) :: blk D (htC Sk 0 (some ⟨G, 0, none⟩) N N) 469 :: own (some ⟨G, 0, none⟩) N N 513 5 (cs5 lk) :: L) (by (repeat first | exact Ent.refl _ | refine Ent.step (by repeat first | exact Ent.refl _ | apply Ent.skip) ?_))).drop
          clear hs
          rw [← hNl] at hs2 hfin hN3
          exact ⟨lk, 0, _, _, rfl, hfin, hN3, hs2⟩
    · have d1 : decide ((n : Int) < 2 * ((S.length : Int) + 1)) = false := decide_eq_false (by omega)
      have hPN : Pow n := HOK.out.pow
      have hN1 : n ≤ n := Nat.le_refl _
      have hN2 : n ≤ 262144 := hPN.pos.2
      have hN3 : 4 * (S.length + 0 + 1) ≤ 3 * n := by omega
      go_upto_region 4 with (fail)
      clear hcf hc0 hc1 d0 d1 hdb hbig
      have hc2 := Rd.ht2 _ hs
      go_upto_region 6 with (first
        | (at_make; refine wpl_make (n := n) Tryz.underlying465 info5 rfl rfl rfl (by omega) (by simp only [maxLen]; omega) hs ?_; clear hs hc2; intro G w hs; rw [made5] at hs)
        | (refine wpl_store_agg (v := .agg (htC [] 0 (some ⟨G, 0, none⟩) n n)) rfl rfl (sizeH _ _ _) hs.rot WrA.ht3 ?_; clear hs; intro w hs))
      have hsl := Rd.ht2 _ hs
      go_upto_region 7 with (fail)
      clear hsl
      go_loopw [49] (fun cv wr => ∃ (k : Nat) (Sk : List Nat) (gk : Nat → V3) (lk : List HS), k ≤ n ∧ cv = .int .i64 (k : Nat) ∧ Hid (GrI l g k Sk gk) ∧ Hid (HtOk n lk Sk gk 0) ∧ St w0 (blk D (htC Sk 0 (some ⟨G, 0, none⟩) n n) 469 :: own (some ⟨G, 0, none⟩) n n 513 5 (cs5 lk) :: own (some ⟨gA, 0, none⟩) n cap 513 5 (cs5 l) :: L) wr) (fun cv _ => n - (intOf cv).toNat)
      case atStart => exact ⟨0, [], g, List.replicate n .e, Nat.zero_le _, rfl, GrI.start l g g, HtOk.fresh hPN g, hs⟩
      case round =>
        clear hs
        obtain ⟨k, Sk, gk, lk, hkn, rfl, HG, HK, hs⟩ := hrel
        by_cases hlt : k < n
        · have d3 : decide ((k : Int) < (n : Int)) = true := decide_eq_true (by omega)
          obtain ⟨s, hsd⟩ : ∃ s, l[k]? = some s := ⟨_, List.getElem?_eq_getElem (by rw [← HN.out]; exact hlt)⟩
          have hrv := fun j u hu => ((Rd.row5 (w0 := w0) (g := gA) (n := n) (cap := cap) (t := 513) (L := L) hsd j u hu).tail (p := own (some ⟨G, 0, none⟩) n n 513 5 (cs5 lk))).tail (p := blk D (htC Sk 0 (some ⟨G, 0, none⟩) n n) 469)
          cases s with
          | e =>
            have HG2 := Lib.hid (HG.out.skip hsd rfl)
            clear hsd HG
            go_upto_region 9 with (first
              | (refine wpl_load_agg (cs := c5 (HS.e)) (b := gA) (o := k * 5) rfl agg5 (size5n (HS.e)) hs hrv ?_; clear hrv)
              | (refine wpl_alloc zero5 hs ?_; clear hs; intro g5 w1 hs)
              | (refine wpl_store_agg (v := val5 (HS.e)) rfl rfl (size5 _) hs WrA.slot5 ?_; clear hs; intro wv hs))
            have k0 : wv.cell? ⟨g5, 0, none⟩ = some (.int .i64 (HS.kn (HS.e))) := Rd.blk (g := g5) (k := 0) (cs := (c5 (HS.e)).toArray) (t := 513) rfl _ hs
            have k1 : wv.cell? ⟨g5, 1, none⟩ = some (.int .i64 (HS.ix (HS.e))) := Rd.blk (g := g5) (k := 1) (cs := (c5 (HS.e)).toArray) (t := 513) rfl _ hs
            simp only [HS.kn, HS.ix] at k0 k1
            go_wp2
            refine ⟨⟨k + 1, Sk, gk, lk, by omega, by go_num, HG2, HK, hs.drop⟩, ?_⟩
            simp only [intOf]
            omega
          | t =>
            have HG2 := Lib.hid (HG.out.skip hsd rfl)
            clear hsd HG
            go_upto_region 9 with (first
              | (refine wpl_load_agg (cs := c5 (HS.t)) (b := gA) (o := k * 5) rfl agg5 (size5n (HS.t)) hs hrv ?_; clear hrv)
              | (refine wpl_alloc zero5 hs ?_; clear hs; intro g5 w1 hs)
              | (refine wpl_store_agg (v := val5 (HS.t)) rfl rfl (size5 _) hs WrA.slot5 ?_; clear hs; intro wv hs))
            have k0 : wv.cell? ⟨g5, 0, none⟩ = some (.int .i64 (HS.kn (HS.t))) := Rd.blk (g := g5) (k := 0) (cs := (c5 (HS.t)).toArray) (t := 513) rfl _ hs
            have k1 : wv.cell? ⟨g5, 1, none⟩ = some (.int .i64 (HS.ix (HS.t))) := Rd.blk (g := g5) (k := 1) (cs := (c5 (HS.t)).toArray) (t := 513) rfl _ hs
            simp only [HS.kn, HS.ix] at k0 k1
            go_wp2
            refine ⟨⟨k + 1, Sk, gk, lk, by omega, by go_num, HG2, HK, hs.drop⟩, ?_⟩
            simp only [intOf]
            omega
          | f j v =>
            have hfr := HG.out.fresh HOK.out hsd
            have HG2 := Lib.hid (HG.out.put HOK.out hsd)
            have hj6 := HOK.out.small j (HOK.out.full k j v hsd).1
            have hrmk : Sk.length + 0 < n := by have := HG.out.len; omega
            clear hsd HG
            go_upto_region 9 with (first
              | (refine wpl_load_agg (cs := c5 (HS.f j v)) (b := gA) (o := k * 5) rfl agg5 (size5n (HS.f j v)) hs hrv ?_; clear hrv)
              | (refine wpl_alloc zero5 hs ?_; clear hs; intro g5 w1 hs)
              | (refine wpl_store_agg (v := val5 (HS.f j v)) rfl rfl (size5 _) hs WrA.slot5 ?_; clear hs; intro wv hs))
            have k0 : wv.cell? ⟨g5, 0, none⟩ = some (.int .i64 (HS.kn (HS.f j v))) := Rd.blk (g := g5) (k := 0) (cs := (c5 (HS.f j v)).toArray) (t := 513) rfl _ hs
            have k1 : wv.cell? ⟨g5, 1, none⟩ = some (.int .i64 (HS.ix (HS.f j v))) := Rd.blk (g := g5) (k := 1) (cs := (c5 (HS.f j v)).toArray) (t := 513) rfl _ hs
            simp only [HS.kn, HS.ix] at k0 k1
            go_wp2_with (first
              | (refine wpl_load_agg (cs := c3 v) (b := g5) (o := 2) rfl agg3 (size3 v) hs (fun q x hx => Rd.blk (rd5 hx)) ?_)
              | (go_at_call 406; refine (ht_put_raw hs.drop HK.out hrmk hj6 hfr v).mono ?_; clear hs k0 k1; rintro e w ⟨l', left', rfl, hok', hle, hs⟩))
            obtain rfl : left' = 0 := by omega
            refine ⟨⟨k + 1, (insS j Sk), (pG gk (j : Nat) v), l', by omega, by go_num, HG2, hok', hs⟩, ?_⟩
            simp only [intOf]
            omega
        · have d3 : decide ((k : Int) < (n : Int)) = false := decide_eq_false (by omega)
          go_wp2
          go_end0
          have hkl : k = l.length := by rw [← HN.out]; omega
          have hgd := HG.out
          rw [hkl] at hgd
          have hfin := hgd.done HOK.out HK.out
          have hSS : Sk = S := sorted_ext HK.out.sorted HOK.out.sorted fun j => by
            rw [hgd.mem]
            constructor
            · rintro ⟨p, v, _, h2⟩
              exact (HOK.out.full p j v h2).1
            · intro hj
              obtain ⟨p, hp⟩ := HOK.out.has j hj
              exact ⟨p, g j, (List.getElem?_eq_some_iff.1 hp).1, hp⟩
          have hNl := hfin.len
          subst hSS
          have hs2 := (hs.ent (M := own (some ⟨gA, 0, none⟩) n cap 513 5 (cs5 l) :: blk D (htC Sk 0 (some ⟨G, 0, none⟩) n n) 469 :: own (some ⟨G, 0, none⟩) n n 513 5 (cs5 lk) :: L) (by (repeat first | exact Ent.refl _ | refine Ent.step (by repeat first | exact Ent.refl _ | apply Ent.skip) ?_))).drop
          clear hs
          rw [← hNl] at hs2 hfin hN3
          exact ⟨lk, 0, _, _, rfl, hfin, hN3, hs2⟩
end Go.Proofs.YtcnbmfaicbkhcaaGreatDoor

/-
  The contracts of values found by sums (hash): Put.
-/
set_option maxRecDepth 100000
namespace Go.Proofs.YtcnbmfaicbkhcaaGreatDoor
open Go Go.RowKit
attribute [local irreducible] wpList Calls Code.wp okI okN pS memS getG homeN at_ insS FreeAt pG

theorem cs5_setv {l : List HS} {p i : Nat} {u : V3} (v : V3) (h : l[p]? = some (HS.f i u)) : splice (cs5 l) (p * 5 + 2) (c3 v) = cs5 (l.set p (HS.f i v)) := by
  have h0 : (cs5 l)[p * 5 + 0]? = some (.int .i64 1) := flat_get c5_len h 0 _ rfl
  have h1 : (cs5 l)[p * 5 + 1]? = some (.int .i64 (i : Nat)) := flat_get c5_len h 1 _ rfl
  rw [Nat.add_zero] at h0
  rw [splice_in h1, splice_in h0]
  exact flat_set c5_len (HS.f i v) (List.getElem?_eq_some_iff.1 h).1
theorem ht_put_bad {w0 w : World} {L : List As} {D : Nat} {S : List Nat} {g : Nat → V3} (hs : St w0 (HtB D S g :: L) w) {i : Int} (hi2 : ¬ (0 ≤ i ∧ i < 65536)) (v : V3) :
    Calls Tryz.prog 402 #[.pointer (some ⟨D, 0, none⟩), .int .i64 i, val3 v] w fun e w' => e = .returned (.tuple #[val3 V3.z, .bool false]) ∧ St w0 (HtB D S g :: L) w' := by
  by_cases h0 : i < 0
  all_goals
    go_enter Tryz.func402, Tryz.ntmps402
    go_upto_region 2 with (first
      | (refine wpl_box_v (v := val3 v) rfl hs ?_; clear hs; intro g5 w hs)
      | (refine wpl_alloc zero3 hs ?_; clear hs; intro g6 w hs))
    try replace hs : St w0 (blk g6 (c3 V3.z).toArray 41 :: blk g5 (c3 v).toArray 41 :: HtB D S g :: L) w := hs
    go_wp2_with (first
      | (refine wpl_store_agg (v := val3 V3.z) rfl rfl (size3 _) hs WrA.slot3 ?_; clear hs; intro w hs))
    refine bodyPost_at (results_cell_tmp Tryz.results402 rfl (hs.slot_run agg3 (size3 _))) rfl ?_
    exact ⟨rfl, hs.drop.drop⟩
theorem find_free2 {w0 w : World} {L : List As} {D left n : Nat} {S : List Nat} {g : Nat → V3} {l : List HS} {A : Option Addr} {cap i : Nat} (hs : St w0 (blk D (htC S left A n cap) 469 :: own A n cap 513 5 (cs5 l) :: L) w) (hok : Hid (HtOk n l S g left)) (hroom : S.length + left < n) (hi : i < 65536) (hiS : i ∉ S) :
    Calls Tryz.prog 405 #[.pointer (some ⟨D, 0, none⟩), .int .i64 (i : Nat)] w fun e w' => ∃ q : Nat, e = .returned (.tuple #[.int .i64 (-1), .int .i64 (q : Nat)]) ∧ Grew w w' :=
  (find_free hs hok hroom hi hiS).mono fun _ _ ⟨q, _, _, he, hg⟩ => ⟨q, he, hg⟩
theorem HtOk.room3 {n : Nat} {S : List Nat} {left : Nat} (hn : 8 ≤ n) (hr : 4 * (S.length + left + 1) ≤ 3 * n) : S.length + left < n := by omega
theorem ht_put_new {w0 w : World} {L : List As} {D : Nat} {S : List Nat} {g : Nat → V3} (hs : St w0 (HtB D S g :: L) w) {i : Nat} (hi : i ∉ S) (hi6 : i < 65536) (v : V3) :
    Calls Tryz.prog 402 #[.pointer (some ⟨D, 0, none⟩), .int .i64 (i : Nat), val3 v] w fun e w' => e = .returned (.tuple #[val3 V3.z, .bool false]) ∧ St w0 (HtB D (insS i S) (pG g (i : Nat) v) :: L) w' := by
  obtain ⟨l, left, A, cap, ⟨hok, hrm⟩, hs⟩ := hs.htopen
  have hrm2 := hok.room2 hrm
  have hlS := len_insS hi
  have hsz : S.length + 1 ≤ 65536 := by
    rw [← hlS]
    refine sorted_short (sorted_insS hok.sorted) fun j hj => ?_
    rcases mem_insS.1 hj with rfl | hj
    · exact hi6
    · exact hok.small j hj
  have HLS := Lib.hid hlS
  have HOK := Lib.hid hok
  have d0 : decide ((i : Int) < 0) = false := decide_eq_false (by omega)
  have d1 : decide (65536 ≤ (i : Int)) = false := decide_eq_false (by omega)
  clear hok hlS
  go_enter Tryz.func402, Tryz.ntmps402
  go_upto_region 3 with (first
    | (refine wpl_box_v (v := val3 v) rfl hs ?_; clear hs; intro g5 w hs)
    | (refine wpl_alloc zero3 hs ?_; clear hs; intro g6 w hs))
  replace hs : St w0 (blk D (htC S left A l.length cap) 469 :: own A l.length cap 513 5 (cs5 l) :: blk g5 (c3 v).toArray 41 :: blk g6 (c3 V3.z).toArray 41 :: L) w := hs.ent (by (repeat first | exact Ent.refl _ | refine Ent.step (by repeat first | exact Ent.refl _ | apply Ent.skip) ?_))
  go_upto_region 9 with (first
    | (go_at_call 405; refine (find_free2 hs HOK hrm2 hi6 hi).mono ?_; rintro e w2 ⟨q, rfl, hg2⟩; replace hs := hs.grew hg2; clear hg2)
    | (go_at_call 404; refine (ht_grow hs HOK.out hrm hsz).mono ?_; clear hs; rintro e w ⟨l', left', A', cap', rfl, hok', hrm', hs⟩))
  have hrm3 : S.length + left' < l'.length := HtOk.room3 hok'.pow.pos.1 hrm'
  have HOK2 := Lib.hid hok'
  clear hok'
  go_wp2_with (first
    | (refine wpl_load3 (v := v) rfl ?hh agg3 size3n hs ?_; case hh => exact has3_tail (has3_tail has3_slot))
    | (go_at_call 406; refine (ht_put_raw hs HOK2.out hrm3 hi6 hi v).mono ?_; clear hs; rintro e w ⟨l2, left2, rfl, hok2, hle2, hs⟩)
    | (refine wpl_store_agg (v := val3 V3.z) rfl rfl (size3 _) (hs.ent (Ent.skip (Ent.skip (Ent.skip (Ent.refl _))))) WrA.slot3 ?_; clear hs; intro w hs))
  refine bodyPost_at (results_cell_tmp Tryz.results402 rfl (hs.slot_run agg3 (size3 _))) rfl ?_
  refine ⟨rfl, ?_⟩
  have hl2 : l'.length = l2.length := hok2.len.symm
  have hls := HLS.out
  rw [hl2] at hs hok2 hrm'
  exact ((hs.drop.htshut hok2 (by omega)).rot).drop
end Go.Proofs.YtcnbmfaicbkhcaaGreatDoor

/-
  The contracts of values found by sums (hash): Put of an index that is there; Put.
-/
set_option maxRecDepth 100000
namespace Go.Proofs.YtcnbmfaicbkhcaaGreatDoor
open Go Go.RowKit
attribute [local irreducible] wpList Calls Code.wp okI okN pS memS getG homeN at_ insS FreeAt pG

set_option maxHeartbeats 1000000 in
theorem ht_put_old {w0 w : World} {L : List As} {D : Nat} {S : List Nat} {g : Nat → V3} (hs : St w0 (HtB D S g :: L) w) {i : Nat} (hi : i ∈ S) (v : V3) :
    Calls Tryz.prog 402 #[.pointer (some ⟨D, 0, none⟩), .int .i64 (i : Nat), val3 v] w fun e w' => e = .returned (.tuple #[val3 (g i), .bool true]) ∧ St w0 (HtB D S (pG g (i : Nat) v) :: L) w' := by
  obtain ⟨l, left, A, cap, ⟨hok, hrm⟩, hs⟩ := hs.htopen
  obtain ⟨p, hp⟩ := hok.has i hi
  have hi6 := hok.small i hi
  have hpl := (List.getElem?_eq_some_iff.1 hp).1
  obtain ⟨gA, rfl⟩ := (hs.ent (Ent.swap _ _ _)).own_at (by omega)
  have hturn := hok.turn hp v
  rw [updG_pG] at hturn
  have HT := Lib.hid hturn
  have HW := Lib.hid (cs5_setv v hp)
  generalize g i = u at hp ⊢
  have hrv := fun L k x hx => (Rd.row5 (w0 := w0) (g := gA) (n := l.length) (cap := cap) (t := 513) (L := L) hp k x hx).tail (p := blk D (htC S left (some ⟨gA, 0, none⟩) l.length cap) 469)
  have hrv3 : ∀ L k x, (c3 u)[k]? = some x → Rd w0 (blk D (htC S left (some ⟨gA, 0, none⟩) l.length cap) 469 :: own (some ⟨gA, 0, none⟩) l.length cap 513 5 (cs5 l) :: L) ⟨gA, p * 5 + 2 + k, none⟩ x := fun L k x hx => by
    rw [show p * 5 + 2 + k = p * 5 + (k + 2) by omega]
    exact hrv L (k + 2) x (by simpa [c5, HS.vl] using hx)
  have hr2 := fun L => Rd.ht2 (w0 := w0) (D := D) (n := l.length) (cap := cap) (A := some ⟨gA, 0, none⟩) (S := S) (left := left) (t := 469) (L := L)
  have HP := Lib.hid hp
  have HOK := Lib.hid hok
  have d0 : decide ((i : Int) < 0) = false := decide_eq_false (by omega)
  have d1 : decide (65536 ≤ (i : Int)) = false := decide_eq_false (by omega)
  clear hp hok hrv hi hturn
  go_enter Tryz.func402, Tryz.ntmps402
  go_upto_region 3 with (first
    | (refine wpl_box_v (v := val3 v) rfl hs ?_; clear hs; intro g5 w hs)
    | (refine wpl_alloc zero3 hs ?_; clear hs; intro g6 w hs))
  replace hs : St w0 (blk D (htC S left (some ⟨gA, 0, none⟩) l.length cap) 469 :: own (some ⟨gA, 0, none⟩) l.length cap 513 5 (cs5 l) :: blk g5 (c3 v).toArray 41 :: blk g6 (c3 V3.z).toArray 41 :: L) w := hs.ent (by (repeat first | exact Ent.refl _ | refine Ent.step (by repeat first | exact Ent.refl _ | apply Ent.skip) ?_))
  go_upto_region 6 with (first
    | (go_at_call 405; refine (find_in_v hs HOK hi6 HP).mono ?_; rintro e w2 ⟨rfl, hg2⟩; replace hs := hs.grew hg2; clear hg2; have hc2 := hr2 _ _ hs)
    | (refine wpl_load_agg (cs := c3 u) (b := gA) (o := p * 5 + 2) rfl agg3 (size3 u) hs (hrv3 _) ?_; clear hc2)
    | (refine wpl_alloc zero3 hs ?_; clear hs; intro g10 w hs)
    | (refine wpl_store_agg (v := val3 u) rfl rfl (size3 _) hs WrA.slot3 ?_; clear hs; intro w hs))
  clear hrv3
  have hs2 : St w0 (blk D (htC S left (some ⟨gA, 0, none⟩) l.length cap) 469 :: blk g5 (c3 v).toArray 41 :: own (some ⟨gA, 0, none⟩) l.length cap 513 5 (cs5 l) :: blk g10 (c3 u).toArray 41 :: blk g6 (c3 V3.z).toArray 41 :: L) w := hs.ent (by (repeat first | exact Ent.refl _ | refine Ent.step (by repeat first | exact Ent.refl _ | apply Ent.skip) ?_))
  clear hs
  simp only [Act.put, List.setIfInBounds_toArray, List.set_cons_succ, List.set_cons_zero]
  refine wp_region_plain [false, false, false, false, false, false, false, false, true] hs2.only2 (by kernel_rfl) (by kernel_rfl) fun hne => ?_
  have hc2 := (hr2 [blk g5 (c3 v).toArray 41]).alln
  have hh := has3_tail (p := blk D (htC S left (some ⟨gA, 0, none⟩) l.length cap) 469) (has3_slot (w0 := w0) (L := []) (g := g5) (v := v) (t := 41))
  have hv0 := (hh 0 _ rfl).alln
  have hv1 := (hh 1 _ rfl).alln
  have hv2 := (hh 2 _ rfl).alln
  simp only [Nat.add_zero, Nat.zero_add] at hv0 hv1 hv2
  clear hh
  simp only [pickOps]
  repeat (go_big_quiet_step (fail))
  refine wpQuiet_nil ?_
  clear hne hc2 hv0 hv1 hv2
  simp only [chainIx]
  refine wpChain_last rfl ?_
  refine wpl_store_agg (v := val3 v) rfl rfl (size3 v) (hs2.ent (M := own (some ⟨gA, 0, none⟩) l.length cap 513 5 (cs5 l) :: blk g10 (c3 u).toArray 41 :: blk g6 (c3 V3.z).toArray 41 :: blk D (htC S left (some ⟨gA, 0, none⟩) l.length cap) 469 :: blk g5 (c3 v).toArray 41 :: L) (by (repeat first | exact Ent.refl _ | refine Ent.step (by repeat first | exact Ent.refl _ | apply Ent.skip) ?_))).drew (WrA.own (o := p * 5 + 2) (vs := c3 v) (by rw [cs5_len]; simp [c3]; omega) (one3 v)) ?_
  clear hs2
  intro w hs
  rw [HW.out] at hs
  refine wpList_nil ⟨rfl, ?_⟩
  go_wp2_with (first
    | (refine wpl_load3 (v := u) rfl ?hh agg3 size3n hs ?_; case hh => exact has3_tail has3_slot)
    | (refine wpl_store_agg (v := val3 u) rfl rfl (size3 _) (hs.ent (M := blk g6 (c3 V3.z).toArray 41 :: blk D (htC S left (some ⟨gA, 0, none⟩) l.length cap) 469 :: own (some ⟨gA, 0, none⟩) l.length cap 513 5 (cs5 (l.set p (HS.f i v))) :: blk g10 (c3 u).toArray 41 :: blk g5 (c3 v).toArray 41 :: L) (by (repeat first | exact Ent.refl _ | refine Ent.step (by repeat first | exact Ent.refl _ | apply Ent.skip) ?_))) WrA.slot3 ?_; clear hs; intro w hs))
  refine bodyPost_at (results_cell_tmp Tryz.results402 rfl (hs.slot_run agg3 (size3 _))) rfl ?_
  refine ⟨rfl, ?_⟩
  have e : l.length = (l.set p (HS.f i v)).length := by simp
  have hT := HT.out
  replace hs := hs.drop
  rw [e] at hs hT hrm
  exact (((hs.htshut hT hrm).rot.drop).rot).drop
theorem ht_put {w0 w : World} {L : List As} {D : Nat} {S : List Nat} {g : Nat → V3} (hs : St w0 (HtB D S g :: L) w) (i : Int) (v : V3) :
    Calls Tryz.prog 402 #[.pointer (some ⟨D, 0, none⟩), .int .i64 i, val3 v] w fun e w' => e = .returned (.tuple #[val3 (getG S g i), .bool (memS S i)]) ∧ St w0 (HtB D (pS S i) (if okI i then pG g i v else g) :: L) w' := by
  obtain ⟨l, left, A, cap, ⟨hok, hrm⟩, _⟩ := hs.htopen
  by_cases hi : 0 ≤ i ∧ i < 65536
  · obtain ⟨j, rfl⟩ := Int.eq_ofNat_of_zero_le hi.1
    have hj6 : j < 65536 := by omega
    rw [pS_in hj6, if_pos (okI_nat hj6)]
    by_cases hj : j ∈ S
    · rw [getG_in hj, memS_iff.2 hj, ins_id hok.sorted hj]
      exact ht_put_old hs hj v
    · have hm : memS S (j : Nat) = false := by
        cases hm : memS S (j : Nat) with
        | false => rfl
        | true => exact absurd (memS_iff.1 hm) hj
      rw [getG_out hm, hm]
      exact ht_put_new hs hj hj6 v
  · have hm := hok.memOut hi
    have ho : okI i = false := by unfold okI; exact decide_eq_false hi
    rw [getG_out hm, hm, show pS S i = S by unfold pS; rw [ho]; rfl, ho, if_neg (by decide)]
    exact ht_put_bad hs hi v
end Go.Proofs.YtcnbmfaicbkhcaaGreatDoor

/-
  The contracts of values found by sums (hash): Take.
-/
set_option maxRecDepth 100000
namespace Go.Proofs.YtcnbmfaicbkhcaaGreatDoor
open Go Go.RowKit
attribute [local irreducible] wpList Calls Code.wp okI okN pS tS memS getG homeN at_ insS delS FreeAt pG

theorem ht_get_v {w0 w : World} {L : List As} {D : Nat} {S : List Nat} {g : Nat → V3} (hs : St w0 (HtB D S g :: L) w) {i : Int} {u : V3} {b : Bool} (hu : Hid (getG S g i = u)) (hb : Hid (memS S i = b)) :
    Calls Tryz.prog 400 #[.pointer (some ⟨D, 0, none⟩), .int .i64 i] w fun e w' => e = .returned (.tuple #[val3 u, .bool b]) ∧ Grew w w' := by
  rw [← hu.out, ← hb.out]; exact ht_get hs i
theorem ht_take_no {w0 w : World} {L : List As} {D : Nat} {S : List Nat} {g : Nat → V3} (hs : St w0 (HtB D S g :: L) w) {i : Int} (hm : memS S i = false) :
    Calls Tryz.prog 403 #[.pointer (some ⟨D, 0, none⟩), .int .i64 i] w fun e w' => e = .returned (.tuple #[val3 V3.z, .bool false]) ∧ St w0 (HtB D S g :: L) w' := by
  have HG := Lib.hid (getG_out (g := g) hm)
  have HM := Lib.hid hm
  clear hm
  go_enter Tryz.func403, Tryz.ntmps403
  go_wp2_with (first
    | (go_at_call 400; refine (ht_get_v hs.rot HG HM).mono ?_; rintro e w2 ⟨rfl, hg2⟩; replace hs := hs.grew hg2; clear hg2; have tk : True := trivial)
    | (refine wpl_alloc zero3 hs ?_; clear hs; intro g6 w hs)
    | (refine wpl_load3 (v := V3.z) rfl ?hh agg3 size3n hs ?_; case hh => exact has3_slot)
    | (refine wpl_store_agg (v := val3 V3.z) rfl rfl (size3 _) hs WrA.slot3 ?_; clear hs; intro w hs)
    | (refine wpl_store_agg (v := val3 V3.z) rfl rfl (size3 _) hs.rot WrA.slot3 ?_; clear hs; intro w hs))
  refine bodyPost_at (results_cell_tmp Tryz.results403 rfl (hs.slot_run agg3 (size3 _))) rfl ?_
  exact ⟨rfl, hs.drop.drop⟩
set_option maxHeartbeats 1000000 in
theorem ht_take_in {w0 w : World} {L : List As} {D : Nat} {S : List Nat} {g : Nat → V3} (hs : St w0 (HtB D S g :: L) w) {i : Nat} (hi : i ∈ S) :
    Calls Tryz.prog 403 #[.pointer (some ⟨D, 0, none⟩), .int .i64 (i : Nat)] w fun e w' => e = .returned (.tuple #[val3 (g i), .bool true]) ∧ St w0 (HtB D (delS i S) g :: L) w' := by
  have HG := Lib.hid (getG_in (g := g) hi)
  have HM := Lib.hid (memS_iff.2 hi)
  obtain ⟨u, HU⟩ : ∃ u, Hid (g i = u) := ⟨_, rfl⟩
  rw [HU.out] at HG ⊢
  go_enter Tryz.func403, Tryz.ntmps403
  go_upto_region 1 with (first
    | (refine wpl_alloc zero3 hs ?_; clear hs; intro g4 w hs))
  go_upto_region 3 with (first
    | (go_at_call 400; refine (ht_get_v hs.rot HG HM).mono ?_; rintro e w2 ⟨rfl, hg2⟩; replace hs := hs.grew hg2; clear hg2)
    | (refine wpl_alloc zero3 hs ?_; clear hs; intro g6 w hs)
    | (refine wpl_store_agg (v := val3 u) rfl rfl (size3 _) hs WrA.slot3 ?_; clear hs; intro w hs))
  replace hs : St w0 (HtB D S g :: blk g6 (c3 u).toArray 41 :: blk g4 (c3 V3.z).toArray 41 :: L) w := hs.ent (by (repeat first | exact Ent.refl _ | refine Ent.step (by repeat first | exact Ent.refl _ | apply Ent.skip) ?_))
  obtain ⟨l, left, A, cap, ⟨hok, hrm⟩, hs⟩ := hs.htopen
  obtain ⟨p, hp⟩ := hok.has i hi
  have hi6 := hok.small i hi
  have hpl := (List.getElem?_eq_some_iff.1 hp).1
  obtain ⟨gA, rfl⟩ := (hs.ent (Ent.swap _ _ _)).own_at (by omega)
  have HT := Lib.hid (hok.take hp)
  have hnb := hok.pow.pos
  have hdl := len_delS (sorted_nodup hok.sorted) hi
  have HDL : Hid (((S.length : Nat) : Int) - 1 = ((delS i S).length : Nat)) := by rw [Hid]; omega
  have HRM : Hid (4 * ((delS i S).length + (left + 1)) ≤ 3 * l.length) := by rw [Hid]; omega
  have hl262 : left ≤ 262144 := by omega
  have hs1 : 1 ≤ S.length := by omega
  have hs2 : S.length ≤ 262144 := by omega
  have HP := Lib.hid hp
  have HOK := Lib.hid hok
  clear hp hok hi hdl HG HM
  go_upto_region 4 with (first
    | (go_at_call 405; refine (find_in_v hs HOK hi6 HP).mono ?_; rintro e w2 ⟨rfl, hg2⟩; replace hs := hs.grew hg2; clear hg2))
  have hc2 := Rd.ht2 _ hs
  have hr0 := fun L => Rd.ht0 (w0 := w0) (D := D) (n := l.length) (cap := cap) (A := some ⟨gA, 0, none⟩) (S := S) (left := left) (t := 469) (L := L)
  have hr1 := fun L => Rd.ht1 (w0 := w0) (D := D) (n := l.length) (cap := cap) (A := some ⟨gA, 0, none⟩) (S := S) (left := left) (t := 469) (L := L)
  go_upto_region 5 with (first
    | (refine wpl_store_agg (v := val5 HS.t) rfl rfl (size5 _) (hs.ent (Ent.swap _ _ _)) (WrA.own (o := p * 5) (vs := c5 HS.t) (by rw [cs5_len, c5_len]; omega) (c5_one _)) ?_; clear hs hc2; intro w hs))
  rw [show splice (cs5 l) (p * 5) (c5 HS.t) = cs5 (l.set p HS.t) from flat_set c5_len _ hpl] at hs
  replace hs := hs.rot
  have hc0 := hr0 _ _ hs
  go_upto_region 6 with (first
    | (refine wpl_store rfl rfl rfl size_int1 hs (Wr.blk (k := 0) (by simp)) ?_; clear hs hc0; intro w hs))
  replace hs : St w0 (blk D #[.int .i64 ((S.length : Nat) - 1), .int .i64 (left : Nat), .slice (some ⟨gA, 0, none⟩) l.length cap] 469 :: own (some ⟨gA, 0, none⟩) l.length cap 513 5 (cs5 (l.set p HS.t)) :: blk g6 (c3 u).toArray 41 :: blk g4 (c3 V3.z).toArray 41 :: L) _ := hs
  have hc1 := Rd.blk (g := D) (k := 1) (cs := #[.int .i64 ((S.length : Nat) - 1), .int .i64 (left : Nat), .slice (some ⟨gA, 0, none⟩) l.length cap]) (v := .int .i64 (left : Nat)) rfl _ hs
  go_upto_region 7 with (first
    | (refine wpl_store rfl rfl rfl size_int1 hs (Wr.blk (k := 1) (by simp)) ?_; clear hs hc1; intro w hs))
  replace hs : St w0 (blk D #[.int .i64 ((S.length : Nat) - 1), .int .i64 ((left : Nat) + 1), .slice (some ⟨gA, 0, none⟩) l.length cap] 469 :: own (some ⟨gA, 0, none⟩) l.length cap 513 5 (cs5 (l.set p HS.t)) :: blk g6 (c3 u).toArray 41 :: blk g4 (c3 V3.z).toArray 41 :: L) _ := hs
  go_wp2_with (first
    | (refine wpl_load3 (v := u) rfl ?hh agg3 size3n hs ?_; case hh => exact has3_tail (has3_tail has3_slot))
    | (refine wpl_store_agg (v := val3 u) rfl rfl (size3 _) (hs.ent (Ent.skip (Ent.skip (Ent.skip (Ent.refl _))))) WrA.slot3 ?_; clear hs; intro w hs))
  refine bodyPost_at (results_cell_tmp Tryz.results403 rfl (hs.slot_run agg3 (size3 _))) rfl ?_
  refine ⟨rfl, ?_⟩
  have e : l.length = (l.set p HS.t).length := by simp
  have hT := HT.out
  have hRM := HRM.out
  replace hs := hs.drop
  rw [HDL.out, show ((left : Nat) : Int) + 1 = ((left + 1 : Nat) : Int) by omega] at hs
  rw [e] at hs hT hRM
  exact ((hs.htshut hT hRM).rot).drop
theorem ht_take {w0 w : World} {L : List As} {D : Nat} {S : List Nat} {g : Nat → V3} (hs : St w0 (HtB D S g :: L) w) (i : Int) :
    Calls Tryz.prog 403 #[.pointer (some ⟨D, 0, none⟩), .int .i64 i] w fun e w' => e = .returned (.tuple #[val3 (getG S g i), .bool (memS S i)]) ∧ St w0 (HtB D (tS S i) g :: L) w' := by
  cases hm : memS S i with
  | false =>
    rw [getG_out hm, show tS S i = S by unfold tS; rw [hm]; rfl]
    exact ht_take_no hs hm
  | true =>
    obtain ⟨j, rfl, hj⟩ := memS_in hm
    rw [getG_in hj, show tS S (j : Nat) = delS j S by unfold tS; rw [hm]; rfl]
    exact ht_take_in hs hj
end Go.Proofs.YtcnbmfaicbkhcaaGreatDoor
