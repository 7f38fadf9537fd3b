/-
  A table that is found by sums: plain law. No function of the program stands here.
-/
import Derived.Test.YtmdjpeblbnbjmaaJB
import Derived.Test.YtmdjpeblbnbjmaaSp
set_option maxRecDepth 100000
namespace Go.Proofs.Ytmdjpeblbnbjmaa
open Go Go.RowKit

/-- A slot: empty, a tomb, or an index with its value. -/
inductive HS where
  | e : HS
  | t : HS
  | f : Nat → V3 → HS
def HS.isE : HS → Bool
  | .e => true
  | _ => false
def HS.isF : HS → Bool
  | .f _ _ => true
  | _ => false
def HS.isT : HS → Bool
  | .t => true
  | _ => false
def homeN (n i : Nat) : Nat := i * 2654435761 % 4294967296 / (4294967296 / n)
def Pow (n : Nat) : Prop := ∃ k, 3 ≤ k ∧ k ≤ 18 ∧ n = 2 ^ k
theorem Pow.pos {n : Nat} (h : Pow n) : 8 ≤ n ∧ n ≤ 262144 := by
  obtain ⟨k, h1, h2, rfl⟩ := h
  exact ⟨Nat.pow_le_pow_right (n := 2) (by decide) h1, Nat.pow_le_pow_right (n := 2) (by decide) h2⟩
theorem Pow.dvd {n : Nat} (h : Pow n) : 4294967296 / n * n = 4294967296 := by
  obtain ⟨k, h1, h2, rfl⟩ := h
  have : (4294967296 : Nat) = 2 ^ (32 - k) * 2 ^ k := by rw [← Nat.pow_add, show 32 - k + k = 32 by omega]
  rw [this, Nat.mul_div_cancel _ (Nat.two_pow_pos k)]
theorem homeN_lt {n : Nat} (h : Pow n) (i : Nat) : homeN n i < n := by
  unfold homeN
  have hp := h.pos
  have hd := h.dvd
  have hq : 0 < 4294967296 / n := Nat.div_pos (by omega) (by omega)
  rw [Nat.div_lt_iff_lt_mul hq, Nat.mul_comm n, hd]
  exact Nat.mod_lt _ (by decide)
/-- The d-th slot that is looked at. -/
def at_ (n i d : Nat) : Nat := (homeN n i + d) % n
theorem at_lt {n : Nat} (h : Pow n) (i d : Nat) : at_ n i d < n := Nat.mod_lt _ (by have := h.pos; omega)
theorem at_zero {n : Nat} (h : Pow n) (i : Nat) : at_ n i 0 = homeN n i := by
  unfold at_
  rw [Nat.add_zero, Nat.mod_eq_of_lt (homeN_lt h i)]
theorem at_succ {n : Nat} (h : Pow n) (i d : Nat) : at_ n i (d + 1) = (at_ n i d + 1) % n := by
  have := h.pos
  unfold at_
  rw [← Nat.add_assoc, Nat.mod_add_mod]
theorem at_inj {n : Nat} (h : Pow n) {i d e : Nat} (hd : d < n) (he : e < n) (heq : at_ n i d = at_ n i e) : d = e := by
  have hh := homeN_lt h i
  unfold at_ at heq
  have h1 : (homeN n i + d) % n = if homeN n i + d < n then homeN n i + d else homeN n i + d - n := by
    split
    · exact Nat.mod_eq_of_lt (by assumption)
    · rw [Nat.mod_eq_sub_mod (by omega), Nat.mod_eq_of_lt (by omega)]
  have h2 : (homeN n i + e) % n = if homeN n i + e < n then homeN n i + e else homeN n i + e - n := by
    split
    · exact Nat.mod_eq_of_lt (by assumption)
    · rw [Nat.mod_eq_sub_mod (by omega), Nat.mod_eq_of_lt (by omega)]
  rw [h1, h2] at heq
  split at heq <;> split at heq <;> omega
theorem at_onto {n : Nat} (h : Pow n) (i : Nat) {p : Nat} (hp : p < n) : ∃ d, d < n ∧ at_ n i d = p := by
  have hh := homeN_lt h i
  by_cases hc : homeN n i ≤ p
  · refine ⟨p - homeN n i, by omega, ?_⟩
    unfold at_
    rw [show homeN n i + (p - homeN n i) = p by omega, Nat.mod_eq_of_lt hp]
  · refine ⟨p + n - homeN n i, by omega, ?_⟩
    unfold at_
    rw [show homeN n i + (p + n - homeN n i) = p + n by omega, Nat.add_mod_right, Nat.mod_eq_of_lt hp]
/-- On the way to the d-th slot nothing is empty, nothing is the index's. -/
def Path (n : Nat) (l : List HS) (i d : Nat) : Prop := ∀ j, j < d → ∃ s : HS, l[at_ n i j]? = some s ∧ s.isE = false ∧ ∀ v, s ≠ HS.f i v
theorem Path.mono {n : Nat} {l : List HS} {i d e : Nat} (h : Path n l i d) (he : e ≤ d) : Path n l i e := fun j hj => h j (by omega)
theorem Path.succ {n : Nat} {l : List HS} {i d : Nat} {s : HS} (h : Path n l i d) (hs : l[at_ n i d]? = some s) (h1 : s.isE = false) (h2 : ∀ v, s ≠ HS.f i v) : Path n l i (d + 1) := fun j hj => by
  by_cases e : j = d
  · subst e; exact ⟨s, hs, h1, h2⟩
  · exact h j (by omega)
/-- A path in a table of which one slot that was not full has become another index's, or a full one a tomb. -/
theorem Path.set {n : Nat} {l : List HS} {i d q : Nat} {s : HS} (h : Path n l i d) (h1 : s.isE = false) (h2 : ∀ v, s ≠ HS.f i v) : Path n (l.set q s) i d := fun j hj => by
  obtain ⟨s', hs, h3, h4⟩ := h j hj
  rw [List.getElem?_set]
  split
  · rename_i e
    rw [if_pos (by rw [e]; exact (List.getElem?_eq_some_iff.1 hs).1)]
    exact ⟨s, rfl, h1, h2⟩
  · exact ⟨s', hs, h3, h4⟩
structure HtOk (n : Nat) (l : List HS) (S : List Nat) (g : Nat → V3) (left : Nat) : Prop where
  pow : Pow n
  len : l.length = n
  sorted : S.Pairwise (· < ·)
  small : ∀ i ∈ S, i < 65536
  full : ∀ (p i : Nat) (v : V3), l[p]? = some (HS.f i v) → i ∈ S ∧ v = g i ∧ ∃ d, d < n ∧ at_ n i d = p ∧ Path n l i d
  has : ∀ i ∈ S, ∃ p : Nat, l[p]? = some (HS.f i (g i))
  cf : (l.filter HS.isF).length = S.length
  ct : (l.filter HS.isT).length = left
/-- There is room. -/
theorem HtOk.room {n : Nat} {l : List HS} {S : List Nat} {g : Nat → V3} {left : Nat} (h : HtOk n l S g left) (hr : S.length + left < n) : ∃ p : Nat, p < n ∧ l[p]? = some HS.e := by
  refine Classical.byContradiction fun hno => ?_
  have key : ∀ l : List HS, (∀ s ∈ l, s.isE = false) → (l.filter HS.isF).length + (l.filter HS.isT).length = l.length := by
    intro l
    induction l with
    | nil => intro _; rfl
    | cons s l ih =>
      intro hs
      have h1 := ih fun x hx => hs x (List.mem_cons_of_mem _ hx)
      have h2 := hs s List.mem_cons_self
      cases s with
      | e => cases h2
      | t =>
        rw [List.filter_cons_of_neg (by simp [HS.isF]), List.filter_cons_of_pos (by simp [HS.isT])]
        simp only [List.length_cons]; omega
      | f i v =>
        rw [List.filter_cons_of_pos (by simp [HS.isF]), List.filter_cons_of_neg (by simp [HS.isT])]
        simp only [List.length_cons]; omega
  have := key l fun s hs => by
    obtain ⟨p, hp, he⟩ := List.getElem_of_mem hs
    cases s with
    | e => exact absurd ⟨p, by rw [← h.len]; exact hp, by rw [List.getElem?_eq_getElem hp, he]⟩ hno
    | t => rfl
    | f i v => rfl
  have h1 := h.cf
  have h2 := h.ct
  have h3 := h.len
  omega
/-- Where an index is not on the way to an empty slot, it is nowhere. -/
theorem HtOk.absent {n : Nat} {l : List HS} {S : List Nat} {g : Nat → V3} {left i d : Nat} (h : HtOk n l S g left) (hp : Path n l i d) (he : l[at_ n i d]? = some HS.e) : i ∉ S := fun hi => by
  obtain ⟨p, hf⟩ := h.has i hi
  obtain ⟨_, _, d', hd', ha, hp'⟩ := h.full p i _ hf
  rcases Nat.lt_trichotomy d d' with hlt | rfl | hlt
  · obtain ⟨s, h1, h2, _⟩ := hp' d hlt
    rw [he] at h1
    injection h1 with h1
    subst h1
    cases h2
  · rw [ha, hf] at he
    cases he
  · obtain ⟨s, h1, _, h3⟩ := hp d' hlt
    rw [ha, hf] at h1
    injection h1 with h1
    exact h3 _ h1.symm
theorem HtOk.one {n : Nat} {l : List HS} {S : List Nat} {g : Nat → V3} {left i p q : Nat} {v u : V3} (h : HtOk n l S g left) (h1 : l[p]? = some (HS.f i v)) (h2 : l[q]? = some (HS.f i u)) : p = q := by
  obtain ⟨_, _, d, hd, ha, hp⟩ := h.full p i v h1
  obtain ⟨_, _, e, he, hb, hq⟩ := h.full q i u h2
  rcases Nat.lt_trichotomy d e with hlt | rfl | hlt
  · obtain ⟨s, h3, _, h4⟩ := hq d hlt
    rw [ha, h1] at h3
    injection h3 with h3
    exact absurd h3.symm (h4 v)
  · rw [← ha, ← hb]
  · obtain ⟨s, h3, _, h4⟩ := hp e hlt
    rw [hb, h2] at h3
    injection h3 with h3
    exact absurd h3.symm (h4 u)
theorem filter_set {α : Type} {p : α → Bool} : ∀ {l : List α} {k : Nat} {a b : α}, l[k]? = some a → ((l.set k b).filter p).length + (if p a then 1 else 0) = (l.filter p).length + (if p b then 1 else 0)
  | [], k, a, b, h => by simp at h
  | x :: l, 0, a, b, h => by
    simp at h
    subst h
    rw [List.set_cons_zero, List.filter_cons, List.filter_cons]
    cases p x <;> cases p b <;> simp <;> omega
  | x :: l, k + 1, a, b, h => by
    have := filter_set (p := p) (l := l) (k := k) (a := a) (b := b) (by simpa using h)
    rw [List.set_cons_succ, List.filter_cons, List.filter_cons]
    cases hx : p x <;> simp <;> omega
def updG (g : Nat → V3) (i : Nat) (v : V3) : Nat → V3 := fun j => if j = i then v else g j
/-- A new index comes to a slot that is free on its way. -/
theorem HtOk.put {n : Nat} {l : List HS} {S : List Nat} {g : Nat → V3} {left i d : Nat} {s : HS} (h : HtOk n l S g left) (hi : i ∉ S) (hi6 : i < 65536) (hd : d < n) (hp : Path n l i d) (hs : l[at_ n i d]? = some s) (hf : s.isF = false) (v : V3) :
    HtOk n (l.set (at_ n i d) (.f i v)) (insS i S) (updG g i v) (left - if s.isT then 1 else 0) := by
  have hql : at_ n i d < l.length := (List.getElem?_eq_some_iff.1 hs).1
  refine ⟨h.pow, by rw [List.length_set]; exact h.len, sorted_insS h.sorted, fun j hj => ?_, fun p j u hu => ?_, fun j hj => ?_, ?_, ?_⟩
  · rcases mem_insS.1 hj with rfl | hj
    · exact hi6
    · exact h.small j hj
  · rw [List.getElem?_set] at hu
    split at hu
    · rename_i e
      try rw [if_pos hql] at hu
      injection hu with hu
      injection hu with h1 h2
      subst h1 h2
      refine ⟨mem_insS.2 (.inl rfl), by simp [updG], d, hd, e, fun j hj => ?_⟩
      obtain ⟨s', h3, h4, h5⟩ := hp j hj
      rw [List.getElem?_set, if_neg (fun e2 => by have := at_inj h.pow (i := i) (d := d) (e := j) hd (by omega) e2; omega)]
      exact ⟨s', h3, h4, h5⟩
    · obtain ⟨h1, h2, d', h3, h4, h5⟩ := h.full p j u hu
      have hne : j ≠ i := fun e => hi (e ▸ h1)
      refine ⟨mem_insS.2 (.inr h1), by rw [h2]; simp [updG, hne], d', h3, h4, h5.set rfl fun v' e => ?_⟩
      injection e with e1 e2
      exact hne e1.symm
  · rcases mem_insS.1 hj with rfl | hj
    · exact ⟨at_ n j d, by rw [List.getElem?_set, if_pos rfl, if_pos hql]; simp [updG]⟩
    · obtain ⟨p, h1⟩ := h.has j hj
      have hne : j ≠ i := fun e => hi (e ▸ hj)
      refine ⟨p, ?_⟩
      rw [List.getElem?_set, if_neg (fun e => by
        rw [← e, hs] at h1
        injection h1 with h1
        subst h1
        cases hf), h1]
      simp [updG, hne]
  · have := filter_set (p := HS.isF) (b := HS.f i v) hs
    rw [hf] at this
    simp [HS.isF] at this
    rw [this, len_insS hi, h.cf]
  · have := filter_set (p := HS.isT) (b := HS.f i v) hs
    have h0 : (HS.f i v).isT = false := rfl
    rw [h0] at this
    simp only [Bool.false_eq_true, if_false, Nat.add_zero] at this
    rw [h.ct] at this
    omega
/-- A value is turned. -/
theorem HtOk.turn {n : Nat} {l : List HS} {S : List Nat} {g : Nat → V3} {left i p : Nat} {u : V3} (h : HtOk n l S g left) (hp : l[p]? = some (.f i u)) (v : V3) : HtOk n (l.set p (.f i v)) S (updG g i v) left := by
  have hpl : p < l.length := (List.getElem?_eq_some_iff.1 hp).1
  have path : ∀ {j d : Nat}, d ≤ n → (∀ d', d' < d → at_ n j d' ≠ p ∨ j ≠ i) → Path n l j d → Path n (l.set p (.f i v)) j d := fun {j d} _ hne hq k hk => by
    obtain ⟨s, h1, h2, h3⟩ := hq k hk
    rw [List.getElem?_set]
    split
    · rename_i e
      try rw [if_pos hpl]
      refine ⟨_, rfl, rfl, fun v' e' => ?_⟩
      injection e' with e1 e2
      rcases hne k hk with h4 | h4
      · exact h4 e.symm
      · exact h4 e1.symm
    · exact ⟨s, h1, h2, h3⟩
  refine ⟨h.pow, by rw [List.length_set]; exact h.len, h.sorted, h.small, fun q j w hw => ?_, fun j hj => ?_, ?_, ?_⟩
  · rw [List.getElem?_set] at hw
    split at hw
    · rename_i e
      try rw [if_pos hpl] at hw
      injection hw with hw
      injection hw with h1 h2
      subst h1 h2 e
      obtain ⟨h3, _, d, h5, h6, h7⟩ := h.full p i u hp
      refine ⟨h3, by simp [updG], d, h5, h6, path (by omega) (fun d' hd' => .inl fun e => ?_) h7⟩
      have := at_inj h.pow (i := i) (d := d') (e := d) (by omega) h5 (by rw [e, h6])
      omega
    · rename_i e
      obtain ⟨h3, h4, d, h5, h6, h7⟩ := h.full q j w hw
      have hne : j ≠ i := fun e2 => by
        subst e2
        exact e (h.one hp hw)
      exact ⟨h3, by rw [h4]; simp [updG, hne], d, h5, h6, path (by omega) (fun _ _ => .inr hne) h7⟩
  · obtain ⟨q, h1⟩ := h.has j hj
    by_cases hne : j = i
    · subst hne
      exact ⟨p, by rw [List.getElem?_set, if_pos rfl, if_pos hpl]; simp [updG]⟩
    · refine ⟨q, ?_⟩
      rw [List.getElem?_set, if_neg (fun e => by
        subst e
        rw [hp] at h1
        injection h1 with h1
        injection h1 with h1 _
        exact hne h1.symm), h1]
      simp [updG, hne]
  · have := filter_set (p := HS.isF) (b := HS.f i v) hp
    simp [HS.isF] at this
    rw [← h.cf, ← this]
  · have := filter_set (p := HS.isT) (b := HS.f i v) hp
    simp [HS.isT] at this
    rw [← h.ct, ← this]
/-- An index goes: a tomb stays. -/
theorem HtOk.take {n : Nat} {l : List HS} {S : List Nat} {g : Nat → V3} {left i p : Nat} {u : V3} (h : HtOk n l S g left) (hp : l[p]? = some (.f i u)) : HtOk n (l.set p .t) (delS i S) g (left + 1) := by
  have hpl : p < l.length := (List.getElem?_eq_some_iff.1 hp).1
  have hi := (h.full p i u hp).1
  refine ⟨h.pow, by rw [List.length_set]; exact h.len, sorted_delS h.sorted, fun j hj => h.small j (mem_delS.1 hj).1, fun q j w hw => ?_, fun j hj => ?_, ?_, ?_⟩
  · rw [List.getElem?_set] at hw
    split at hw
    · try rw [if_pos hpl] at hw
      cases hw
    · rename_i e
      obtain ⟨h3, h4, d, h5, h6, h7⟩ := h.full q j w hw
      have hne : j ≠ i := fun e2 => by
        subst e2
        exact e (h.one hp hw)
      exact ⟨mem_delS.2 ⟨h3, hne⟩, h4, d, h5, h6, h7.set rfl fun v' e' => by cases e'⟩
  · obtain ⟨hj1, hne⟩ := mem_delS.1 hj
    obtain ⟨q, h1⟩ := h.has j hj1
    refine ⟨q, ?_⟩
    rw [List.getElem?_set, if_neg (fun e => by
      subst e
      rw [hp] at h1
      injection h1 with h1
      injection h1 with h1 _
      exact hne h1.symm), h1]
  · have := filter_set (p := HS.isF) (b := HS.t) hp
    simp [HS.isF] at this
    have h2 := len_delS (sorted_nodup h.sorted) hi
    have h3 := h.cf
    omega
  · have := filter_set (p := HS.isT) (b := HS.t) hp
    simp [HS.isT] at this
    have h3 := h.ct
    omega
theorem HtOk.fresh {n : Nat} (h : Pow n) (g : Nat → V3) : HtOk n (List.replicate n .e) [] g 0 := by
  refine ⟨h, by simp, List.Pairwise.nil, fun _ h => absurd h List.not_mem_nil, fun p i v hv => ?_, fun _ h => absurd h List.not_mem_nil, ?_, ?_⟩
  · rw [List.getElem?_replicate] at hv
    split at hv <;> cases hv
  · rw [List.filter_replicate]; simp [HS.isF]
  · rw [List.filter_replicate]; simp [HS.isT]
end Go.Proofs.Ytmdjpeblbnbjmaa
