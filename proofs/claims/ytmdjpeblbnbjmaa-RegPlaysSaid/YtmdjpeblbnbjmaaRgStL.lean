/-
  RegStrips: the plain law.
-/
import Derived.Test.YtmdjpeblbnbjmaaRg4
import Derived.Test.YtmdjpeblbnbjmaaRgBo
import Derived.Test.YtmdjpeblbnbjmaaSlNoL
set_option maxRecDepth 100000
namespace Go.Proofs.Ytmdjpeblbnbjmaa
open Go Go.RowKit
/-- A component's slot, ahead of the Strip. -/
structure StC (a b : Int) (wa wb : Bool) (s : SlS) : Prop where
  db : s.d.b = 9
  F : ∃ f, s.F = some f
  rds : s.rds = [s.evs.length]
  len : s.evs.length ≤ 2
  ha : s.has a = wa
  hb : s.has b = wb
def StI (a b : Int) (wa wb : Nat → Bool) (l : List Cmp) : Prop := ∀ c x, l[c]? = some x → StC a b (wa c) (wb c) x.2
theorem hasAt_app {l m : List Cmp} {i : Int} {c : Nat} (h : c < l.length) : hasAt (l ++ m) i c = hasAt l i c := by
  unfold hasAt; rw [List.getElem?_append_left h]
theorem ofN_app {l m : List Cmp} {i : Int} : ∀ {k : Nat}, k ≤ l.length → ofN (l ++ m) i k = ofN l i k
  | 0, _ => rfl
  | k + 1, h => by rw [ofN_succ, ofN_succ, hasAt_app (by omega), ofN_app (by omega)]
theorem ofN_push {l : List Cmp} {x : Cmp} {i : Int} : (ofN (l ++ [x]) i (l ++ [x]).length).length = (ofN l i l.length).length + (if x.2.has i then 1 else 0) := by
  rw [List.length_append, show l.length + [x].length = l.length + 1 from rfl, ofN_succ, ofN_app (Nat.le_refl _)]
  have : hasAt (l ++ [x]) i l.length = x.2.has i := by unfold hasAt; rw [List.getElem?_append_right (Nat.le_refl _)]; simp
  rw [this]
  cases x.2.has i <;> simp
theorem StI.push {a b : Int} {wa wb : Nat → Bool} {l : List Cmp} (h : StI a b wa wb l) {x : Cmp} (hx : StC a b (wa l.length) (wb l.length) x.2) : StI a b wa wb (l ++ [x]) := fun c y hy => by
  by_cases hc : c < l.length
  · rw [List.getElem?_append_left hc] at hy; exact h c y hy
  · have hcl := (List.getElem?_eq_some_iff.1 hy).1
    rw [List.length_append] at hcl
    have : c = l.length := by simp at hcl; omega
    subst this
    rw [List.getElem?_append_right (Nat.le_refl _)] at hy
    simp at hy
    subst hy
    exact hx
/-- A new component, put to as its bits say, with a reader. -/
def stNew (s0 : SlS) (a b : Int) (x y : V3) (wa wb : Bool) : SlS :=
  let s1 := if wa then s0.put a x else s0
  let s2 := if wb then s1.put b y else s1
  { s2 with rds := s2.rds ++ [s2.evs.length] }
theorem stC_new {d : V3} {v : Value} {f : Nat} {a b : Int} {x y : V3} {wa wb : Bool} (hd : d.b = 9) (ha : 0 ≤ a ∧ a < 65536) (hb : 0 ≤ b ∧ b < 65536) (hne : a ≠ b) (hx : okVal x = true ∧ x.k = d.k) (hy : okVal y = true ∧ y.k = d.k) :
    StC a b wa wb (stNew (newSl d v (some f)) a b x y wa wb) ∧ (newSl d v (some f)).err a x = 0 ∧ (if wa then (newSl d v (some f)).put a x else newSl d v (some f)).err b y = 0 := by
  obtain ⟨s0, hs0⟩ : ∃ s, newSl d v (some f) = s := ⟨_, rfl⟩
  have h0d : s0.d = d := by rw [← hs0]; rfl
  have h0F : s0.F = some f := by rw [← hs0]; rfl
  have h0r : s0.rds = [] := by rw [← hs0]; rfl
  have h0e : s0.evs.length = 0 := by rw [← hs0]; rfl
  have h0h : ∀ i, s0.has i = false := fun i => by rw [← hs0]; rfl
  rw [hs0]
  have e1 : s0.err a x = 0 := SlS.err_iff.2 ⟨ha, by rw [h0d]; exact hx⟩
  obtain ⟨s1, hs1⟩ : ∃ s, (if wa then s0.put a x else s0) = s := ⟨_, rfl⟩
  have h1 : s1.d = d ∧ s1.F = some f ∧ s1.rds = [] ∧ s1.evs.length ≤ 1 ∧ s1.has a = wa ∧ s1.has b = false := by
    rw [← hs1]
    cases wa
    · exact ⟨h0d, h0F, h0r, by show s0.evs.length ≤ 1; omega, h0h _, h0h _⟩
    · refine ⟨(SlS.put_d _ _ _).trans h0d, (SlS.put_F _ _ _).trans h0F, (SlS.put_rds _ _ _).trans h0r, Nat.le_trans (SlS.put_len s0 a x) (by omega), ?_, ?_⟩
      · show (s0.put a x).has a = true
        rw [SlS.put_has e1]; simp
      · show (s0.put a x).has b = false
        rw [SlS.put_has e1, h0h, Bool.or_false]; exact decide_eq_false (fun h => hne h.symm)
  have e2 : s1.err b y = 0 := SlS.err_iff.2 ⟨hb, by rw [h1.1]; exact hy⟩
  refine ⟨?_, e1, by rw [hs1]; exact e2⟩
  unfold stNew
  simp only [hs1]
  obtain ⟨s2, hs2⟩ : ∃ s, (if wb then s1.put b y else s1) = s := ⟨_, rfl⟩
  have h2 : s2.d = d ∧ s2.F = some f ∧ s2.rds = [] ∧ s2.evs.length ≤ 2 ∧ s2.has a = wa ∧ s2.has b = wb := by
    rw [← hs2]
    cases wb
    · exact ⟨h1.1, h1.2.1, h1.2.2.1, by show s1.evs.length ≤ 2; omega, h1.2.2.2.2.1, h1.2.2.2.2.2⟩
    · refine ⟨(SlS.put_d _ _ _).trans h1.1, (SlS.put_F _ _ _).trans h1.2.1, (SlS.put_rds _ _ _).trans h1.2.2.1, Nat.le_trans (SlS.put_len s1 b y) (by omega), ?_, ?_⟩
      · show (s1.put b y).has a = wa
        rw [SlS.put_has e2, h1.2.2.2.2.1, decide_eq_false hne]; rfl
      · show (s1.put b y).has b = true
        rw [SlS.put_has e2]; simp
  simp only [hs2]
  exact ⟨by rw [show ({ s2 with rds := s2.rds ++ [s2.evs.length] } : SlS).d = s2.d from rfl, h2.1]; exact hd, ⟨f, h2.2.1⟩, by show s2.rds ++ _ = _; rw [h2.2.2.1]; rfl, h2.2.2.2.1, h2.2.2.2.2.1, h2.2.2.2.2.2⟩
/-! ### Behind the Strip -/
theorem strL_get {l : List Cmp} {a : Int} {c : Nat} {y : Cmp} (h : (strL l a)[c]? = some y) : ∃ x, l[c]? = some x ∧ y = (x.1, x.2.take a) := by
  unfold strL at h
  rw [List.getElem?_map] at h
  cases hx : l[c]? with
  | none => rw [hx] at h; cases h
  | some x => rw [hx] at h; simp at h; exact ⟨x, rfl, h.symm⟩
theorem ofN_none {l : List Cmp} {i : Int} {k : Nat} (h : ∀ c, hasAt l i c = false) : ofN l i k = [] := by
  unfold ofN; rw [List.filter_eq_nil_iff]; intro c _; rw [h c]; simp
theorem hasAt_strL {l : List Cmp} {a i : Int} {c : Nat} : hasAt (strL l a) i c = (!decide (i = a) && hasAt l i c) := by
  unfold hasAt strL
  rw [List.getElem?_map]
  cases l[c]? with
  | none => simp
  | some x => simp only [Option.map_some]; rw [SlS.take_has]
theorem ofN_strL_same {l : List Cmp} {a : Int} {k : Nat} : ofN (strL l a) a k = [] := ofN_none fun c => by rw [hasAt_strL]; simp
theorem ofN_strL_other {l : List Cmp} {a i : Int} {k : Nat} (h : i ≠ a) : ofN (strL l a) i k = ofN l i k := by
  unfold ofN
  congr 1
  funext c
  rw [hasAt_strL, decide_eq_false h]; rfl
/-- What its reader is told. -/
theorem StC.told {a b : Int} {wa wb : Bool} {s : SlS} (h : StC a b wa wb s) : (s.take a).rds[0]? = some s.evs.length ∧ (s.take a).evs.length < 4611686018427387904 ∧ lagE (s.take a).d.b.toNat (s.take a).evs s.evs.length = false ∧ newE (s.take a).d.b.toNat (s.take a).evs s.evs.length = (if wa then [(3, a)] else []) ∧ (s.take a).F = s.F := by
  obtain ⟨f, hF⟩ := h.F
  have hl := h.len
  have e : (s.take a).evs = s.evs ++ (if wa then [(3, a)] else []) := by
    cases hw : wa with
    | true => exact SlS.take_evs hF (h.ha.trans hw)
    | false => rw [SlS.take_no (h.ha.trans hw)]; simp
  have hlag : lagE (s.take a).d.b.toNat (s.take a).evs s.evs.length = false := by
    unfold lagE
    rw [SlS.take_d, h.db, e, List.length_append]
    exact decide_eq_false (by cases wa <;> simp <;> omega)
  refine ⟨by rw [SlS.take_rds, h.rds]; rfl, ?_, hlag, ?_, SlS.take_F s a⟩
  · have := SlS.take_len s a; omega
  · unfold newE
    rw [hlag, e]
    simp
theorem bit_val {w : Int} (h1 : 0 ≤ w) (h2 : w ≤ 18446744073709551615) (k : Nat) : bits .and .u64 (w / 2 ^ k) 1 = w / 2 ^ k % 2 := by
  obtain ⟨W, rfl⟩ := Int.eq_ofNat_of_zero_le h1
  have e : (W : Int) / 2 ^ k = ((W / 2 ^ k : Nat) : Int) := by rw [Int.natCast_ediv, Int.natCast_pow]; rfl
  have hl : W / 2 ^ k < 2 ^ 64 := Nat.lt_of_le_of_lt (Nat.div_le_self _ _) (by omega)
  rw [e, show (1 : Int) = ((1 : Nat) : Int) from rfl, and_u64 _ _ hl (by decide), Nat.and_one_is_mod]
  omega
theorem set_last {l : List Cmp} {x y : Cmp} {k : Nat} (h : l.length = k) : (l ++ [x]).set k y = l ++ [y] := by
  subst h
  rw [List.set_append_right _ _ (Nat.le_refl _), Nat.sub_self]; rfl
theorem get_last {l : List Cmp} {x : Cmp} {k : Nat} (h : l.length = k) : (l ++ [x])[k]? = some x := by
  subst h
  rw [List.getElem?_append_right (Nat.le_refl _)]; simp
theorem St.rgn {w0 w : World} {R : Nat} {l : List Cmp} {L : List As} (hs : St w0 (RgB R l :: L) w) : St w0 [RgB R l] w := hs.only
end Go.Proofs.Ytmdjpeblbnbjmaa
