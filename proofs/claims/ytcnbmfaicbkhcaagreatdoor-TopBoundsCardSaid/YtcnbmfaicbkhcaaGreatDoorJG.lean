/-
  XJG: joined of XRrow XRrow2.
-/
import Derived.Test.YtcnbmfaicbkhcaaGreatDoorJB
import Derived.Test.YtcnbmfaicbkhcaaGreatDoorJA
/-
  The document's rising rows (vivariumref1): At, In, Next, Same.
-/
set_option maxRecDepth 100000
namespace Go.Proofs.YtcnbmfaicbkhcaaGreatDoor
open Go Go.RowKit
attribute [local irreducible] wpList Calls Code.wp

/-- Where a number stands in a rising row, or would. -/
def AtI (S : List Nat) (f : Int) (k : Nat) : Prop := k ≤ S.length ∧ (∀ a ∈ S.take k, (a : Int) < f) ∧ ∀ a ∈ S.drop k, f ≤ (a : Int)
theorem AtI.from_ {S : List Nat} {f : Int} {k : Nat} (h : AtI S f k) : S.drop k = fromS S f := by
  have e : S = S.take k ++ S.drop k := (List.take_append_drop k S).symm
  unfold fromS
  conv => rhs; rw [e]
  rw [List.filter_append, List.filter_eq_nil_iff.2 fun a ha => by have := h.2.1 a ha; simp; omega, List.nil_append, List.filter_eq_self.2 fun a ha => by have := h.2.2 a ha; simpa using this]
theorem AtI.mem {S : List Nat} (hS : S.Pairwise (· < ·)) {f : Int} {k : Nat} (h : AtI S f k) : memS S f = (match S[k]? with | some a => (a : Int) == f | none => false) := by
  rw [Bool.eq_iff_iff]
  unfold memS
  rw [List.any_eq_true]
  constructor
  · rintro ⟨a, ha, h1⟩
    have h2 : (a : Int) = f := by simpa using h1
    rw [← List.take_append_drop k S, List.mem_append] at ha
    rcases ha with ha | ha
    · have := h.2.1 a ha; omega
    · cases hd : S.drop k with
      | nil => rw [hd] at ha; cases ha
      | cons b l =>
        have hb := h.2.2 b (by rw [hd]; exact List.mem_cons_self)
        have hk : S[k]? = some b := by
          have := List.getElem?_drop (xs := S) (i := k) (j := 0)
          rw [hd] at this
          simpa using this.symm
        rw [hk]
        rw [hd] at ha
        have hp : (b :: l).Pairwise (· < ·) := hd ▸ hS.sublist (List.drop_sublist k S)
        rcases List.mem_cons.1 ha with e | h3
        · subst e; simpa using h1
        · have := (List.pairwise_cons.1 hp).1 a h3
          omega
  · intro h1
    cases hk : S[k]? with
    | none => rw [hk] at h1; cases h1
    | some a =>
      rw [hk] at h1
      exact ⟨a, List.mem_of_getElem? hk, h1⟩
theorem AtI.of {S : List Nat} {f : Int} {k : Nat} (hk : k ≤ S.length) (h1 : ∀ j a, j < k → S[j]? = some a → (a : Int) < f) (h2 : ∀ j a, k ≤ j → S[j]? = some a → f ≤ (a : Int)) : AtI S f k := by
  refine ⟨hk, fun a ha => ?_, fun a ha => ?_⟩
  · obtain ⟨j, hj⟩ := List.mem_iff_getElem?.1 ha
    rw [List.getElem?_take] at hj
    split at hj
    · exact h1 j a (by assumption) hj
    · cases hj
  · obtain ⟨j, hj⟩ := List.mem_iff_getElem?.1 ha
    rw [List.getElem?_drop] at hj
    exact h2 (k + j) a (Nat.le_add_right _ _) hj
/-- How far the search has come. -/
def Bin (S : List Nat) (f : Int) (lo hi : Nat) : Prop := lo ≤ hi ∧ hi ≤ S.length ∧ (∀ j a, j < lo → S[j]? = some a → (a : Int) < f) ∧ ∀ j a, hi ≤ j → S[j]? = some a → f ≤ (a : Int)
theorem sorted_le {S : List Nat} (hS : S.Pairwise (· < ·)) {i j a b : Nat} (h : i ≤ j) (ha : S[i]? = some a) (hb : S[j]? = some b) : a ≤ b := by
  rcases Nat.lt_or_ge i j with h1 | h1
  · obtain ⟨hi, ea⟩ := List.getElem?_eq_some_iff.1 ha
    obtain ⟨hj, eb⟩ := List.getElem?_eq_some_iff.1 hb
    have := List.pairwise_iff_getElem.1 hS i j hi hj h1
    omega
  · obtain rfl : i = j := by omega
    rw [ha] at hb
    injection hb with hb
    omega
theorem Bin.start (S : List Nat) (f : Int) : Bin S f 0 S.length := ⟨Nat.zero_le _, Nat.le_refl _, fun j _ h => absurd h (Nat.not_lt_zero j), fun j a h hj => by rw [List.getElem?_eq_none h] at hj; cases hj⟩
theorem Bin.up {S : List Nat} (hS : S.Pairwise (· < ·)) {f : Int} {lo hi m x : Nat} (h : Bin S f lo hi) (hm : m < hi) (hx : S[m]? = some x) (hlt : (x : Int) < f) : Bin S f (m + 1) hi :=
  ⟨hm, h.2.1, fun j a hj ha => by have := sorted_le hS (show j ≤ m by omega) ha hx; omega, h.2.2.2⟩
theorem Bin.down {S : List Nat} (hS : S.Pairwise (· < ·)) {f : Int} {lo hi m x : Nat} (h : Bin S f lo hi) (hm : lo ≤ m) (hm2 : m < hi) (hx : S[m]? = some x) (hlt : ¬ (x : Int) < f) : Bin S f lo m :=
  ⟨hm, by have := h.2.1; omega, h.2.2.1, fun j a hj ha => by have := sorted_le hS hj hx ha; omega⟩
theorem Bin.done {S : List Nat} {f : Int} {lo hi : Nat} (h : Bin S f lo hi) (he : hi ≤ lo) : AtI S f lo :=
  AtI.of (by have := h.1; have := h.2.1; omega) h.2.2.1 fun j a hj ha => h.2.2.2 j a (by omega) ha
theorem intv_take (S : List Nat) (k : Nat) : (intv S).take k = intv (S.take k) := by simp [intv]
theorem intv_drop (S : List Nat) (k : Nat) : (intv S).drop k = intv (S.drop k) := by simp [intv]
theorem RdS.take {w0 : World} {L : List As} {A : Option Addr} {S : List Nat} (h : RdS w0 L A (intv S)) (k : Nat) : RdS w0 L A (intv (S.take k)) := fun j u hu => by
  rw [← intv_take, List.getElem?_take] at hu
  split at hu
  · exact h j u hu
  · cases hu
theorem RdS.drop {w0 : World} {L : List As} {g : Nat} {S : List Nat} (h : RdS w0 L (some ⟨g, 0, none⟩) (intv S)) (k : Nat) : RdS w0 L (some ⟨g, k, none⟩) (intv (S.drop k)) := fun j u hu => by
  rw [← intv_drop, List.getElem?_drop] at hu
  obtain ⟨ad, h1, h2, h3⟩ := h _ u hu
  injection h1 with h1
  subst h1
  refine ⟨_, rfl, rfl, ?_⟩
  simpa using h3
end Go.Proofs.YtcnbmfaicbkhcaaGreatDoor

/-
  The document's rising rows (vivariumref1), 2: Set, Same, In, Next.
-/
set_option maxRecDepth 100000
namespace Go.Proofs.YtcnbmfaicbkhcaaGreatDoor
open Go Go.RowKit
attribute [local irreducible] wpList Calls Code.wp

attribute [local irreducible] setS addS okN memS remS errN nextS fromS
theorem take_snoc_eq {S1 S2 : List Nat} {k x y : Nat} (h : S1.take k = S2.take k) (hx : S1[k]? = some x) (hy : S2[k]? = some y) (e : x = y) : S1.take (k + 1) = S2.take (k + 1) := by
  obtain ⟨h1, e1⟩ := List.getElem?_eq_some_iff.1 hx
  obtain ⟨h2, e2⟩ := List.getElem?_eq_some_iff.1 hy
  rw [List.take_succ_eq_append_getElem h1, List.take_succ_eq_append_getElem h2, h, e1, e2, e]
theorem rsame_c {w0 w : World} {L : List As} {S1 S2 : List Nat} {A B : Option Addr} {n1 n2 c1 c2 : Nat} {b : Bool} (h1 : S1.length = n1) (h2 : S2.length = n2) (hm1 : n1 ≤ 4000000000) (hs : St w0 L w) (hr1 : RdS w0 L A (intv S1)) (hr2 : RdS w0 L B (intv S2)) (hb : b = true ↔ S1 = S2) :
    Calls Tryz.prog 40 #[.slice A n1 c1, .slice B n2 c2] w fun e w' => e = .returned (.bool b) ∧ Grew w w' := by
  have HL1 := Lib.hid h1
  have HL2 := Lib.hid h2
  by_cases hne : n1 = n2
  · have HB := Lib.hid hb
    clear hb h1 h2
    go_enter Tryz.func40, Tryz.ntmps40
    go_wp2
    go_loopw [5] (fun iv wr => ∃ k : Nat, k ≤ n1 ∧ iv = .int .i64 (k : Nat) ∧ Hid (S1.take k = S2.take k) ∧ Grew w wr) (fun iv _ => n1 - (intOf iv).toNat)
    case atStart => exact ⟨0, Nat.zero_le _, rfl, rfl, Grew.refl w⟩
    case round =>
      obtain ⟨k, hk, rfl, HT, hg⟩ := hrel
      by_cases hlt : k < n1
      · obtain ⟨x, hx⟩ : ∃ x, S1[k]? = some x := ⟨_, List.getElem?_eq_getElem (by rw [HL1.out]; omega)⟩
        obtain ⟨y, hy⟩ : ∃ y, S2[k]? = some y := ⟨_, List.getElem?_eq_getElem (by rw [HL2.out]; omega)⟩
        obtain ⟨p, o, rfl, hcx⟩ := hr1.get (intv_get hx)
        obtain ⟨p', o', rfl, hcy⟩ := hr2.get (intv_get hy)
        have hcx := hcx _ (hs.grew hg)
        have hcy := hcy _ (hs.grew hg)
        by_cases hxy : x = y
        · have HT2 := Lib.hid (take_snoc_eq HT.out hx hy hxy)
          clear HT hx hy
          go_wp2
          refine wp_region_grow (by kernel_rfl) (by kernel_rfl) fun hne2 => ?_
          have g1 := fun p : GW wr => p.grew.cell hcx
          have g2 := fun p : GW wr => p.grew.cell hcy
          repeat (go_big_quiet_step (fail))
          refine wpQuiet_nil ?_
          clear hne2 g1 g2
          intro u hu
          go_wp2
          go_roundw
          case rel => exact ⟨k + 1, by omega, by go_num, HT2, hg.trans hu⟩
          case measure => simp [intOf] <;> omega
        · have HF : Hid (b = false) := by
            rw [Hid]
            cases hbb : b with
            | false => rfl
            | true =>
              have e := HB.out.1 hbb
              rw [e, hy] at hx
              exact absurd (Option.some.inj hx).symm hxy
          clear HT hx hy HB
          go_wp2
          refine wp_region_grow (by kernel_rfl) (by kernel_rfl) fun hne2 => ?_
          have g1 := fun p : GW wr => p.grew.cell hcx
          have g2 := fun p : GW wr => p.grew.cell hcy
          repeat (go_big_quiet_step (fail))
          refine wpQuiet_nil ?_
          clear hne2 g1 g2
          intro u hu
          go_wp2
          go_ret
          exact ⟨by rw [HF.out]; rfl, hg.trans hu⟩
      · have HF : Hid (b = true) := by
          have e1 : S1.take k = S1 := List.take_of_length_le (by rw [HL1.out]; omega)
          have e2 : S2.take k = S2 := List.take_of_length_le (by rw [HL2.out]; omega)
          have := HT.out
          rw [e1, e2] at this
          exact HB.out.2 this
        clear HT HB
        go_wp2
        go_ret
        exact ⟨by rw [HF.out]; rfl, hg⟩
  · obtain rfl : b = false := by
      cases hbb : b with
      | false => rfl
      | true => exact absurd (by rw [← h1, ← h2, hb.1 hbb]) hne
    clear hb h1 h2
    go_enter Tryz.func40, Tryz.ntmps40
    go_wp2
    go_ret
    exact ⟨rfl, Grew.refl w⟩
end Go.Proofs.YtcnbmfaicbkhcaaGreatDoor
