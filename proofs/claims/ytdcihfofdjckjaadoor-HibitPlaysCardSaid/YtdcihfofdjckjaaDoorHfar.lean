/-
  HibitFar.
-/
import Derived.Test.YtdcihfofdjckjaaDoorHib8
set_option maxRecDepth 100000
namespace Go.Proofs.YtdcihfofdjckjaaDoor
open Go Go.RowKit
attribute [local irreducible] wpList Calls Code.wp

def kf (z : Int) : Nat := (z % 16777216).toNat
theorem kf_lt (z : Int) : kf z < 16777216 := by unfold kf; omega
theorem and_ffffff (z : Int) : bits .and .i64 z 16777215 = (kf z : Nat) := by
  show IntKind.i64.wrap ((BitVec.ofInt 64 z &&& BitVec.ofInt 64 16777215).toNat : Int) = _
  rw [BitVec.toNat_and, show (BitVec.ofInt 64 16777215).toNat = 2 ^ 24 - 1 by decide, Nat.and_two_pow_sub_one_eq_mod, BitVec.toNat_ofInt, IntKind.wrap_i64]
  unfold kf
  omega
theorem okN_in {i : Int} (h1 : 0 ≤ i) (h2 : i < 16777216) : okN i = true := decide_eq_true ⟨h1, h2⟩
theorem okN_out {i : Int} (h : ¬ (0 ≤ i ∧ i < 16777216)) : okN i = false := decide_eq_false h
theorem addS_in {S : List Nat} {i : Int} (h1 : 0 ≤ i) (h2 : i < 16777216) : addS S i = insS i.toNat S := by unfold addS; rw [okN_in h1 h2]; rfl
theorem addS_out {S : List Nat} {i : Int} (h : ¬ (0 ≤ i ∧ i < 16777216)) : addS S i = S := by unfold addS; rw [okN_out h]; rfl
theorem remS_out {S : List Nat} {i : Int} (h : ¬ (0 ≤ i ∧ i < 16777216)) : remS S i = S := by unfold remS; rw [okN_out h]; rfl
theorem errN_in {i : Int} (h1 : 0 ≤ i) (h2 : i < 16777216) : errN i = 0 := by unfold errN; rw [okN_in h1 h2]; rfl
theorem errN_out {i : Int} (h : ¬ (0 ≤ i ∧ i < 16777216)) : errN i = 1 := by unfold errN; rw [okN_out h]; rfl
/-- Two numbers, the lesser and the greater. -/
structure TwoS (S : List Nat) (lo hi : Nat) : Prop where
  sorted : S.Pairwise (· < ·)
  mem : ∀ x, x ∈ S ↔ x = lo ∨ x = hi
  le : lo ≤ hi
  small : hi < 16777216
theorem two_len (i j : Int) : [i, j].length ≤ maxLen := by simp [maxLen]
theorem two_len3 (i j : Int) : ([i, j].map (Value.int .i64)).length ≤ 16777216 := by simp
theorem two_len4 (i j : Int) : 0 < ([i, j].map (Value.int .i64)).length := by simp
theorem setS_two (i j : Int) : setS [i, j] = addS (addS [] i) j := rfl
theorem setS_ab (i j : Int) (h1 : 0 ≤ i) (h2 : i < 16777216) (h3 : 0 ≤ j) (h4 : j < 16777216) : setS [i, j] = insS j.toNat (insS i.toNat []) := by rw [setS_two, addS_in h1 h2, addS_in h3 h4]
theorem twoS (a b : Nat) (ha : a < 16777216) (hb : b < 16777216) : TwoS (setS [(a : Int), (b : Int)]) (min a b) (max a b) := by
  have e : setS [(a : Int), (b : Int)] = insS b (insS a []) := by
    exact setS_ab _ _ (by omega) (by omega) (by omega) (by omega)
  rw [e]
  refine ⟨sorted_insS (sorted_insS List.Pairwise.nil), fun x => ?_, by omega, by omega⟩
  rw [mem_insS, mem_insS]
  simp only [List.not_mem_nil, or_false]
  omega
section
variable {S : List Nat} {lo hi : Nat}
theorem TwoS.low (h : TwoS S lo hi) {f : Int} (hf : f ≤ lo) : nextS S f = (lo : Int) :=
  nextS_unique h.sorted ((h.mem lo).2 (.inl rfl)) hf fun b hb _ => by have := (h.mem b).1 hb; have := h.le; omega
theorem TwoS.high (h : TwoS S lo hi) {f : Int} (h1 : (lo : Int) < f) (h2 : f ≤ hi) : nextS S f = (hi : Int) :=
  nextS_unique h.sorted ((h.mem hi).2 (.inr rfl)) h2 fun b hb h3 => by have := (h.mem b).1 hb; omega
theorem TwoS.none (h : TwoS S lo hi) {f : Int} (h1 : (hi : Int) < f) : nextS S f = -1 :=
  nextS_none h.sorted fun b hb => by have := (h.mem b).1 hb; have := h.le; omega
theorem TwoS.next (h : TwoS S lo hi) : nextS S ((lo : Int) + 1) = if (lo : Int) < hi then (hi : Int) else -1 := by
  by_cases e : (lo : Int) < hi
  · rw [if_pos e]; exact h.high (by omega) (by omega)
  · rw [if_neg e]; exact h.none (by omega)
theorem TwoS.at_ (h : TwoS S lo hi) : nextS S (hi : Int) = (hi : Int) := by
  by_cases e : (lo : Int) < hi
  · exact h.high e (Int.le_refl _)
  · have : lo = hi := by have := h.le; omega
    subst this
    exact h.low (Int.le_refl _)
theorem TwoS.top (h : TwoS S lo hi) : nextS (addS S 16777215) ((hi : Int) + 1) = if (hi : Int) < 16777215 then 16777215 else -1 := by
  rw [addS_in (by decide) (by decide)]
  have hs := sorted_insS (i := (16777215 : Int).toNat) h.sorted
  by_cases e : (hi : Int) < 16777215
  · rw [if_pos e]
    have := nextS_unique hs (f := (hi : Int) + 1) (mem_insS.2 (.inl rfl)) (by omega) fun b hb h3 => by
      rcases mem_insS.1 hb with h4 | h4
      · omega
      · have := (h.mem b).1 h4; have := h.le; omega
    rw [this]
    omega
  · rw [if_neg e]
    exact nextS_none hs fun b hb => by
      rcases mem_insS.1 hb with h4 | h4
      · omega
      · have := (h.mem b).1 h4; have := h.le; omega
theorem TwoS.has (h : TwoS S lo hi) : memS S 16777215 = decide ((hi : Int) = 16777215) := by
  rw [Bool.eq_iff_iff, decide_eq_true_iff]
  unfold memS
  rw [List.any_eq_true]
  constructor
  · rintro ⟨a, ha, h1⟩
    have h2 : (a : Int) = 16777215 := by simpa using h1
    have := (h.mem a).1 ha
    have := h.le
    have := h.small
    omega
  · intro h1
    exact ⟨hi, (h.mem hi).2 (.inr rfl), by simpa using h1⟩
theorem TwoS.out (h : TwoS S lo hi) : memS S 16777216 = false := memS_out (fun a ha => by have := (h.mem a).1 ha; have := h.le; have := h.small; omega) (by omega)
end
theorem pick_v {lo hi v : Int} (h : Hid ((if lo < hi then hi else -1) = v)) (w : World) : Calls Tryd.prog 16 #[.int .i64 lo, .int .i64 hi] w fun e w' => e = .returned (.int .i64 v) ∧ w = w' := by
  rw [← h.out]; exact pick_c lo hi w
attribute [local irreducible] setS addS okN memS remS errN nextS
theorem far_c {w0 : World} (hT : Tab w0) (x y : Int) : Calls Tryd.prog 5 #[.int .i64 x, .int .i64 y] w0 (LawPost w0) := by
  have hs := St.start w0
  have hax := and_ffffff x
  have hay := and_ffffff y
  have hx := kf_lt x
  have hy := kf_lt y
  generalize kf x = a at hax hx
  generalize kf y = b at hay hy
  have h2 := twoS a b hx hy
  have hmin : min (a : Int) (b : Int) = ((min a b : Nat) : Int) := by omega
  have hmax : max (a : Int) (b : Int) = ((max a b : Nat) : Int) := by omega
  generalize min a b = lo at h2 hmin
  generalize max a b = hi at h2 hmax
  obtain ⟨S, HSE⟩ : ∃ S, Hid (setS [(a : Int), (b : Int)] = S) := ⟨_, rfl⟩
  rw [HSE.out] at h2
  obtain ⟨v1, P1⟩ : ∃ v, Hid ((if (lo : Int) < hi then (hi : Int) else -1) = v) := ⟨_, rfl⟩
  obtain ⟨v2, P2⟩ : ∃ v, Hid ((if (hi : Int) < 16777215 then (16777215 : Int) else -1) = v) := ⟨_, rfl⟩
  obtain ⟨S', D3⟩ : ∃ S', Hid (addS S 16777215 = S') := ⟨_, rfl⟩
  have N0 : Hid (nextS S 0 = (lo : Int)) := h2.low (by omega)
  have N4 : Hid (nextS S (-5) = (lo : Int)) := h2.low (by omega)
  have N1 : Hid (nextS S ((lo : Int) + 1) = v1) := by rw [Hid, h2.next, P1.out]
  have N2 : Hid (nextS S (hi : Int) = (hi : Int)) := h2.at_
  have N3 : Hid (nextS S ((hi : Int) + 1) = -1) := h2.none (by omega)
  have N5 : Hid (nextS S' ((hi : Int) + 1) = v2) := by rw [Hid, ← D3.out, h2.top, P2.out]
  have A1 : Hid ((okN 16777216 && !memS S 16777216) = false) := by rw [Hid, okN_out (by omega)]; rfl
  have A2 : Hid (errN 16777216 = 1) := errN_out (by omega)
  have A3 : Hid (addS S 16777216 = S) := addS_out (by omega)
  have B1 : Hid ((okN (-1) && !memS S (-1)) = false) := by rw [Hid, okN_out (by omega)]; rfl
  have B2 : Hid (errN (-1) = 1) := errN_out (by omega)
  have B3 : Hid (addS S (-1) = S) := addS_out (by omega)
  have C1 : Hid (memS S 16777216 = false) := h2.out
  have C3 : Hid (remS S 16777216 = S) := remS_out (by omega)
  have D2 : Hid (errN 16777215 = 0) := errN_in (by omega) (by omega)
  have hsm : (hi : Int) + 1 ≤ 16777216 := by have := h2.small; omega
  have hlo : (lo : Int) + 1 ≤ 16777216 := by have := h2.le; omega
  by_cases htop : (hi : Int) = 16777215
  · have D1 : Hid ((okN 16777215 && !memS S 16777215) = false) := by rw [Hid, okN_in (by omega) (by omega), h2.has, decide_eq_true htop]; rfl
    have hq : ((hi : Int) != 16777215) = false := by simp; omega
    clear h2 htop
    go_enter Tryd.func5, Tryd.ntmps5
    go_wp2_with (first
      | (refine wpl_buildN (vs := [(a : Int), (b : Int)].map (Value.int .i64)) elem24 rfl rfl (two_len3 _ _) (two_len4 _ _) (ints_cells _) hs ?_; clear hs; intro g w1 hs)
      | (go_at_call 10; refine (new_v (zs := [(a : Int), (b : Int)]) hs RdS.blk (two_len _ _) rfl HSE).mono ?_; clear hs; rintro e w1 ⟨T, rfl, hs⟩)
      | (go_at_call 15; refine (next_v hs (hT.grew hs.made_grew2) N0).mono ?_; rintro e w' ⟨rfl, hg⟩; replace hs := hs.grew hg; clear hg)
      | (go_at_call 15; refine (next_v hs (hT.grew hs.made_grew2) N4).mono ?_; rintro e w' ⟨rfl, hg⟩; replace hs := hs.grew hg; clear hg)
      | (go_at_call 15; refine (next_v hs (hT.grew hs.made_grew2) N1).mono ?_; rintro e w' ⟨rfl, hg⟩; replace hs := hs.grew hg; clear hg)
      | (go_at_call 15; refine (next_v hs (hT.grew hs.made_grew2) N2).mono ?_; rintro e w' ⟨rfl, hg⟩; replace hs := hs.grew hg; clear hg)
      | (go_at_call 15; refine (next_v hs (hT.grew hs.made_grew2) N3).mono ?_; rintro e w' ⟨rfl, hg⟩; replace hs := hs.grew hg; clear hg)
      | (go_at_call 15; refine (next_v hs (hT.grew hs.made_grew2) N5).mono ?_; rintro e w' ⟨rfl, hg⟩; replace hs := hs.grew hg; clear hg)
      | (go_at_call 16; refine (pick_v P1 _).mono ?_; rintro e w' ⟨rfl, rfl⟩)
      | (go_at_call 16; refine (pick_v P2 _).mono ?_; rintro e w' ⟨rfl, rfl⟩)
      | (go_at_call 17; refine (add_v hs A1 A2 A3).mono ?_; clear hs; rintro e w1 ⟨rfl, hs⟩)
      | (go_at_call 17; refine (add_v hs B1 B2 B3).mono ?_; clear hs; rintro e w1 ⟨rfl, hs⟩)
      | (go_at_call 17; refine (add_v hs D1 D2 D3).mono ?_; clear hs; rintro e w1 ⟨rfl, hs⟩)
      | (go_at_call 18; refine (remove_v hs C1 A2 C3).mono ?_; clear hs; rintro e w1 ⟨rfl, hs⟩)
      | (go_at_call 9; refine (awake2 (hT.grew hs.below)).mono ?_; rintro e w' ⟨rfl, hg⟩; replace hs := hs.grew hg; clear hg))
    go_ret
    exact ⟨rfl, hs.drop.drop⟩
  · have D1 : Hid ((okN 16777215 && !memS S 16777215) = true) := by rw [Hid, okN_in (by omega) (by omega), h2.has, decide_eq_false htop]; rfl
    have hq : ((hi : Int) != 16777215) = true := by simp; omega
    clear h2 htop
    go_enter Tryd.func5, Tryd.ntmps5
    go_wp2_with (first
      | (refine wpl_buildN (vs := [(a : Int), (b : Int)].map (Value.int .i64)) elem24 rfl rfl (two_len3 _ _) (two_len4 _ _) (ints_cells _) hs ?_; clear hs; intro g w1 hs)
      | (go_at_call 10; refine (new_v (zs := [(a : Int), (b : Int)]) hs RdS.blk (two_len _ _) rfl HSE).mono ?_; clear hs; rintro e w1 ⟨T, rfl, hs⟩)
      | (go_at_call 15; refine (next_v hs (hT.grew hs.made_grew2) N0).mono ?_; rintro e w' ⟨rfl, hg⟩; replace hs := hs.grew hg; clear hg)
      | (go_at_call 15; refine (next_v hs (hT.grew hs.made_grew2) N4).mono ?_; rintro e w' ⟨rfl, hg⟩; replace hs := hs.grew hg; clear hg)
      | (go_at_call 15; refine (next_v hs (hT.grew hs.made_grew2) N1).mono ?_; rintro e w' ⟨rfl, hg⟩; replace hs := hs.grew hg; clear hg)
      | (go_at_call 15; refine (next_v hs (hT.grew hs.made_grew2) N2).mono ?_; rintro e w' ⟨rfl, hg⟩; replace hs := hs.grew hg; clear hg)
      | (go_at_call 15; refine (next_v hs (hT.grew hs.made_grew2) N3).mono ?_; rintro e w' ⟨rfl, hg⟩; replace hs := hs.grew hg; clear hg)
      | (go_at_call 15; refine (next_v hs (hT.grew hs.made_grew2) N5).mono ?_; rintro e w' ⟨rfl, hg⟩; replace hs := hs.grew hg; clear hg)
      | (go_at_call 16; refine (pick_v P1 _).mono ?_; rintro e w' ⟨rfl, rfl⟩)
      | (go_at_call 16; refine (pick_v P2 _).mono ?_; rintro e w' ⟨rfl, rfl⟩)
      | (go_at_call 17; refine (add_v hs A1 A2 A3).mono ?_; clear hs; rintro e w1 ⟨rfl, hs⟩)
      | (go_at_call 17; refine (add_v hs B1 B2 B3).mono ?_; clear hs; rintro e w1 ⟨rfl, hs⟩)
      | (go_at_call 17; refine (add_v hs D1 D2 D3).mono ?_; clear hs; rintro e w1 ⟨rfl, hs⟩)
      | (go_at_call 18; refine (remove_v hs C1 A2 C3).mono ?_; clear hs; rintro e w1 ⟨rfl, hs⟩)
      | (go_at_call 9; refine (awake2 (hT.grew hs.below)).mono ?_; rintro e w' ⟨rfl, hg⟩; replace hs := hs.grew hg; clear hg))
    go_ret
    exact ⟨rfl, hs.drop.drop⟩
end Go.Proofs.YtdcihfofdjckjaaDoor
