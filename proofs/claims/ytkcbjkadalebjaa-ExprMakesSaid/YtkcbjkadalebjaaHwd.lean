/-
  The contract of a set's Word, whatever level and place (no table).
-/
import Derived.Test.YtkcbjkadalebjaaHib4
import Derived.Test.YtkcbjkadalebjaaOps2
set_option maxRecDepth 100000
namespace Go.Proofs.Ytkcbjkadalebjaa
open Go Go.RowKit
attribute [local irreducible] wpList Calls Code.wp

/-! ### A word of a level -/
def wordS (S : List Nat) (level at_ : Int) : Nat := if 0 ≤ level ∧ level < 4 ∧ 0 ≤ at_ ∧ at_ < 64 ^ (3 - level.toNat) then wordOf S (level.toNat, at_.toNat) else 0
theorem at_w {w0 w : World} {L : List As} {T : Nat} {S : List Nat} {ks : List Key} {G : Key → Option Nat} {W : Key → Nat} {n : Nat} (hf : Fits T S ks G W) (hs : St w0 (tbl ks G W n :: L) w) (i l p : Nat) (hi : i < 16777216) (hl : l ≤ 3) (hp : plc i l = p) {v : Value} (hv : Hid (ptrV (G (l, p)) = v)) {fi : Int} (hfi : fi = (i : Nat)) :
    Calls Try.prog 38 #[.pointer (some ⟨T, 0, none⟩), .int .i64 fi, .int .i64 (l : Nat)] w fun e w' => e = .returned v ∧ Grew w w' := by
  subst hfi; subst hp; exact at_v hf hs i l hi hl hv
attribute [local irreducible] plc dig wordOf wordS
set_option maxHeartbeats 2000000 in
theorem hword_in {w0 w : World} {L : List As} {T : Nat} {S : List Nat} {ks : List Key} {G : Key → Option Nat} {W : Key → Nat} (hf : Fits T S ks G W) (hs : St w0 (tbl ks G W S.length :: L) w) : ∀ (l p : Nat), l < 4 → p < 64 ^ (3 - l) →
    Calls Try.prog 50 #[.pointer (some ⟨T, 0, none⟩), .int .i64 (l : Nat), .int .i64 (p : Nat)] w fun e w' => e = .returned (.int .u64 (wordS S l p : Nat)) ∧ Grew w w'
  | 0, p, hl, hp => by
    have hp0 : 0 ≤ (p : Int) := Int.natCast_nonneg p
    have hpB : (p : Int) < 262144 := by omega
    have HW : Hid (wordS S ((0 : Nat) : Int) (p : Int) = wordOf S (0, p)) := by
      rw [Hid, wordS, if_pos ⟨by decide, by decide, hp0, by simpa using hpB⟩]; rfl
    have hpN : p < 262144 := by omega
    clear hpB
    have HP : plc (p * 64) 0 = p := by unfold plc; omega
    clear hp
    have HF := Lib.hid hf
    cases hg : G (0, p) with
    | none =>
      have HV : Hid (ptrV (G (0, p)) = .pointer none) := by rw [Hid, hg]; rfl
      have HR : Hid (wordOf S (0, p) = 0) := by
        rw [Hid]
        by_cases hl3 : 0 = 3
        · have : p = 0 := by omega
          subst this
          first
            | (rw [hf.top] at hg; cases hg)
            | (exact absurd hl3 (by decide))
        · exact Classical.byContradiction fun h => (hf.there (0, p) (by simp only; omega)).2 h hg
      rw [HW.out, HR.out]
      have HPP := Lib.hid HP
      clear hg hf HP HR HW
      go_enter Try.func50, Try.ntmps50
      go_wp2_with (first
        | (go_at_call 38; refine (at_w HF.out hs (p * 64) 0 p (by omega) (by decide) HPP.out HV (by omega)).mono ?_; rintro e w' ⟨rfl, hg⟩))
      go_ret
      exact ⟨rfl, hg⟩
    | some g =>
      have HV : Hid (ptrV (G (0, p)) = .pointer (some ⟨g, 0, none⟩)) := by rw [Hid, hg]; rfl
      have hr := Rd.tbl_word (w0 := w0) (L := L) (W := W) (n := S.length) ((hf.mem _).2 (by rw [hg]; exact Option.some_ne_none g)) hg
      rw [hf.word (0, p) (by simp only; omega)] at hr
      rw [HW.out]
      have HPP := Lib.hid HP
      generalize wordOf S (0, p) = x at hr ⊢
      clear hg hf HP HW
      go_enter Try.func50, Try.ntmps50
      go_wp2_with (first
        | (go_at_call 38; refine (at_w HF.out hs (p * 64) 0 p (by omega) (by decide) HPP.out HV (by omega)).mono ?_; rintro e w' ⟨rfl, hg⟩; have hc := hr _ (hs.grew hg)))
      go_ret
      exact ⟨rfl, hg⟩
  | 1, p, hl, hp => by
    have hp0 : 0 ≤ (p : Int) := Int.natCast_nonneg p
    have hpB : (p : Int) < 4096 := by omega
    have HW : Hid (wordS S ((1 : Nat) : Int) (p : Int) = wordOf S (1, p)) := by
      rw [Hid, wordS, if_pos ⟨by decide, by decide, hp0, by simpa using hpB⟩]; rfl
    have hpN : p < 4096 := by omega
    clear hpB
    have HP : plc (p * 4096) 1 = p := by unfold plc; omega
    clear hp
    have HF := Lib.hid hf
    cases hg : G (1, p) with
    | none =>
      have HV : Hid (ptrV (G (1, p)) = .pointer none) := by rw [Hid, hg]; rfl
      have HR : Hid (wordOf S (1, p) = 0) := by
        rw [Hid]
        by_cases hl3 : 1 = 3
        · have : p = 0 := by omega
          subst this
          first
            | (rw [hf.top] at hg; cases hg)
            | (exact absurd hl3 (by decide))
        · exact Classical.byContradiction fun h => (hf.there (1, p) (by simp only; omega)).2 h hg
      rw [HW.out, HR.out]
      have HPP := Lib.hid HP
      clear hg hf HP HR HW
      go_enter Try.func50, Try.ntmps50
      go_wp2_with (first
        | (go_at_call 38; refine (at_w HF.out hs (p * 4096) 1 p (by omega) (by decide) HPP.out HV (by omega)).mono ?_; rintro e w' ⟨rfl, hg⟩))
      go_ret
      exact ⟨rfl, hg⟩
    | some g =>
      have HV : Hid (ptrV (G (1, p)) = .pointer (some ⟨g, 0, none⟩)) := by rw [Hid, hg]; rfl
      have hr := Rd.tbl_word (w0 := w0) (L := L) (W := W) (n := S.length) ((hf.mem _).2 (by rw [hg]; exact Option.some_ne_none g)) hg
      rw [hf.word (1, p) (by simp only; omega)] at hr
      rw [HW.out]
      have HPP := Lib.hid HP
      generalize wordOf S (1, p) = x at hr ⊢
      clear hg hf HP HW
      go_enter Try.func50, Try.ntmps50
      go_wp2_with (first
        | (go_at_call 38; refine (at_w HF.out hs (p * 4096) 1 p (by omega) (by decide) HPP.out HV (by omega)).mono ?_; rintro e w' ⟨rfl, hg⟩; have hc := hr _ (hs.grew hg)))
      go_ret
      exact ⟨rfl, hg⟩
  | 2, p, hl, hp => by
    have hp0 : 0 ≤ (p : Int) := Int.natCast_nonneg p
    have hpB : (p : Int) < 64 := by omega
    have HW : Hid (wordS S ((2 : Nat) : Int) (p : Int) = wordOf S (2, p)) := by
      rw [Hid, wordS, if_pos ⟨by decide, by decide, hp0, by simpa using hpB⟩]; rfl
    have hpN : p < 64 := by omega
    clear hpB
    have HP : plc (p * 262144) 2 = p := by unfold plc; omega
    clear hp
    have HF := Lib.hid hf
    cases hg : G (2, p) with
    | none =>
      have HV : Hid (ptrV (G (2, p)) = .pointer none) := by rw [Hid, hg]; rfl
      have HR : Hid (wordOf S (2, p) = 0) := by
        rw [Hid]
        by_cases hl3 : 2 = 3
        · have : p = 0 := by omega
          subst this
          first
            | (rw [hf.top] at hg; cases hg)
            | (exact absurd hl3 (by decide))
        · exact Classical.byContradiction fun h => (hf.there (2, p) (by simp only; omega)).2 h hg
      rw [HW.out, HR.out]
      have HPP := Lib.hid HP
      clear hg hf HP HR HW
      go_enter Try.func50, Try.ntmps50
      go_wp2_with (first
        | (go_at_call 38; refine (at_w HF.out hs (p * 262144) 2 p (by omega) (by decide) HPP.out HV (by omega)).mono ?_; rintro e w' ⟨rfl, hg⟩))
      go_ret
      exact ⟨rfl, hg⟩
    | some g =>
      have HV : Hid (ptrV (G (2, p)) = .pointer (some ⟨g, 0, none⟩)) := by rw [Hid, hg]; rfl
      have hr := Rd.tbl_word (w0 := w0) (L := L) (W := W) (n := S.length) ((hf.mem _).2 (by rw [hg]; exact Option.some_ne_none g)) hg
      rw [hf.word (2, p) (by simp only; omega)] at hr
      rw [HW.out]
      have HPP := Lib.hid HP
      generalize wordOf S (2, p) = x at hr ⊢
      clear hg hf HP HW
      go_enter Try.func50, Try.ntmps50
      go_wp2_with (first
        | (go_at_call 38; refine (at_w HF.out hs (p * 262144) 2 p (by omega) (by decide) HPP.out HV (by omega)).mono ?_; rintro e w' ⟨rfl, hg⟩; have hc := hr _ (hs.grew hg)))
      go_ret
      exact ⟨rfl, hg⟩
  | 3, p, hl, hp => by
    have hp0 : 0 ≤ (p : Int) := Int.natCast_nonneg p
    have hpB : (p : Int) < 1 := by omega
    have HW : Hid (wordS S ((3 : Nat) : Int) (p : Int) = wordOf S (3, p)) := by
      rw [Hid, wordS, if_pos ⟨by decide, by decide, hp0, by simpa using hpB⟩]; rfl
    have hpN : p < 1 := by omega
    clear hpB
    have HP : plc (p * 16777216) 3 = p := by unfold plc; omega
    clear hp
    have HF := Lib.hid hf
    cases hg : G (3, p) with
    | none =>
      have HV : Hid (ptrV (G (3, p)) = .pointer none) := by rw [Hid, hg]; rfl
      have HR : Hid (wordOf S (3, p) = 0) := by
        rw [Hid]
        by_cases hl3 : 3 = 3
        · have : p = 0 := by omega
          subst this
          first
            | (rw [hf.top] at hg; cases hg)
            | (exact absurd hl3 (by decide))
        · exact Classical.byContradiction fun h => (hf.there (3, p) (by simp only; omega)).2 h hg
      rw [HW.out, HR.out]
      have HPP := Lib.hid HP
      clear hg hf HP HR HW
      go_enter Try.func50, Try.ntmps50
      go_wp2_with (first
        | (go_at_call 38; refine (at_w HF.out hs (p * 16777216) 3 p (by omega) (by decide) HPP.out HV (by omega)).mono ?_; rintro e w' ⟨rfl, hg⟩))
      go_ret
      exact ⟨rfl, hg⟩
    | some g =>
      have HV : Hid (ptrV (G (3, p)) = .pointer (some ⟨g, 0, none⟩)) := by rw [Hid, hg]; rfl
      have hr := Rd.tbl_word (w0 := w0) (L := L) (W := W) (n := S.length) ((hf.mem _).2 (by rw [hg]; exact Option.some_ne_none g)) hg
      rw [hf.word (3, p) (by simp only; omega)] at hr
      rw [HW.out]
      have HPP := Lib.hid HP
      generalize wordOf S (3, p) = x at hr ⊢
      clear hg hf HP HW
      go_enter Try.func50, Try.ntmps50
      go_wp2_with (first
        | (go_at_call 38; refine (at_w HF.out hs (p * 16777216) 3 p (by omega) (by decide) HPP.out HV (by omega)).mono ?_; rintro e w' ⟨rfl, hg⟩; have hc := hr _ (hs.grew hg)))
      go_ret
      exact ⟨rfl, hg⟩
  | _ + 4, _, hl, _ => by omega
theorem wordS_out {S : List Nat} {level at_ : Int} (h : ¬ (0 ≤ level ∧ level < 4 ∧ 0 ≤ at_ ∧ at_ < 64 ^ (3 - level.toNat))) : wordS S level at_ = 0 := by unfold wordS; exact if_neg h
def ww (l : Nat) : Int := match l with
  | 0 => 262144
  | 1 => 4096
  | 2 => 64
  | _ => 1
theorem hword_hi (T : Nat) (a : Int) : ∀ l : Nat, l < 4 → ww l ≤ a → ∀ w : World, Calls Try.prog 50 #[.pointer (some ⟨T, 0, none⟩), .int .i64 (l : Nat), .int .i64 a] w fun e w' => e = .returned (.int .u64 0) ∧ Grew w w'
  | 0, _, h, w => by
    have h0 : decide (a < 0) = false := decide_eq_false (by simp only [ww] at h; omega)
    have hd : decide (262144 ≤ a) = true := decide_eq_true h
    clear h
    go_enter Try.func50, Try.ntmps50
    go_wp2
    go_ret
    exact ⟨rfl, Grew.refl _⟩
  | 1, _, h, w => by
    have h0 : decide (a < 0) = false := decide_eq_false (by simp only [ww] at h; omega)
    have hd : decide (4096 ≤ a) = true := decide_eq_true h
    clear h
    go_enter Try.func50, Try.ntmps50
    go_wp2
    go_ret
    exact ⟨rfl, Grew.refl _⟩
  | 2, _, h, w => by
    have h0 : decide (a < 0) = false := decide_eq_false (by simp only [ww] at h; omega)
    have hd : decide (64 ≤ a) = true := decide_eq_true h
    clear h
    go_enter Try.func50, Try.ntmps50
    go_wp2
    go_ret
    exact ⟨rfl, Grew.refl _⟩
  | 3, _, h, w => by
    have h0 : decide (a < 0) = false := decide_eq_false (by simp only [ww] at h; omega)
    have hd : decide (1 ≤ a) = true := decide_eq_true h
    clear h
    go_enter Try.func50, Try.ntmps50
    go_wp2
    go_ret
    exact ⟨rfl, Grew.refl _⟩
  | _ + 4, hl, _, _ => by omega
theorem hword_g {w0 w : World} {L : List As} {T : Nat} {S : List Nat} (hs : St w0 (HSet T S :: L) w) (level a : Int) :
    Calls Try.prog 50 #[.pointer (some ⟨T, 0, none⟩), .int .i64 level, .int .i64 a] w fun e w' => e = .returned (.int .u64 (wordS S level a : Nat)) ∧ Grew w w' := by
  by_cases h0 : level < 0
  · rw [wordS_out (fun h => by omega)]
    go_enter Try.func50, Try.ntmps50
    go_wp2
    go_ret
    exact ⟨rfl, Grew.refl _⟩
  · by_cases h4 : 4 ≤ level
    · rw [wordS_out (fun h => by omega)]
      go_enter Try.func50, Try.ntmps50
      go_wp2
      go_ret
      exact ⟨rfl, Grew.refl _⟩
    · obtain ⟨l, rfl⟩ := Int.eq_ofNat_of_zero_le (show 0 ≤ level by omega)
      have hl : l < 4 := by omega
      by_cases ha : a < 0
      · rw [wordS_out (fun h => by omega)]
        have h5 : (l : Int) ≤ 3 := by omega
        clear h4 hl
        go_enter Try.func50, Try.ntmps50
        go_wp2
        go_ret
        exact ⟨rfl, Grew.refl _⟩
      · have e : (64 : Int) ^ (3 - (l : Int).toNat) = ww l := by
          have h3 : l = 0 ∨ l = 1 ∨ l = 2 ∨ l = 3 := by omega
          rcases h3 with rfl | rfl | rfl | rfl <;> decide
        by_cases hm : ww l ≤ a
        · rw [wordS_out (fun h => by have := h.2.2.2; rw [e] at this; omega)]
          exact hword_hi T a l hl hm w
        · obtain ⟨p, rfl⟩ := Int.eq_ofNat_of_zero_le (show 0 ≤ a by omega)
          obtain ⟨ks, G, W, hf, hs⟩ := hs.hopen
          refine hword_in hf hs l p hl ?_
          have h3 : l = 0 ∨ l = 1 ∨ l = 2 ∨ l = 3 := by omega
          rcases h3 with rfl | rfl | rfl | rfl <;> simp only [ww] at hm <;> omega
end Go.Proofs.Ytkcbjkadalebjaa
