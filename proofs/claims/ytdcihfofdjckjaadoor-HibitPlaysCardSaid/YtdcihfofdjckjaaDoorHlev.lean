/-
  HibitLevels.
-/
import Derived.Test.YtdcihfofdjckjaaDoorHib8
set_option maxRecDepth 100000
namespace Go.Proofs.YtdcihfofdjckjaaDoor
open Go Go.RowKit
attribute [local irreducible] wpList Calls Code.wp

def kk (z : Int) : Nat := (z % 262144).toNat
theorem kk_lt (z : Int) : kk z < 262144 := by unfold kk; omega
theorem and_3ffff (z : Int) : bits .and .i64 z 262143 = (kk z : Nat) := by
  show IntKind.i64.wrap ((BitVec.ofInt 64 z &&& BitVec.ofInt 64 262143).toNat : Int) = _
  rw [BitVec.toNat_and, show (BitVec.ofInt 64 262143).toNat = 2 ^ 18 - 1 by decide, Nat.and_two_pow_sub_one_eq_mod, BitVec.toNat_ofInt, IntKind.wrap_i64]
  unfold kk
  omega
theorem wordS_in {S : List Nat} {l p : Nat} (hl : l < 4) (hp : p < 64 ^ (3 - l)) : wordS S (l : Nat) (p : Nat) = wordOf S (l, p) := by
  have e : (64 : Int) ^ (3 - l) = ((64 ^ (3 - l) : Nat) : Int) := by push_cast; rfl
  rw [wordS, if_pos ⟨by omega, by omega, by omega, by rw [Int.toNat_natCast, e]; omega⟩]
  simp
theorem lev_has {S : List Nat} {l k d : Nat} (hd : d < 64) : hasW (wordOf S (l + 1, k)) (d : Nat) = true ↔ wordOf S (l, 64 * k + d) ≠ 0 := by
  rw [← wordOf_below hd]
  have h2 : (d : Int) < 64 := by omega
  unfold hasW
  simp [h2]
theorem wordS_lt (S : List Nat) (l a : Int) : wordS S l a < 2 ^ 64 := by
  unfold wordS
  by_cases h : 0 ≤ l ∧ l < 4 ∧ 0 ≤ a ∧ a < 64 ^ (3 - l.toNat)
  · rw [if_pos h]; exact wordOf_lt _ _
  · rw [if_neg h]; decide
theorem lev_bit {S : List Nat} {l k d : Nat} (hd : d < 64) (hl : l < 3) (hk : k < 64 ^ (2 - l)) : hasW (wordS S ((l + 1 : Nat) : Int) (k : Nat)) (d : Nat) = true ↔ wordS S (l : Nat) ((64 * k + d : Nat) : Int) ≠ 0 := by
  rw [wordS_in (by omega) (by rw [show 3 - (l + 1) = 2 - l by omega]; exact hk), wordS_in (by omega) (by
    have : 3 - l = (2 - l) + 1 := by omega
    rw [this, Nat.pow_succ]
    omega), lev_has hd]
attribute [local irreducible] wordS setS addS okN memS remS hasW
theorem levels_c {w0 : World} (hT : Tab w0) {va : Value} {za : List Int} (hva : IntArg w0 va za) (z : Int) : Calls Tryd.prog 3 #[va, .int .i64 z] w0 (LawPost w0) := by
  obtain ⟨A, na, ca, rfl, hlen, hnc, hcm, hra, hba⟩ := hva
  subst hlen
  have hlm : za.length ≤ maxLen := by omega
  unfold maxLen at hcm
  have hs := St.start w0
  have hand := and_3ffff z
  have hm := kk_lt z
  generalize kk z = m at hand hm
  clear hba
  by_cases h60 : 60 < za.length
  · go_enter Tryd.func3, Tryd.ntmps3
    go_wp2_with (first
      | (go_at_call 9; refine (awake2 hT).mono ?_; rintro e w' ⟨rfl, hg⟩; replace hs := hs.grew hg; clear hg))
    go_ret
    exact ⟨rfl, hs⟩
  go_enter Tryd.func3, Tryd.ntmps3
  go_wp2_with (first
    | (go_at_call 10; refine (new_h hs hra hlm).mono ?_; clear hs; rintro e w1 ⟨T, rfl, hs⟩))
  go_loopw [6] (fun lv wr => ∃ j : Int, 1 ≤ j ∧ j ≤ 4 ∧ lv = .int .i64 j ∧ St w0 [HSet T (setS za)] wr) (fun lv _ => 4 - (intOf lv).toNat)
  case atStart => exact ⟨1, by decide, by decide, rfl, hs⟩
  case round =>
    clear hs
    obtain ⟨j, hj1, hj4, rfl, hs⟩ := hrel
    have h4 : j = 1 ∨ j = 2 ∨ j = 3 ∨ j = 4 := by omega
    clear hj1 hj4
    rcases h4 with rfl | rfl | rfl | rfl
    · skip
      have hkD : (m : Int) / 64 = ((m / 64 : Nat) : Int) := by omega
      have hkB : m / 64 < 4096 := by omega
      have hin : ∀ d : Nat, d < 64 → (hasW (wordS (setS za) 1 (m / 64 : Nat)) (d : Nat) = true ↔ wordS (setS za) (1 - 1) ((64 * (m / 64) + d : Nat) : Int) ≠ 0) := fun d hd => lev_bit (l := 1 - 1) hd (by decide) hkB
      have hx := wordS_lt (setS za) 1 (m / 64 : Nat)
      generalize m / 64 = q at hkD hkB hin hx
      obtain ⟨x, HX⟩ : ∃ x, Hid (wordS (setS za) 1 (q : Nat) = x) := ⟨_, rfl⟩
      rw [HX.out] at hx
      have HIN : Hid (∀ d : Nat, d < 64 → (hasW x (d : Nat) = true ↔ wordS (setS za) (1 - 1) ((64 * q + d : Nat) : Int) ≠ 0)) := by rw [Hid, ← HX.out]; exact hin
      clear hin
      go_wp2_with (first
        | (go_at_call 11; refine (hword_v hs HX).mono ?_; rintro e w' ⟨rfl, hg⟩; replace hs := hs.grew hg; clear hg))
      go_loopw [9] (fun iv wr => ∃ d : Nat, d ≤ 64 ∧ iv = .int .i64 (d : Nat) ∧ St w0 [HSet T (setS za)] wr) (fun iv _ => 64 - (intOf iv).toNat)
      case atStart => exact ⟨0, by decide, rfl, hs⟩
      case round =>
        clear hs
        obtain ⟨d, hd, rfl, hs⟩ := hrel
        by_cases hlt : d < 64
        · have h1 := HIN.out d hlt
          have hqd : (64 : Int) * (q : Int) + (d : Int) = ((64 * q + d : Nat) : Int) := by push_cast; rfl
          obtain ⟨y, HY⟩ : ∃ y, Hid (wordS (setS za) (1 - 1) ((64 * q + d : Nat) : Int) = y) := ⟨_, rfl⟩
          rw [HY.out] at h1
          replace HY : Hid (wordS (setS za) (1 - 1) (64 * (q : Int) + (d : Int)) = y) := by rw [Hid, hqd]; exact HY.out
          clear hqd
          by_cases hy : y = 0
          · subst hy
            have HB : Hid (hasW x (d : Nat) = false) := by rw [Hid, ← Bool.not_eq_true, h1]; simp
            clear h1
            go_wp2_with (first
              | (go_at_call 12; refine (has_v hx HB _).mono ?_; rintro e w' ⟨rfl, rfl⟩)
              | (go_at_call 11; refine (hword_v hs HY).mono ?_; rintro e w' ⟨rfl, hg⟩; replace hs := hs.grew hg; clear hg))
            go_roundw
            case rel => exact ⟨d + 1, by omega, by go_num, hs⟩
            case measure => simp [intOf] <;> omega
          · have HB : Hid (hasW x (d : Nat) = true) := h1.2 hy
            have hy2 : ((y : Int) != 0) = true := by simp; exact hy
            clear h1
            go_wp2_with (first
              | (go_at_call 12; refine (has_v hx HB _).mono ?_; rintro e w' ⟨rfl, rfl⟩)
              | (go_at_call 11; refine (hword_v hs HY).mono ?_; rintro e w' ⟨rfl, hg⟩; replace hs := hs.grew hg; clear hg))
            go_roundw
            case rel => exact ⟨d + 1, by omega, by go_num, hs⟩
            case measure => simp [intOf] <;> omega
        · go_wp2
          go_roundw
          case rel => exact ⟨1 + 1, by decide, by decide, rfl, hs⟩
          case measure => simp [intOf] <;> omega
    · skip
      have hkD : (m : Int) / 4096 = ((m / 4096 : Nat) : Int) := by omega
      have hkB : m / 4096 < 64 := by omega
      have hin : ∀ d : Nat, d < 64 → (hasW (wordS (setS za) 2 (m / 4096 : Nat)) (d : Nat) = true ↔ wordS (setS za) (2 - 1) ((64 * (m / 4096) + d : Nat) : Int) ≠ 0) := fun d hd => lev_bit (l := 2 - 1) hd (by decide) hkB
      have hx := wordS_lt (setS za) 2 (m / 4096 : Nat)
      generalize m / 4096 = q at hkD hkB hin hx
      obtain ⟨x, HX⟩ : ∃ x, Hid (wordS (setS za) 2 (q : Nat) = x) := ⟨_, rfl⟩
      rw [HX.out] at hx
      have HIN : Hid (∀ d : Nat, d < 64 → (hasW x (d : Nat) = true ↔ wordS (setS za) (2 - 1) ((64 * q + d : Nat) : Int) ≠ 0)) := by rw [Hid, ← HX.out]; exact hin
      clear hin
      go_wp2_with (first
        | (go_at_call 11; refine (hword_v hs HX).mono ?_; rintro e w' ⟨rfl, hg⟩; replace hs := hs.grew hg; clear hg))
      go_loopw [9] (fun iv wr => ∃ d : Nat, d ≤ 64 ∧ iv = .int .i64 (d : Nat) ∧ St w0 [HSet T (setS za)] wr) (fun iv _ => 64 - (intOf iv).toNat)
      case atStart => exact ⟨0, by decide, rfl, hs⟩
      case round =>
        clear hs
        obtain ⟨d, hd, rfl, hs⟩ := hrel
        by_cases hlt : d < 64
        · have h1 := HIN.out d hlt
          have hqd : (64 : Int) * (q : Int) + (d : Int) = ((64 * q + d : Nat) : Int) := by push_cast; rfl
          obtain ⟨y, HY⟩ : ∃ y, Hid (wordS (setS za) (2 - 1) ((64 * q + d : Nat) : Int) = y) := ⟨_, rfl⟩
          rw [HY.out] at h1
          replace HY : Hid (wordS (setS za) (2 - 1) (64 * (q : Int) + (d : Int)) = y) := by rw [Hid, hqd]; exact HY.out
          clear hqd
          by_cases hy : y = 0
          · subst hy
            have HB : Hid (hasW x (d : Nat) = false) := by rw [Hid, ← Bool.not_eq_true, h1]; simp
            clear h1
            go_wp2_with (first
              | (go_at_call 12; refine (has_v hx HB _).mono ?_; rintro e w' ⟨rfl, rfl⟩)
              | (go_at_call 11; refine (hword_v hs HY).mono ?_; rintro e w' ⟨rfl, hg⟩; replace hs := hs.grew hg; clear hg))
            go_roundw
            case rel => exact ⟨d + 1, by omega, by go_num, hs⟩
            case measure => simp [intOf] <;> omega
          · have HB : Hid (hasW x (d : Nat) = true) := h1.2 hy
            have hy2 : ((y : Int) != 0) = true := by simp; exact hy
            clear h1
            go_wp2_with (first
              | (go_at_call 12; refine (has_v hx HB _).mono ?_; rintro e w' ⟨rfl, rfl⟩)
              | (go_at_call 11; refine (hword_v hs HY).mono ?_; rintro e w' ⟨rfl, hg⟩; replace hs := hs.grew hg; clear hg))
            go_roundw
            case rel => exact ⟨d + 1, by omega, by go_num, hs⟩
            case measure => simp [intOf] <;> omega
        · go_wp2
          go_roundw
          case rel => exact ⟨2 + 1, by decide, by decide, rfl, hs⟩
          case measure => simp [intOf] <;> omega
    · skip
      have hkD : (m : Int) / 262144 = ((m / 262144 : Nat) : Int) := by omega
      have hkB : m / 262144 < 1 := by omega
      have hin : ∀ d : Nat, d < 64 → (hasW (wordS (setS za) 3 (m / 262144 : Nat)) (d : Nat) = true ↔ wordS (setS za) (3 - 1) ((64 * (m / 262144) + d : Nat) : Int) ≠ 0) := fun d hd => lev_bit (l := 3 - 1) hd (by decide) hkB
      have hx := wordS_lt (setS za) 3 (m / 262144 : Nat)
      generalize m / 262144 = q at hkD hkB hin hx
      obtain ⟨x, HX⟩ : ∃ x, Hid (wordS (setS za) 3 (q : Nat) = x) := ⟨_, rfl⟩
      rw [HX.out] at hx
      have HIN : Hid (∀ d : Nat, d < 64 → (hasW x (d : Nat) = true ↔ wordS (setS za) (3 - 1) ((64 * q + d : Nat) : Int) ≠ 0)) := by rw [Hid, ← HX.out]; exact hin
      clear hin
      go_wp2_with (first
        | (go_at_call 11; refine (hword_v hs HX).mono ?_; rintro e w' ⟨rfl, hg⟩; replace hs := hs.grew hg; clear hg))
      go_loopw [9] (fun iv wr => ∃ d : Nat, d ≤ 64 ∧ iv = .int .i64 (d : Nat) ∧ St w0 [HSet T (setS za)] wr) (fun iv _ => 64 - (intOf iv).toNat)
      case atStart => exact ⟨0, by decide, rfl, hs⟩
      case round =>
        clear hs
        obtain ⟨d, hd, rfl, hs⟩ := hrel
        by_cases hlt : d < 64
        · have h1 := HIN.out d hlt
          have hqd : (64 : Int) * (q : Int) + (d : Int) = ((64 * q + d : Nat) : Int) := by push_cast; rfl
          obtain ⟨y, HY⟩ : ∃ y, Hid (wordS (setS za) (3 - 1) ((64 * q + d : Nat) : Int) = y) := ⟨_, rfl⟩
          rw [HY.out] at h1
          replace HY : Hid (wordS (setS za) (3 - 1) (64 * (q : Int) + (d : Int)) = y) := by rw [Hid, hqd]; exact HY.out
          clear hqd
          by_cases hy : y = 0
          · subst hy
            have HB : Hid (hasW x (d : Nat) = false) := by rw [Hid, ← Bool.not_eq_true, h1]; simp
            clear h1
            go_wp2_with (first
              | (go_at_call 12; refine (has_v hx HB _).mono ?_; rintro e w' ⟨rfl, rfl⟩)
              | (go_at_call 11; refine (hword_v hs HY).mono ?_; rintro e w' ⟨rfl, hg⟩; replace hs := hs.grew hg; clear hg))
            go_roundw
            case rel => exact ⟨d + 1, by omega, by go_num, hs⟩
            case measure => simp [intOf] <;> omega
          · have HB : Hid (hasW x (d : Nat) = true) := h1.2 hy
            have hy2 : ((y : Int) != 0) = true := by simp; exact hy
            clear h1
            go_wp2_with (first
              | (go_at_call 12; refine (has_v hx HB _).mono ?_; rintro e w' ⟨rfl, rfl⟩)
              | (go_at_call 11; refine (hword_v hs HY).mono ?_; rintro e w' ⟨rfl, hg⟩; replace hs := hs.grew hg; clear hg))
            go_roundw
            case rel => exact ⟨d + 1, by omega, by go_num, hs⟩
            case measure => simp [intOf] <;> omega
        · go_wp2
          go_roundw
          case rel => exact ⟨3 + 1, by decide, by decide, rfl, hs⟩
          case measure => simp [intOf] <;> omega
    · have W1 : Hid (wordS (setS za) 4 0 = 0) := wordS_out (by decide)
      have W2 : Hid (wordS (setS za) (-1) 0 = 0) := wordS_out (by decide)
      have W3 : Hid (wordS (setS za) 3 1 = 0) := wordS_out (by decide)
      have W4 : Hid (wordS (setS za) 0 262144 = 0) := wordS_out (by decide)
      clear hand hm
      go_wp2_with (first
        | (go_at_call 11; refine (hword_v hs W1).mono ?_; rintro e w' ⟨rfl, hg⟩; replace hs := hs.grew hg; clear hg)
        | (go_at_call 11; refine (hword_v hs W2).mono ?_; rintro e w' ⟨rfl, hg⟩; replace hs := hs.grew hg; clear hg)
        | (go_at_call 11; refine (hword_v hs W3).mono ?_; rintro e w' ⟨rfl, hg⟩; replace hs := hs.grew hg; clear hg)
        | (go_at_call 11; refine (hword_v hs W4).mono ?_; rintro e w' ⟨rfl, hg⟩; replace hs := hs.grew hg; clear hg)
        | (go_at_call 9; refine (awake2 (hT.grew hs.below)).mono ?_; rintro e w' ⟨rfl, hg⟩; replace hs := hs.grew hg; clear hg))
      go_ret
      exact ⟨rfl, hs.drop⟩
end Go.Proofs.YtdcihfofdjckjaaDoor
