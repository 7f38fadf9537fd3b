/-
  BitsParts: the walk.
-/
import Derived.Test.YtgdljjpdoocnnaaDoorLaw1b
set_option maxRecDepth 100000
namespace Go.Proofs.YtgdljjpdoocnnaaDoor
open Go Go.RowKit
attribute [local irreducible] wpList Calls Code.wp

theorem and63 (c : Int) : ∃ m : Nat, m < 64 ∧ bits .and .i64 c 63 = (m : Int) := by
  refine ⟨(BitVec.ofInt 64 c).toNat % 64, Nat.mod_lt _ (by decide), ?_⟩
  show IntKind.i64.wrap (((BitVec.ofInt 64 c) &&& BitVec.ofInt 64 63).toNat : Int) = _
  rw [BitVec.toNat_and, show (BitVec.ofInt 64 63).toNat = 2 ^ 6 - 1 by decide, Nat.and_two_pow_sub_one_eq_mod, IntKind.wrap_i64]
  omega
/-- The lower part of a word, and the rest. -/
def loW (x m : Nat) : Nat := x &&& (2 ^ m - 1)
def hiW (x m : Nat) : Nat := subW x (2 ^ m - 1)
theorem low_lt {m : Nat} (hm : m < 64) : 2 ^ m - 1 < 2 ^ 64 := by
  have := Nat.pow_le_pow_right (n := 2) (by decide) (Nat.le_of_lt hm)
  omega
theorem testBit_loW (x m k : Nat) : (loW x m).testBit k = (x.testBit k && decide (k < m)) := by rw [loW, Nat.testBit_and, Nat.testBit_two_pow_sub_one]
theorem testBit_hiW {x m : Nat} (hx : x < 2 ^ 64) (hm : m < 64) (k : Nat) : (hiW x m).testBit k = (x.testBit k && !decide (k < m)) := by rw [hiW, testBit_subW hx (low_lt hm), Nat.testBit_two_pow_sub_one]
theorem loW_lt {x m : Nat} (hx : x < 2 ^ 64) : loW x m < 2 ^ 64 := Nat.lt_of_le_of_lt Nat.and_le_left hx
theorem hiW_lt {x m : Nat} (hx : x < 2 ^ 64) : hiW x m < 2 ^ 64 := subW_lt _ _ hx
theorem listW_lo (x m : Nat) : listW (loW x m) = (listW x).filter fun k => decide (k < m) := by
  unfold listW
  rw [List.filter_filter]
  exact List.filter_congr fun k _ => by rw [testBit_loW, Bool.and_comm]
theorem listW_hi {x m : Nat} (hx : x < 2 ^ 64) (hm : m < 64) : listW (hiW x m) = (listW x).filter fun k => !decide (k < m) := by
  unfold listW
  rw [List.filter_filter]
  exact List.filter_congr fun k _ => by rw [testBit_hiW hx hm, Bool.and_comm]
theorem filter_len {α : Type} (p : α → Bool) : ∀ l : List α, l.length = (l.filter p).length + (l.filter fun a => !p a).length
  | [] => rfl
  | a :: l => by
    have := filter_len p l
    cases h : p a <;> simp [h] <;> omega
theorem cntW_parts {x m : Nat} (hx : x < 2 ^ 64) (hm : m < 64) : cntW x = cntW (loW x m) + cntW (hiW x m) := by
  unfold cntW
  rw [listW_lo, listW_hi hx hm]
  exact filter_len _ _
theorem lastW_lo (x : Nat) {m : Nat} (_ : m < 64) : lastW (loW x m) < m := by
  rw [lastW_list]
  cases h : (listW (loW x m)).getLast? with
  | none => simp; omega
  | some i =>
    have hi := List.mem_of_getLast? h
    rw [listW_lo, List.mem_filter] at hi
    have := hi.2
    simp at this ⊢
    omega
theorem firstW_hi {x m : Nat} (hx : x < 2 ^ 64) (hm : m < 64) (h0 : hiW x m ≠ 0) : ∃ v : Int, firstW (hiW x m) 0 = v ∧ (m : Int) ≤ v ∧ v < 64 := by
  rcases firstW_cases (hiW x m) 0 with ⟨_, h⟩ | ⟨i, h, _, h2, h3, _⟩
  · exact absurd (word_ext (hiW_lt hx) (by decide) fun k hk => by rw [h k (by omega) hk]; simp) h0
  · refine ⟨i, h, ?_, by omega⟩
    rw [testBit_hiW hx hm] at h3
    simp at h3
    omega
theorem firstW_parts {x m : Nat} (hx : x < 2 ^ 64) (hm : m < 64) (f : Int) : (0 ≤ firstW (loW x m) f ∧ firstW x f = firstW (loW x m) f) ∨ (firstW (loW x m) f = -1 ∧ firstW x f = firstW (hiW x m) f) := by
  rcases firstW_cases (loW x m) f with ⟨h, h'⟩ | ⟨i, h, h1, h2, h3, h4⟩
  · refine .inr ⟨h, ?_⟩
    have hb : ∀ j : Nat, f ≤ j → j < 64 → x.testBit j = (hiW x m).testBit j := fun j hj hj2 => by
      have h5 := h' j hj hj2
      rw [testBit_loW] at h5
      rw [testBit_hiW hx hm]
      cases hx : x.testBit j <;> simp [hx] at h5 ⊢
      omega
    rcases firstW_cases (hiW x m) f with ⟨k, k'⟩ | ⟨i, k, k1, k2, k3, k4⟩
    · rw [k]; exact firstW_none fun j hj hj2 => by rw [hb j hj hj2]; exact k' j hj hj2
    · rw [k]; exact firstW_some k1 k2 (by rw [hb i k1 k2]; exact k3) fun j hj hj2 => by rw [hb j hj (by omega)]; exact k4 j hj hj2
  · refine .inl ⟨by omega, ?_⟩
    rw [testBit_loW] at h3
    simp at h3
    rw [h]
    exact firstW_some h1 h2 h3.1 fun j hj hj2 => by
      have := h4 j hj hj2
      rw [testBit_loW] at this
      have hjm : j < m := by omega
      simpa [hjm] using this
theorem shl_low {m : Nat} (hm : m < 64) : IntKind.u64.wrap (IntKind.u64.wrap (2 ^ m) - 1) = ((2 ^ m - 1 : Nat) : Int) := by
  have h1 := low_lt hm
  have h2 : 0 < 2 ^ m := Nat.two_pow_pos m
  have h4 : 2 ^ m < 2 ^ 64 := Nat.pow_lt_pow_right (by decide) hm
  have h3 : ((2 ^ m : Nat) : Int) = (2 : Int) ^ m := by push_cast; rfl
  rw [← h3]
  generalize 2 ^ m = y at *
  rw [wrap_u64_nat (n := y) (by omega), show (y : Int) - 1 = ((y - 1 : Nat) : Int) by omega, wrap_u64_nat h1]
theorem len_v {x : Nat} (hx : x < 2 ^ 64) {v : Int} (h : Hid ((cntW x : Int) = v)) (w : World) : Calls Tryd.prog 20 #[.int .u64 x] w fun e w' => e = .returned (.int .i64 v) ∧ w = w' := by
  rw [← h.out]; exact len_c hx w
theorem listlen_v {w0 w : World} {L : List As} {x : Nat} (hx : x < 2 ^ 64) {n : Nat} (h : Hid (cntW x = n)) (hs : St w0 L w) (hT : Tab w0) :
    Calls Tryd.prog 14 #[.int .u64 x] w fun e w' => ∃ A cap, e = .returned (.slice A n cap) ∧ St w0 L w' :=
  (list_c hx hs hT).mono fun e w' ⟨A, cap, h1, h2⟩ => ⟨A, cap, by rw [h1, h.out], h2.drop⟩
theorem parts_c {w0 : World} (hT : Tab w0) (z : Int) (hz : 0 ≤ z) (hz2 : z ≤ 18446744073709551615) (cut from_ : Int) : Calls Tryd.prog 5 #[.int .u64 z, .int .i64 cut, .int .i64 from_] w0 (LawPost w0) := by
  obtain ⟨x, rfl⟩ := Int.eq_ofNat_of_zero_le hz
  have hx : x < 2 ^ 64 := by omega
  have hs := St.start w0
  clear hz hz2
  obtain ⟨m, hm, hcut⟩ := and63 cut
  have hA : bits .and .u64 (x : Int) (IntKind.u64.wrap (IntKind.u64.wrap (2 ^ m) - 1)) = (loW x m : Nat) := by rw [shl_low hm, and_u64 _ _ hx (low_lt hm)]; rfl
  have hB : bits .andNot .u64 (x : Int) (IntKind.u64.wrap (IntKind.u64.wrap (2 ^ m) - 1)) = (hiW x m : Nat) := by rw [shl_low hm, andNot_u64 _ _ hx (low_lt hm)]; rfl
  have HF := Lib.hid (firstW_parts hx hm from_)
  have HC := Lib.hid (cntW_parts hx hm)
  have HL := Lib.hid (lastW_lo x hm)
  have HH := Lib.hid (firstW_hi hx hm)
  have hlo := loW_lt (m := m) hx
  have hhi := hiW_lt (m := m) hx
  generalize loW x m = lo at *
  generalize hiW x m = hi at *
  obtain ⟨cl, HCL⟩ : ∃ n, Hid (cntW lo = n) := ⟨_, rfl⟩
  obtain ⟨ch, HCH⟩ : ∃ n, Hid (cntW hi = n) := ⟨_, rfl⟩
  have HCX : Hid (cntW x = cl + ch) := by rw [Hid, HC.out, HCL.out, HCH.out]
  have bl : cl ≤ 64 := by rw [← HCL.out]; exact cntW_le lo
  have bh : ch ≤ 64 := by rw [← HCH.out]; exact cntW_le hi
  have hw : IntKind.i64.wrap ((cl : Int) + (ch : Int)) = (cl : Int) + ch := by rw [IntKind.wrap_i64]; omega
  have HCL' : Hid ((cntW lo : Int) = (cl : Int)) := by rw [Hid, HCL.out]
  have HCH' : Hid ((cntW hi : Int) = (ch : Int)) := by rw [Hid, HCH.out]
  have HCX' : Hid ((cntW x : Int) = (cl : Int) + (ch : Int)) := by rw [Hid, HCX.out]; push_cast; rfl
  obtain ⟨lv, HLV⟩ : ∃ v, Hid (lastW lo = v) := ⟨_, rfl⟩
  have hlv : lv < (m : Int) := by rw [← HLV.out]; exact HL.out
  clear HC HL
  have H0 : hi = 0 ∨ ((hi : Int) == 0) = false ∧ ∃ v : Int, Hid (firstW hi 0 = v) ∧ (m : Int) ≤ v := by
    by_cases h0 : hi = 0
    · exact .inl h0
    · obtain ⟨v, h1, h2, _⟩ := HH.out h0
      exact .inr ⟨by simp; omega, v, h1, h2⟩
  clear HH
  rcases HF.out with ⟨f1, f2⟩ | ⟨f1, f2⟩
  · obtain ⟨v, HV⟩ : ∃ v, Hid (firstW lo from_ = v) := ⟨_, rfl⟩
    have HX : Hid (firstW x from_ = v) := by rw [Hid, f2, HV.out]
    have hv : ¬ (v < 0) := by rw [← HV.out]; omega
    have HV2 := HV
    clear f1 f2 HF
    rcases H0 with h0 | ⟨h0, v2, HH0, hv2⟩
    · subst h0
      have HH0 := HV
      go_enter Tryd.func5, Tryd.ntmps5
      go_wp2_with (fail)
      have hne := StW.ne hs
      refine wp_region_quiet_st hs (by kernel_rfl) (by kernel_rfl) ?_
      repeat (go_big_quiet_step (fail))
      refine wpQuiet_nil ?_
      clear hs hne
      rintro w' ⟨⟨w, hs⟩, rfl⟩
      go_wp2_with (first
        | (go_at_call 15; refine (first_v hlo HV _ (hT.st hs)).mono ?_; rintro e w' ⟨rfl, rfl⟩)
        | (go_at_call 15; refine (first_v hhi HV2 _ (hT.st hs)).mono ?_; rintro e w' ⟨rfl, rfl⟩)
        | (go_at_call 15; refine (first_v hx HX _ (hT.st hs)).mono ?_; rintro e w' ⟨rfl, rfl⟩)
        | (go_at_call 15; refine (first_v hhi HH0 _ (hT.st hs)).mono ?_; rintro e w' ⟨rfl, rfl⟩)
        | (go_at_call 20; refine (len_v hx HCX' _).mono ?_; rintro e w' ⟨rfl, rfl⟩)
        | (go_at_call 20; refine (len_v hlo HCL' _).mono ?_; rintro e w' ⟨rfl, rfl⟩)
        | (go_at_call 20; refine (len_v hhi HCH' _).mono ?_; rintro e w' ⟨rfl, rfl⟩)
        | (go_at_call 16; refine (last_v hlo HLV _).mono ?_; rintro e w' ⟨rfl, rfl⟩)
        | (go_at_call 14; refine (listlen_v hx HCX hs hT).mono ?_; clear hs; rintro e w ⟨A, cap, rfl, hs⟩)
        | (go_at_call 14; refine (listlen_v hlo HCL hs hT).mono ?_; clear hs; rintro e w ⟨A, cap, rfl, hs⟩)
        | (go_at_call 14; refine (listlen_v hhi HCH hs hT).mono ?_; clear hs; rintro e w ⟨A, cap, rfl, hs⟩)
        | (go_at_call 17; refine (awake1_c hs hT).mono ?_; rintro e w' ⟨rfl, hs2⟩))
      go_ret
      exact ⟨rfl, hs2⟩
    · have hv3 : ¬ v2 < (m : Int) := by omega
      go_enter Tryd.func5, Tryd.ntmps5
      go_wp2_with (fail)
      have hne := StW.ne hs
      refine wp_region_quiet_st hs (by kernel_rfl) (by kernel_rfl) ?_
      repeat (go_big_quiet_step (fail))
      refine wpQuiet_nil ?_
      clear hs hne
      rintro w' ⟨⟨w, hs⟩, rfl⟩
      go_wp2_with (first
        | (go_at_call 15; refine (first_v hlo HV _ (hT.st hs)).mono ?_; rintro e w' ⟨rfl, rfl⟩)
        | (go_at_call 15; refine (first_v hhi HV2 _ (hT.st hs)).mono ?_; rintro e w' ⟨rfl, rfl⟩)
        | (go_at_call 15; refine (first_v hx HX _ (hT.st hs)).mono ?_; rintro e w' ⟨rfl, rfl⟩)
        | (go_at_call 15; refine (first_v hhi HH0 _ (hT.st hs)).mono ?_; rintro e w' ⟨rfl, rfl⟩)
        | (go_at_call 20; refine (len_v hx HCX' _).mono ?_; rintro e w' ⟨rfl, rfl⟩)
        | (go_at_call 20; refine (len_v hlo HCL' _).mono ?_; rintro e w' ⟨rfl, rfl⟩)
        | (go_at_call 20; refine (len_v hhi HCH' _).mono ?_; rintro e w' ⟨rfl, rfl⟩)
        | (go_at_call 16; refine (last_v hlo HLV _).mono ?_; rintro e w' ⟨rfl, rfl⟩)
        | (go_at_call 14; refine (listlen_v hx HCX hs hT).mono ?_; clear hs; rintro e w ⟨A, cap, rfl, hs⟩)
        | (go_at_call 14; refine (listlen_v hlo HCL hs hT).mono ?_; clear hs; rintro e w ⟨A, cap, rfl, hs⟩)
        | (go_at_call 14; refine (listlen_v hhi HCH hs hT).mono ?_; clear hs; rintro e w ⟨A, cap, rfl, hs⟩)
        | (go_at_call 17; refine (awake1_c hs hT).mono ?_; rintro e w' ⟨rfl, hs2⟩))
      go_ret
      exact ⟨rfl, hs2⟩
  · obtain ⟨v, HV2⟩ : ∃ v, Hid (firstW hi from_ = v) := ⟨_, rfl⟩
    have HX : Hid (firstW x from_ = v) := by rw [Hid, f2, HV2.out]
    have HV : Hid (firstW lo from_ = -1) := f1
    clear f1 f2 HF
    rcases H0 with h0 | ⟨h0, v2, HH0, hv2⟩
    · subst h0
      have HH0 := HV2
      go_enter Tryd.func5, Tryd.ntmps5
      go_wp2_with (fail)
      have hne := StW.ne hs
      refine wp_region_quiet_st hs (by kernel_rfl) (by kernel_rfl) ?_
      repeat (go_big_quiet_step (fail))
      refine wpQuiet_nil ?_
      clear hs hne
      rintro w' ⟨⟨w, hs⟩, rfl⟩
      go_wp2_with (first
        | (go_at_call 15; refine (first_v hlo HV _ (hT.st hs)).mono ?_; rintro e w' ⟨rfl, rfl⟩)
        | (go_at_call 15; refine (first_v hhi HV2 _ (hT.st hs)).mono ?_; rintro e w' ⟨rfl, rfl⟩)
        | (go_at_call 15; refine (first_v hx HX _ (hT.st hs)).mono ?_; rintro e w' ⟨rfl, rfl⟩)
        | (go_at_call 15; refine (first_v hhi HH0 _ (hT.st hs)).mono ?_; rintro e w' ⟨rfl, rfl⟩)
        | (go_at_call 20; refine (len_v hx HCX' _).mono ?_; rintro e w' ⟨rfl, rfl⟩)
        | (go_at_call 20; refine (len_v hlo HCL' _).mono ?_; rintro e w' ⟨rfl, rfl⟩)
        | (go_at_call 20; refine (len_v hhi HCH' _).mono ?_; rintro e w' ⟨rfl, rfl⟩)
        | (go_at_call 16; refine (last_v hlo HLV _).mono ?_; rintro e w' ⟨rfl, rfl⟩)
        | (go_at_call 14; refine (listlen_v hx HCX hs hT).mono ?_; clear hs; rintro e w ⟨A, cap, rfl, hs⟩)
        | (go_at_call 14; refine (listlen_v hlo HCL hs hT).mono ?_; clear hs; rintro e w ⟨A, cap, rfl, hs⟩)
        | (go_at_call 14; refine (listlen_v hhi HCH hs hT).mono ?_; clear hs; rintro e w ⟨A, cap, rfl, hs⟩)
        | (go_at_call 17; refine (awake1_c hs hT).mono ?_; rintro e w' ⟨rfl, hs2⟩))
      go_ret
      exact ⟨rfl, hs2⟩
    · have hv3 : ¬ v2 < (m : Int) := by omega
      go_enter Tryd.func5, Tryd.ntmps5
      go_wp2_with (fail)
      have hne := StW.ne hs
      refine wp_region_quiet_st hs (by kernel_rfl) (by kernel_rfl) ?_
      repeat (go_big_quiet_step (fail))
      refine wpQuiet_nil ?_
      clear hs hne
      rintro w' ⟨⟨w, hs⟩, rfl⟩
      go_wp2_with (first
        | (go_at_call 15; refine (first_v hlo HV _ (hT.st hs)).mono ?_; rintro e w' ⟨rfl, rfl⟩)
        | (go_at_call 15; refine (first_v hhi HV2 _ (hT.st hs)).mono ?_; rintro e w' ⟨rfl, rfl⟩)
        | (go_at_call 15; refine (first_v hx HX _ (hT.st hs)).mono ?_; rintro e w' ⟨rfl, rfl⟩)
        | (go_at_call 15; refine (first_v hhi HH0 _ (hT.st hs)).mono ?_; rintro e w' ⟨rfl, rfl⟩)
        | (go_at_call 20; refine (len_v hx HCX' _).mono ?_; rintro e w' ⟨rfl, rfl⟩)
        | (go_at_call 20; refine (len_v hlo HCL' _).mono ?_; rintro e w' ⟨rfl, rfl⟩)
        | (go_at_call 20; refine (len_v hhi HCH' _).mono ?_; rintro e w' ⟨rfl, rfl⟩)
        | (go_at_call 16; refine (last_v hlo HLV _).mono ?_; rintro e w' ⟨rfl, rfl⟩)
        | (go_at_call 14; refine (listlen_v hx HCX hs hT).mono ?_; clear hs; rintro e w ⟨A, cap, rfl, hs⟩)
        | (go_at_call 14; refine (listlen_v hlo HCL hs hT).mono ?_; clear hs; rintro e w ⟨A, cap, rfl, hs⟩)
        | (go_at_call 14; refine (listlen_v hhi HCH hs hT).mono ?_; clear hs; rintro e w ⟨A, cap, rfl, hs⟩)
        | (go_at_call 17; refine (awake1_c hs hT).mono ?_; rintro e w' ⟨rfl, hs2⟩))
      go_ret
      exact ⟨rfl, hs2⟩
end Go.Proofs.YtgdljjpdoocnnaaDoor
