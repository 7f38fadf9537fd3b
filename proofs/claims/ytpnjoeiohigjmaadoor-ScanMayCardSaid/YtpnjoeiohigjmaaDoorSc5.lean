/-
  Going over (scan), 5: Count.
-/
import Derived.Test.YtpnjoeiohigjmaaDoorSc4
set_option maxRecDepth 100000
namespace Go.Proofs.YtpnjoeiohigjmaaDoor
open Go Go.RowKit
attribute [local irreducible] wpList Calls Code.wp mayW scW exTell

/-- How many there are of a part, and the error. -/
def cutN (i : Int) : Nat := (min (max i 0) 16777216).toNat
theorem cutN_le (i : Int) : cutN i ≤ 16777216 := by unfold cutN; omega
theorem cutN_int (i : Int) : min (max i 0) 16777216 = (cutN i : Nat) := by unfold cutN; omega
def cntV (l : List NodeE) (Ss : Nat → List Nat) (n f t : Int) : Nat :=
  if 0 ≤ n ∧ n < l.length ∧ (cutN t : Int) - cutN f ≤ 262144 then (sel (tel l Ss n) (cutN f) (cutN t)).length else 0
def cntE (l : List NodeE) (n f t : Int) : Int :=
  if 0 ≤ n ∧ n < l.length then (if (cutN t : Int) - cutN f ≤ 262144 then 0 else 2) else 1
theorem cut1_c (i : Int) (w : World) : Calls Tryd.prog 40 #[.int .i64 i] w fun e w' => e = .returned (.int .i64 (cutN i : Nat)) ∧ w' = w := by
  have h := cutN_int i
  go_enter Tryd.func40, Tryd.ntmps40
  go_wp2
  go_ret
  exact ⟨rfl, rfl⟩
/-- A word's bits from one on, below another. -/
def lowW (x s : Nat) : Nat := x / 2 ^ s * 2 ^ s
def highW (x s : Nat) : Nat := x &&& (2 ^ s - 1)
theorem lowW_lt {x s : Nat} (hx : x < 2 ^ 64) : lowW x s < 2 ^ 64 := Nat.lt_of_le_of_lt (Nat.div_mul_le_self _ _) hx
theorem highW_lt {x s : Nat} (hx : x < 2 ^ 64) : highW x s < 2 ^ 64 := Nat.lt_of_le_of_lt Nat.and_le_left hx
theorem lowW_bit (x s d : Nat) : (lowW x s).testBit d = (decide (s ≤ d) && x.testBit d) := by
  unfold lowW
  rw [← Nat.shiftRight_eq_div_pow, ← Nat.shiftLeft_eq, Nat.testBit_shiftLeft, Nat.testBit_shiftRight]
  by_cases h : s ≤ d
  · simp [h]
  · simp [h]
theorem highW_bit (x s d : Nat) : (highW x s).testBit d = (decide (d < s) && x.testBit d) := by
  unfold highW
  rw [Nat.testBit_and, Nat.testBit_two_pow_sub_one, Bool.and_comm]
theorem low_u64 {x s : Nat} (hx : x < 2 ^ 64) : IntKind.u64.wrap ((x : Int) / 2 ^ s * 2 ^ s) = (lowW x s : Nat) := by
  have e : (x : Int) / 2 ^ s * 2 ^ s = ((x / 2 ^ s * 2 ^ s : Nat) : Int) := by push_cast; rfl
  rw [e]
  exact wrap_u64_nat (lowW_lt hx)
theorem high_u64 {x s : Nat} (hx : x < 2 ^ 64) (hs : s < 64) : bits .and .u64 (x : Int) (IntKind.u64.wrap (IntKind.u64.wrap (2 ^ s) - 1)) = (highW x s : Nat) := by
  have hp : 2 ^ s < 2 ^ 64 := Nat.pow_lt_pow_right (by decide) hs
  have h1 : 1 ≤ 2 ^ s := Nat.one_le_two_pow
  have e0 : IntKind.u64.wrap (2 ^ s) = ((2 ^ s : Nat) : Int) := by rw [← wrap_u64_nat hp]; simp
  have e : ((2 ^ s : Nat) : Int) - 1 = ((2 ^ s - 1 : Nat) : Int) := by rw [Int.ofNat_sub h1]; simp
  rw [e0, e, wrap_u64_nat (by omega), and_u64 _ _ hx (by omega)]
  rfl
/-- What a masked word counts. -/
theorem cnt_mask {p : Nat → Bool} {x y j lo hi : Nat} (hb : ∀ d, d < 64 → x.testBit d = p (64 * j + d)) (hy : ∀ d, d < 64 → y.testBit d = (decide (lo ≤ d) && decide (d < hi) && x.testBit d)) (h1 : lo ≤ hi) (h2 : hi ≤ 64) :
    cntW y = (sel p (64 * j + lo) (64 * j + hi)).length := by
  rw [cntW_sel, sel_cut (fun d => y.testBit d) (show 0 ≤ lo by omega) (show lo ≤ 64 by omega), sel_cut (fun d => y.testBit d) h1 h2, sel_none (a := 0) (b := lo) (fun d _ hd => ?_), sel_none (a := hi) (b := 64) (fun d hd hd2 => ?_), List.nil_append, List.append_nil,
    ← sel_congr (p := inW y j) (q := p) (fun i hi1 hi2 => ?_), cnt_bits y j lo hi h1]
  · unfold inW
    have := hy (i - 64 * j) (by omega)
    rw [hb _ (by omega), show 64 * j + (i - 64 * j) = i by omega] at this
    rw [this, decide_eq_true (by omega), decide_eq_true (by omega)]
    rfl
  · show y.testBit d = false
    rw [hy d hd2, decide_eq_false (p := d < hi) (by omega)]
    simp
  · show y.testBit d = false
    rw [hy d (by omega), decide_eq_false (p := lo ≤ d) (by omega)]
    simp
/-- One word more. -/
theorem cnt_step {p : Nat → Bool} {x y j a b : Nat} (hb : ∀ d, d < 64 → x.testBit d = p (64 * j + d)) (h2 : 64 * j < b) (h3 : a < 64 * j + 64)
    (hy : ∀ d, d < 64 → y.testBit d = (decide (a - 64 * j ≤ d) && decide (d < min (b - 64 * j) 64) && x.testBit d)) :
    (sel p a (min b (max a (64 * j)))).length + cntW y = (sel p a (min b (max a (64 * (j + 1))))).length := by
  by_cases h1 : a ≤ b
  · have h := cnt_mask (p := p) (lo := a - 64 * j) (hi := min (b - 64 * j) 64) hb hy (by omega) (by omega)
    rw [h, sel_cut p (show a ≤ 64 * j + (a - 64 * j) by omega) (show 64 * j + (a - 64 * j) ≤ min b (max a (64 * (j + 1))) by omega), List.length_append]
    congr 2
    · congr 1; omega
    · congr 1; omega
  · have h := cnt_mask (p := p) (x := x) (y := y) (j := j) (lo := 0) (hi := 0) hb (fun d hd => by
      rw [hy d hd, decide_eq_false (p := d < 0) (by omega)]
      by_cases h4 : a - 64 * j ≤ d
      · rw [decide_eq_false (p := d < min (b - 64 * j) 64) (by omega)]
        simp
      · rw [decide_eq_false h4]
        simp) (Nat.le_refl _) (by omega)
    rw [h, sel_empty (show min b (max a (64 * j)) ≤ a by omega), sel_empty (show min b (max a (64 * (j + 1))) ≤ a by omega), sel_empty (Nat.le_refl _)]
    rfl
attribute [local irreducible] lowW highW cntW sel
set_option maxHeartbeats 1000000 in
theorem sccount_c {w : World} {D : Nat} {l : List NodeE} {ss : List Value} {Ss : Nat → List Nat} (hc : ScV w D l ss Ss) (n f t : Int) {c : Nat} {er : Int} (hcv : Hid (cntV l Ss n f t = c)) (hce : Hid (cntE l n f t = er)) :
    Calls Tryd.prog 12 #[ptr D, .int .i64 n, .int .i64 f, .int .i64 t] w fun e w' => e = .returned (.tuple #[.int .i64 c, .int .i64 er]) ∧ Grew w w' := by
  have HC := Lib.hid hc
  obtain ⟨N, cap, P, cap2, hv⟩ := hc.view
  have HV := Lib.hid hv
  clear hc hv
  by_cases hn : 0 ≤ n ∧ n < l.length
  · obtain ⟨n, rfl⟩ := Int.eq_ofNat_of_zero_le hn.1
    have HN : Hid (n < l.length) := by have := hn.2; exact Int.ofNat_lt.1 this
    by_cases hw : (cutN t : Int) - cutN f ≤ 262144
    · have h1 := hcv.out
      unfold cntV at h1
      rw [if_pos ⟨hn.1, hn.2, hw⟩] at h1
      have h2 := hce.out
      unfold cntE at h2
      rw [if_pos hn, if_pos hw] at h2
      subst h2
      have HCV := Lib.hid h1
      have hal := cutN_le f
      have hbl := cutN_le t
      obtain ⟨a, ha⟩ : ∃ a, cutN f = a := ⟨_, rfl⟩
      obtain ⟨b, hb⟩ : ∃ b, cutN t = b := ⟨_, rfl⟩
      have HA := Lib.hid ha
      have HB0 := Lib.hid hb
      rw [ha] at hal hw HCV
      rw [hb] at hbl hw HCV
      have dw : decide (262144 < (b : Int) - a) = false := decide_eq_false (by omega)
      have HW := Lib.hid hw
      have HT := Lib.hid HC.out.tab
      have ha6 : (a : Int) / 64 = ((a / 64 : Nat) : Int) := by omega
      obtain ⟨j0, hj0⟩ : ∃ j, a / 64 = j := ⟨_, rfl⟩
      rw [hj0] at ha6
      have hja : a < 64 * j0 + 64 := by omega
      have hja2 : 64 * j0 ≤ a := by omega
      clear hn hw h1 hcv hce ha hb hj0
      go_enter Tryd.func12, Tryd.ntmps12
      go_wp2_with (first
        | (go_at_call 39; refine (over_c HV.out HC.out.ok HC.out.sets HN.out).mono ?_; rintro e w' ⟨K, R, rfl, HS, hs⟩)
        | (go_at_call 40; refine (cut1_c f _).mono ?_; rintro e w' ⟨rfl, rfl⟩; rw [HA.out])
        | (go_at_call 40; refine (cut1_c t _).mono ?_; rintro e w' ⟨rfl, rfl⟩; rw [HB0.out]))
      go_loopw [13, 14] (fun sv jv wr => ∃ j s : Nat, jv = .int .i64 (j : Nat) ∧ sv = .int .i64 (s : Nat) ∧ Hid ((sel (tel l Ss (n : Nat)) a (min b (max a (64 * j)))).length = s) ∧ j0 ≤ j ∧ j ≤ 262144 ∧ St w [WkB K D n R] wr) (fun _ jv _ => 262145 - (intOf jv).toNat)
      case atStart => exact ⟨j0, 0, rfl, rfl, by rw [Hid, sel_empty (by omega)]; rfl, Nat.le_refl _, by omega, hs⟩
      case round =>
        clear hs
        obtain ⟨j, s, rfl, rfl, HV2, hjj, hj19, hs⟩ := hrel
        by_cases hjb : 64 * j < b
        · have hj18 : j < 262144 := by omega
          have hsl : s ≤ 16777216 := by have := sel_len_le (tel l Ss (n : Nat)) a (min b (max a (64 * j))); rw [HV2.out] at this; omega
          have haj : a < 64 * j + 64 := by omega
          obtain ⟨x, HX⟩ : ∃ x, Hid (scW l Ss n 0 (j : Nat) = x) := ⟨_, rfl⟩
          have HX64 : Hid (x < 2 ^ 64) := by rw [Hid, ← HX.out]; exact scW_lt _ _ _ _ _
          have HB : Hid (∀ d, d < 64 → x.testBit d = tel l Ss (n : Nat) (64 * j + d)) := fun d hd => by
            rw [← HX.out, scW_in ⟨by decide, by decide, by omega, by simp; omega⟩]
            exact mayW_tell2 HN.out hj18 hd
          have dj : decide ((j : Int) * 64 < (b : Int)) = true := decide_eq_true (by omega)
          have HJB := Lib.hid hjb
          have HAJ := Lib.hid haj
          by_cases hlo : 64 * j < a
          · obtain ⟨lw, hlw⟩ : ∃ lw : Nat, (a : Int) - (j : Int) * 64 = lw := ⟨a - 64 * j, by omega⟩
            have hlw2 : a - 64 * j = lw := by omega
            have hlw3 : 0 < lw := by omega
            have hlw4 : lw < 64 := by omega
            have hlow := low_u64 (s := lw) HX64.out
            by_cases hhi : b < 64 * j + 64
            · obtain ⟨hw, hhw⟩ : ∃ hw : Nat, (b : Int) - (j : Int) * 64 = hw := ⟨b - 64 * j, by omega⟩
              have hhw2 : b - 64 * j = hw := by omega
              have hhw4 : hw < 64 := by omega
              have hhigh := high_u64 (s := hw) (lowW_lt (s := lw) HX64.out) hhw4
              have HY : Hid (∀ d, d < 64 → (highW (lowW x lw) hw).testBit d = (decide (a - 64 * j ≤ d) && decide (d < min (b - 64 * j) 64) && x.testBit d)) := fun d _ => by
                rw [highW_bit, lowW_bit, hlw2, hhw2, show min hw 64 = hw by omega, Bool.and_comm (decide (d < hw)), Bool.and_right_comm]
              clear hlw2 hhw2
              have HS3 : Hid ((sel (tel l Ss (n : Nat)) a (min b (max a (64 * (j + 1))))).length = s + cntW (highW (lowW x lw) hw)) := by rw [Hid, ← cnt_step (y := (highW (lowW x lw) hw)) HB.out HJB.out HAJ.out HY.out, HV2.out]
              have HCL : Hid (cntW (highW (lowW x lw) hw) ≤ 64) := cntW_le _
              have hcl : cntW (highW (lowW x lw) hw) ≤ 64 := HCL.out
              clear hlo hhi hjb haj
              go_wp2_with (first
                | (go_at_call 41; refine (scword_c HS.out hs _ _ HX).mono ?_; clear hs; rintro e w' ⟨rfl, hs⟩)
                | (go_at_call 28; refine (len_c (highW_lt (lowW_lt HX64.out)) _).mono ?_; rintro e w' ⟨rfl, rfl⟩))
              go_roundw
              case rel => exact ⟨j + 1, s + cntW (highW (lowW x lw) hw), by first | rfl | go_num, by first | rfl | go_num, HS3, by omega, by omega, hs⟩
              case measure => simp [intOf] <;> omega
            · have HY : Hid (∀ d, d < 64 → (lowW x lw).testBit d = (decide (a - 64 * j ≤ d) && decide (d < min (b - 64 * j) 64) && x.testBit d)) := fun d hd => by
                rw [lowW_bit, hlw2, decide_eq_true (p := d < min (b - 64 * j) 64) (by omega), Bool.and_true]
              have dh : decide ((b : Int) - (j : Int) * 64 < 64) = false := decide_eq_false (by omega)
              clear hlw2
              have HS3 : Hid ((sel (tel l Ss (n : Nat)) a (min b (max a (64 * (j + 1))))).length = s + cntW (lowW x lw)) := by rw [Hid, ← cnt_step (y := (lowW x lw)) HB.out HJB.out HAJ.out HY.out, HV2.out]
              have HCL : Hid (cntW (lowW x lw) ≤ 64) := cntW_le _
              have hcl : cntW (lowW x lw) ≤ 64 := HCL.out
              clear hlo hhi hjb haj
              go_wp2_with (first
                | (go_at_call 41; refine (scword_c HS.out hs _ _ HX).mono ?_; clear hs; rintro e w' ⟨rfl, hs⟩)
                | (go_at_call 28; refine (len_c (lowW_lt HX64.out) _).mono ?_; rintro e w' ⟨rfl, rfl⟩))
              go_roundw
              case rel => exact ⟨j + 1, s + cntW (lowW x lw), by first | rfl | go_num, by first | rfl | go_num, HS3, by omega, by omega, hs⟩
              case measure => simp [intOf] <;> omega
          · have dl : decide ((j : Int) * 64 < (a : Int)) = false := decide_eq_false (by omega)
            by_cases hhi : b < 64 * j + 64
            · obtain ⟨hw, hhw⟩ : ∃ hw : Nat, (b : Int) - (j : Int) * 64 = hw := ⟨b - 64 * j, by omega⟩
              have hhw2 : b - 64 * j = hw := by omega
              have hhw4 : hw < 64 := by omega
              have hhigh := high_u64 (s := hw) HX64.out hhw4
              have HY : Hid (∀ d, d < 64 → (highW x hw).testBit d = (decide (a - 64 * j ≤ d) && decide (d < min (b - 64 * j) 64) && x.testBit d)) := fun d _ => by
                rw [highW_bit, hhw2, show min hw 64 = hw by omega, decide_eq_true (p := a - 64 * j ≤ d) (by omega), Bool.true_and]
              clear hhw2
              have HS3 : Hid ((sel (tel l Ss (n : Nat)) a (min b (max a (64 * (j + 1))))).length = s + cntW (highW x hw)) := by rw [Hid, ← cnt_step (y := (highW x hw)) HB.out HJB.out HAJ.out HY.out, HV2.out]
              have HCL : Hid (cntW (highW x hw) ≤ 64) := cntW_le _
              have hcl : cntW (highW x hw) ≤ 64 := HCL.out
              clear hlo hhi hjb haj
              go_wp2_with (first
                | (go_at_call 41; refine (scword_c HS.out hs _ _ HX).mono ?_; clear hs; rintro e w' ⟨rfl, hs⟩)
                | (go_at_call 28; refine (len_c (highW_lt HX64.out) _).mono ?_; rintro e w' ⟨rfl, rfl⟩))
              go_roundw
              case rel => exact ⟨j + 1, s + cntW (highW x hw), by first | rfl | go_num, by first | rfl | go_num, HS3, by omega, by omega, hs⟩
              case measure => simp [intOf] <;> omega
            · have HY : Hid (∀ d, d < 64 → x.testBit d = (decide (a - 64 * j ≤ d) && decide (d < min (b - 64 * j) 64) && x.testBit d)) := fun d hd => by
                rw [decide_eq_true (p := d < min (b - 64 * j) 64) (by omega), decide_eq_true (p := a - 64 * j ≤ d) (by omega), Bool.true_and, Bool.true_and]
              have dh : decide ((b : Int) - (j : Int) * 64 < 64) = false := decide_eq_false (by omega)
              have HS3 : Hid ((sel (tel l Ss (n : Nat)) a (min b (max a (64 * (j + 1))))).length = s + cntW x) := by rw [Hid, ← cnt_step (y := x) HB.out HJB.out HAJ.out HY.out, HV2.out]
              have HCL : Hid (cntW x ≤ 64) := cntW_le _
              have hcl : cntW x ≤ 64 := HCL.out
              clear hlo hhi hjb haj
              go_wp2_with (first
                | (go_at_call 41; refine (scword_c HS.out hs _ _ HX).mono ?_; clear hs; rintro e w' ⟨rfl, hs⟩)
                | (go_at_call 28; refine (len_c HX64.out _).mono ?_; rintro e w' ⟨rfl, rfl⟩))
              go_roundw
              case rel => exact ⟨j + 1, s + cntW x, by first | rfl | go_num, by first | rfl | go_num, HS3, by omega, by omega, hs⟩
              case measure => simp [intOf] <;> omega
        · have dj : decide ((j : Int) * 64 < (b : Int)) = false := decide_eq_false (by omega)
          have HE : Hid (s = c) := by
            rw [Hid, ← HV2.out, ← HCV.out]
            by_cases hab : b ≤ a
            · rw [sel_empty hab, sel_empty (by omega)]
            · congr 2; omega
          clear hjb
          go_wp2
          refine bodyPost_ret (results_tmp2 rfl _ _ _) rfl ?_
          exact ⟨by rw [← HE.out]; rfl, hs.made_grew⟩
    · have h1 : c = 0 := by
        rw [← hcv.out]
        exact if_neg fun h => hw h.2.2
      have h2 := hce.out
      unfold cntE at h2
      rw [if_pos hn, if_neg hw] at h2
      subst h1 h2
      have dw : decide (262144 < (cutN t : Int) - (cutN f : Int)) = true := decide_eq_true (by omega)
      have ha := cutN_le f
      have hb := cutN_le t
      clear hn hw hcv hce
      go_enter Tryd.func12, Tryd.ntmps12
      go_wp2_with (first
        | (go_at_call 39; refine (over_c HV.out HC.out.ok HC.out.sets HN.out).mono ?_; rintro e w' ⟨K, R, rfl, HS, hs⟩)
        | (go_at_call 40; refine (cut1_c f _).mono ?_; rintro e w' ⟨rfl, rfl⟩)
        | (go_at_call 40; refine (cut1_c t _).mono ?_; rintro e w' ⟨rfl, rfl⟩))
      refine bodyPost_ret (results_tmp2 rfl _ _ _) rfl ?_
      exact ⟨rfl, hs.made_grew⟩
  · have HN : Hid (n < 0 ∨ (l.length : Int) ≤ n) := by rw [Hid]; omega
    have hc0 : c = 0 := by
      rw [← hcv.out]
      exact if_neg fun h => hn ⟨h.1, h.2.1⟩
    have he0 : er = 1 := by
      rw [← hce.out]
      exact if_neg hn
    subst hc0 he0
    clear hn
    go_enter Tryd.func12, Tryd.ntmps12
    go_wp2_with (first
      | (go_at_call 39; refine (over_none HV.out HN.out).mono ?_; rintro e w' ⟨rfl, rfl⟩))
    refine bodyPost_ret (results_tmp2 rfl _ _ _) rfl ?_
    exact ⟨rfl, Grew.refl _⟩
end Go.Proofs.YtpnjoeiohigjmaaDoor
