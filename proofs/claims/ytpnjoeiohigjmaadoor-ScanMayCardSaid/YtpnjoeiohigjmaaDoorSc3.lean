/-
  Going over (scan), 3: the least number of a part, level by level; next.
-/
import Derived.Test.YtpnjoeiohigjmaaDoorSc2
set_option maxRecDepth 100000
namespace Go.Proofs.YtpnjoeiohigjmaaDoor
open Go Go.RowKit
attribute [local irreducible] wpList Calls Code.wp mayW scW exTell

theorem or_up {a d : Nat} (ha : a < 262144) (hd : d < 64) : bits .or .i64 ((a : Int) * 64) (d : Int) = ((64 * a + d : Nat) : Int) := by
  rw [show (a : Int) * 64 = ((a * 64 : Nat) : Int) by omega, i64_or _ _ (by omega) (by omega), Nat.or_comm, or_add (i := 6) (show d < 2 ^ 6 by omega) (show a * 64 % 2 ^ 6 = 0 by omega)]
  omega
/-- Behind some digits: up to digit k nothing is. -/
structure LsI (p : Nat → Bool) (lo b s x k : Nat) (q : Int) : Prop where
  le : k ≤ 64
  q : q = firstW x k
  none : ∀ i, lo ≤ i → i < b + k * s → p i = false
/-- A digit that is not set: nothing is there. -/
def Dig (p : Nat → Bool) (b s x : Nat) : Prop := ∀ d, d < 64 → x.testBit d = false → ∀ i, b + d * s ≤ i → i < b + d * s + s → p i = false
theorem in_digit {b s i k d : Nat} (hs : 0 < s) (h1 : b + k * s ≤ i) (h2 : i < b + d * s) : ∃ e, k ≤ e ∧ e < d ∧ b + e * s ≤ i ∧ i < b + e * s + s := by
  refine ⟨(i - b) / s, ?_, ?_, ?_, ?_⟩
  · rw [Nat.le_div_iff_mul_le hs]; omega
  · rw [Nat.div_lt_iff_lt_mul hs]; omega
  · have := Nat.div_mul_le_self (i - b) s
    have : b ≤ i := by have := Nat.zero_le (k * s); omega
    omega
  · have h := Nat.lt_div_mul_add (a := i - b) hs
    omega
theorem LsI.upto {p : Nat → Bool} {lo b s x k d : Nat} (h : LsI p lo b s x k (d : Nat)) (hd : Dig p b s x) (hs : 0 < s) : d < 64 ∧ x.testBit d = true ∧ k ≤ d ∧ ∀ i, lo ≤ i → i < b + d * s → p i = false := by
  rcases firstW_cases x k with ⟨h1, _⟩ | ⟨e, h1, h2, h3, h4, h5⟩
  · have := h.q; omega
  · have : e = d := by have := h.q; omega
    subst this
    refine ⟨h3, h4, by omega, fun i hi1 hi2 => ?_⟩
    by_cases hk : i < b + k * s
    · exact h.none i hi1 hk
    · obtain ⟨e', he1, he2, he3, he4⟩ := in_digit (k := k) hs (by omega) hi2
      exact hd e' (by omega) (h5 e' (by omega) he2) i he3 he4
theorem LsI.out {p : Nat → Bool} {lo b s x k : Nat} {q : Int} (h : LsI p lo b s x k q) (hd : Dig p b s x) (hs : 0 < s) (hq : q < 0) : ∀ i, lo ≤ i → i < b + 64 * s → p i = false := by
  rcases firstW_cases x k with ⟨h1, h2⟩ | ⟨e, h1, h2, h3, h4, h5⟩
  · intro i hi1 hi2
    by_cases hk : i < b + k * s
    · exact h.none i hi1 hk
    · obtain ⟨e', he1, he2, he3, he4⟩ := in_digit (k := k) (d := 64) hs (by omega) hi2
      exact hd e' he2 (h2 e' (by omega) he2) i he3 he4
  · have := h.q; omega
theorem dig_may {l : List NodeE} {m : Nat} (hok : ArOk l m) {Ss : Nat → List Nat} {n L a x : Nat} (hn : n < l.length) (hL : L < 4) (ha : a < 64 ^ (3 - L)) (hx : mayW l Ss n L (a : Nat) = x) : Dig (tel l Ss n) (a * 64 ^ (L + 1)) (64 ^ L) x := fun d hd hb i h1 h2 => by
  refine mayW_none hok hn hL ha hd (by rw [hx]; exact hb) ?_
  have hp : 0 < 64 ^ L := Nat.pow_pos (by decide)
  have e : a * 64 ^ (L + 1) + d * 64 ^ L = (64 * a + d) * 64 ^ L := by rw [Nat.pow_succ, Nat.add_mul]; congr 1; rw [Nat.mul_comm 64 a, Nat.mul_assoc, Nat.mul_comm (64 ^ L) 64]
  rw [e] at h1 h2
  exact Nat.le_antisymm (by rw [← Nat.lt_succ_iff, Nat.div_lt_iff_lt_mul hp, Nat.succ_mul]; exact h2) (by rw [Nat.le_div_iff_mul_le hp]; exact h1)
theorem Nx.neg {p : Nat → Bool} {lo hi : Nat} {r : Int} (h : Nx p lo hi r) (hr : r < 0) : ∀ i, lo ≤ i → i < hi → p i = false := by
  rcases h with ⟨_, h⟩ | ⟨k, h, _⟩
  · exact h
  · omega
theorem LsI.found {p : Nat → Bool} {lo b s x k d f : Nat} {r : Int} (h : LsI p lo b s x k (d : Nat)) (hd : Dig p b s x) (hs : 0 < s) (hlo : lo = max f b) (hn : Nx p (max f (b + d * s)) (b + d * s + s) r) (hr : 0 ≤ r) : Nx p lo (b + 64 * s) r := by
  obtain ⟨h1, _, _, h4⟩ := h.upto hd hs
  subst hlo
  have hb : d * s + s ≤ 64 * s := by rw [← Nat.succ_mul]; exact Nat.mul_le_mul_right _ h1
  rcases hn with ⟨e, _⟩ | ⟨m, e, m1, m2, m3, m4⟩
  · omega
  · refine .inr ⟨m, e, by omega, by omega, m3, fun i hi1 hi2 => ?_⟩
    by_cases hi : i < b + d * s
    · exact h4 i hi1 hi
    · exact m4 i (by omega) hi2
theorem LsI.step {p : Nat → Bool} {lo b s x k d f : Nat} {r : Int} (h : LsI p lo b s x k (d : Nat)) (hd : Dig p b s x) (hs : 0 < s) (hlo : lo = max f b) (hn : Nx p (max f (b + d * s)) (b + d * s + s) r) (hr : r < 0) : LsI p lo b s x (d + 1) (firstW x ((d : Int) + 1)) := by
  obtain ⟨h1, _, _, h4⟩ := h.upto hd hs
  subst hlo
  refine ⟨by omega, by congr 1, fun i hi1 hi2 => ?_⟩
  rw [Nat.succ_mul] at hi2
  by_cases hi : i < b + d * s
  · exact h4 i hi1 hi
  · exact hn.neg hr i (by omega) (by omega)
theorem LsI.end_ {p : Nat → Bool} {lo b s x k : Nat} {q : Int} (h : LsI p lo b s x k q) (hd : Dig p b s x) (hs : 0 < s) (hq : q < 0) : Nx p lo (b + 64 * s) (-1) := .inl ⟨rfl, h.out hd hs hq⟩
theorem ls_a {f a k d s B : Nat} (hB : B = 64 * s) (h : f < a * B + (k + 1) * s) (hk : k ≤ d) : f < (64 * a + d + 1) * s ∧ f < a * B + (d + 1 + 1) * s ∧ (64 * a + d) * s = a * B + d * s := by
  subst hB
  have h1 : (k + 1) * s ≤ (d + 1) * s := Nat.mul_le_mul_right _ (by omega)
  have h2 : (d + 1 + 1) * s = (d + 1) * s + s := Nat.succ_mul _ _
  have h3 : (d + 1) * s = d * s + s := Nat.succ_mul _ _
  have h4 : (64 * a + d) * s = a * (64 * s) + d * s := by rw [Nat.add_mul, Nat.mul_comm 64 a, Nat.mul_assoc]
  have h5 : (64 * a + d + 1) * s = (64 * a + d) * s + s := Nat.succ_mul _ _
  refine ⟨?_, ?_, h4⟩ <;> omega
/-- What the least number of a word's part answers. -/
def LstP (w0 : World) (K D n : Nat) (R : List Nat) (L : List As) (p : Nat → Bool) (lo hi : Nat) (e : Ending) (w' : World) : Prop := ∃ r : Int, e = .returned (.int .i64 r) ∧ Hid (Nx p lo hi r) ∧ St w0 (WkB K D n R :: L) w'
set_option maxHeartbeats 1000000 in
theorem least0_c {w0 w : World} {L : List As} {K D n : Nat} {l : List NodeE} {ss : List Value} {R : List Nat} {Ss : Nat → List Nat} (hc : ScC w0 D n l ss R Ss) (hT0 : Tab w0) (hs : St w0 (WkB K D n R :: L) w) {a f : Nat} (ha : a < 262144) (hf : f < (a + 1) * 64) :
    Calls Tryd.prog 60 #[ptr K, .int .i64 0, .int .i64 (a : Nat), .int .i64 (f : Nat)] w (LstP w0 K D n R L (tel l Ss n) (max f (a * 64)) (a * 64 + 64)) := by
  have HC := Lib.hid hc
  obtain ⟨x, HX⟩ : ∃ x, Hid (mayW l Ss n 0 (a : Nat) = x) := ⟨_, rfl⟩
  have HSX : Hid (scW l Ss n 0 (a : Nat) = x) := by rw [Hid, scW_in ⟨by decide, by decide, by omega, by simp; omega⟩]; exact HX.out
  have hx64 : x < 2 ^ 64 := by rw [← HX.out]; exact mayW_lt _ _ _ _ _
  have HD : Hid (Dig (tel l Ss n) (a * 64) 1 x) := dig_may hc.ok hc.lt (L := 0) (by decide) (by simp; omega) HX.out
  have hT := hT0.st hs
  have HT := Lib.hid hT0
  have HX64 := Lib.hid hx64
  have HB : Hid (∀ d, d < 64 → x.testBit d = tel l Ss n (a * 64 + d * 1)) := fun d hd => by
    rw [← HX.out, show ((0 : Int)) = ((0 : Nat) : Int) from rfl]
    have := mayW_tell2 (Ss := Ss) hc.lt ha hd
    unfold tel
    rw [show a * 64 + d * 1 = 64 * a + d by omega]
    exact this
  clear hc hT0 hx64 HX
  go_enter Tryd.func60, Tryd.ntmps60
  go_wp2_with (first
    | (go_at_call 41; refine (scword_c HC.out hs _ _ HSX).mono ?_; clear hs hT; rintro e w' ⟨rfl, hs⟩; have hT := HT.out.st hs)
    | (go_at_call 43; refine (first_c HX64.out _ _ hT).mono ?_; rintro e w' ⟨rfl, rfl⟩))
  go_loopw [12] (fun dv wr => ∃ (k : Nat) (q : Int), dv = .int .i64 q ∧ f < a * 64 + (k + 1) * 1 ∧ Hid (LsI (tel l Ss n) (max f (a * 64)) (a * 64) 1 x k q) ∧ St w0 (WkB K D n R :: L) wr) (fun dv _ => downM (intOf dv))
  case atStart => exact ⟨(f - a * 64) / 1, _, rfl, by omega, ⟨by omega, by congr 1; omega, fun i h1 h2 => by omega⟩, hs⟩
  case round =>
    clear hs hT
    obtain ⟨k, q, rfl, hfk, HI, hs⟩ := hrel
    by_cases h : 0 ≤ q
    · obtain ⟨d, rfl⟩ := Int.eq_ofNat_of_zero_le h
      obtain ⟨h1, h2, h3, h4⟩ := HI.out.upto HD.out (by decide)
      have ht := HB.out d h1
      rw [h2] at ht
      have HF : Hid (Nx (tel l Ss n) (max f (a * 64)) (a * 64 + 64) (a * 64 + d : Int)) := .inr ⟨a * 64 + d * 1, by omega, by omega, by omega, ht.symm, h4⟩
      clear HI h h2 h3 h4 ht hfk
      go_wp2
      go_ret
      exact ⟨_, rfl, HF, hs⟩
    · have HE := Lib.hid (HI.out.end_ HD.out (by decide) (by omega))
      clear HI
      go_wp2
      go_ret
      exact ⟨_, rfl, HE, hs⟩
set_option maxHeartbeats 1000000 in
theorem least1_c {w0 w : World} {L : List As} {K D n : Nat} {l : List NodeE} {ss : List Value} {R : List Nat} {Ss : Nat → List Nat} (hc : ScC w0 D n l ss R Ss) (hT0 : Tab w0) (hs : St w0 (WkB K D n R :: L) w) {a f : Nat} (ha : a < 4096) (hf : f < (a + 1) * 4096) :
    Calls Tryd.prog 60 #[ptr K, .int .i64 1, .int .i64 (a : Nat), .int .i64 (f : Nat)] w (LstP w0 K D n R L (tel l Ss n) (max f (a * 4096)) (a * 4096 + 4096)) := by
  have HC := Lib.hid hc
  obtain ⟨x, HX⟩ : ∃ x, Hid (mayW l Ss n 1 (a : Nat) = x) := ⟨_, rfl⟩
  have HSX : Hid (scW l Ss n 1 (a : Nat) = x) := by rw [Hid, scW_in ⟨by decide, by decide, by omega, by simp; omega⟩]; exact HX.out
  have hx64 : x < 2 ^ 64 := by rw [← HX.out]; exact mayW_lt _ _ _ _ _
  have HD : Hid (Dig (tel l Ss n) (a * 4096) 64 x) := dig_may hc.ok hc.lt (L := 1) (by decide) (by simp; omega) HX.out
  have hT := hT0.st hs
  have HT := Lib.hid hT0
  have HX64 := Lib.hid hx64
  clear hc hT0 hx64 HX
  go_enter Tryd.func60, Tryd.ntmps60
  go_wp2_with (first
    | (go_at_call 41; refine (scword_c HC.out hs _ _ HSX).mono ?_; clear hs hT; rintro e w' ⟨rfl, hs⟩; have hT := HT.out.st hs)
    | (go_at_call 43; refine (first_c HX64.out _ _ hT).mono ?_; rintro e w' ⟨rfl, rfl⟩))
  go_loopw [12] (fun dv wr => ∃ (k : Nat) (q : Int), dv = .int .i64 q ∧ f < a * 4096 + (k + 1) * 64 ∧ Hid (LsI (tel l Ss n) (max f (a * 4096)) (a * 4096) 64 x k q) ∧ St w0 (WkB K D n R :: L) wr) (fun dv _ => downM (intOf dv))
  case atStart => exact ⟨(f - a * 4096) / 64, _, rfl, by omega, ⟨by omega, by congr 1; omega, fun i h1 h2 => by omega⟩, hs⟩
  case round =>
    clear hs hT
    obtain ⟨k, q, rfl, hfk, HI, hs⟩ := hrel
    by_cases h : 0 ≤ q
    · obtain ⟨d, rfl⟩ := Int.eq_ofNat_of_zero_le h
      obtain ⟨h1, _, h3, _⟩ := HI.out.upto HD.out (by decide)
      obtain ⟨hc2, hfk2, hcS⟩ := ls_a (a := a) (s := 64) (B := 4096) (by decide) hfk h3
      have hc1 : 64 * a + d < 64 * 4096 := by omega
      have ho := or_up (a := a) (d := d) (by omega) h1
      generalize 64 * a + d = c at *
      have HcS := Lib.hid hcS
      have HFk := Lib.hid hfk2
      clear hcS hfk hfk2
      go_upto_region 10 with (first
        | (go_at_call 60; refine (least0_c HC.out HT.out hs (a := c) hc1 hc2).mono ?_; clear hs; rintro e w' ⟨r, rfl, HN, hs⟩))
      rw [HcS.out] at HN
      by_cases hr : 0 ≤ r
      · have HF := Lib.hid (HI.out.found HD.out (by decide) rfl HN.out hr)
        clear HI HN h ho hc1 hc2 h1 h3
        go_wp2
        go_ret
        exact ⟨_, rfl, HF, hs⟩
      · have HF := Lib.hid (HI.out.step HD.out (by decide) rfl HN.out (by omega))
        have hT := HT.out.st hs
        have HM := Lib.hid (downM_first x d h1)
        clear HI HN ho hc1 hc2 h3
        go_wp2_with (first
          | (go_at_call 43; refine (first_c HX64.out _ _ hT).mono ?_; rintro e w' ⟨rfl, rfl⟩))
        go_roundw
        case rel => exact ⟨d + 1, _, rfl, HFk.out, HF, hs⟩
        case measure => exact HM.out
    · have HE := Lib.hid (HI.out.end_ HD.out (by decide) (by omega))
      clear HI
      go_wp2
      go_ret
      exact ⟨_, rfl, HE, hs⟩
set_option maxHeartbeats 1000000 in
theorem least2_c {w0 w : World} {L : List As} {K D n : Nat} {l : List NodeE} {ss : List Value} {R : List Nat} {Ss : Nat → List Nat} (hc : ScC w0 D n l ss R Ss) (hT0 : Tab w0) (hs : St w0 (WkB K D n R :: L) w) {a f : Nat} (ha : a < 64) (hf : f < (a + 1) * 262144) :
    Calls Tryd.prog 60 #[ptr K, .int .i64 2, .int .i64 (a : Nat), .int .i64 (f : Nat)] w (LstP w0 K D n R L (tel l Ss n) (max f (a * 262144)) (a * 262144 + 262144)) := by
  have HC := Lib.hid hc
  obtain ⟨x, HX⟩ : ∃ x, Hid (mayW l Ss n 2 (a : Nat) = x) := ⟨_, rfl⟩
  have HSX : Hid (scW l Ss n 2 (a : Nat) = x) := by rw [Hid, scW_in ⟨by decide, by decide, by omega, by simp; omega⟩]; exact HX.out
  have hx64 : x < 2 ^ 64 := by rw [← HX.out]; exact mayW_lt _ _ _ _ _
  have HD : Hid (Dig (tel l Ss n) (a * 262144) 4096 x) := dig_may hc.ok hc.lt (L := 2) (by decide) (by simp; omega) HX.out
  have hT := hT0.st hs
  have HT := Lib.hid hT0
  have HX64 := Lib.hid hx64
  clear hc hT0 hx64 HX
  go_enter Tryd.func60, Tryd.ntmps60
  go_wp2_with (first
    | (go_at_call 41; refine (scword_c HC.out hs _ _ HSX).mono ?_; clear hs hT; rintro e w' ⟨rfl, hs⟩; have hT := HT.out.st hs)
    | (go_at_call 43; refine (first_c HX64.out _ _ hT).mono ?_; rintro e w' ⟨rfl, rfl⟩))
  go_loopw [12] (fun dv wr => ∃ (k : Nat) (q : Int), dv = .int .i64 q ∧ f < a * 262144 + (k + 1) * 4096 ∧ Hid (LsI (tel l Ss n) (max f (a * 262144)) (a * 262144) 4096 x k q) ∧ St w0 (WkB K D n R :: L) wr) (fun dv _ => downM (intOf dv))
  case atStart => exact ⟨(f - a * 262144) / 4096, _, rfl, by omega, ⟨by omega, by congr 1; omega, fun i h1 h2 => by omega⟩, hs⟩
  case round =>
    clear hs hT
    obtain ⟨k, q, rfl, hfk, HI, hs⟩ := hrel
    by_cases h : 0 ≤ q
    · obtain ⟨d, rfl⟩ := Int.eq_ofNat_of_zero_le h
      obtain ⟨h1, _, h3, _⟩ := HI.out.upto HD.out (by decide)
      obtain ⟨hc2, hfk2, hcS⟩ := ls_a (a := a) (s := 4096) (B := 262144) (by decide) hfk h3
      have hc1 : 64 * a + d < 64 * 64 := by omega
      have ho := or_up (a := a) (d := d) (by omega) h1
      generalize 64 * a + d = c at *
      have HcS := Lib.hid hcS
      have HFk := Lib.hid hfk2
      clear hcS hfk hfk2
      go_upto_region 10 with (first
        | (go_at_call 60; refine (least1_c HC.out HT.out hs (a := c) hc1 hc2).mono ?_; clear hs; rintro e w' ⟨r, rfl, HN, hs⟩))
      rw [HcS.out] at HN
      by_cases hr : 0 ≤ r
      · have HF := Lib.hid (HI.out.found HD.out (by decide) rfl HN.out hr)
        clear HI HN h ho hc1 hc2 h1 h3
        go_wp2
        go_ret
        exact ⟨_, rfl, HF, hs⟩
      · have HF := Lib.hid (HI.out.step HD.out (by decide) rfl HN.out (by omega))
        have hT := HT.out.st hs
        have HM := Lib.hid (downM_first x d h1)
        clear HI HN ho hc1 hc2 h3
        go_wp2_with (first
          | (go_at_call 43; refine (first_c HX64.out _ _ hT).mono ?_; rintro e w' ⟨rfl, rfl⟩))
        go_roundw
        case rel => exact ⟨d + 1, _, rfl, HFk.out, HF, hs⟩
        case measure => exact HM.out
    · have HE := Lib.hid (HI.out.end_ HD.out (by decide) (by omega))
      clear HI
      go_wp2
      go_ret
      exact ⟨_, rfl, HE, hs⟩
set_option maxHeartbeats 1000000 in
theorem least3_c {w0 w : World} {L : List As} {K D n : Nat} {l : List NodeE} {ss : List Value} {R : List Nat} {Ss : Nat → List Nat} (hc : ScC w0 D n l ss R Ss) (hT0 : Tab w0) (hs : St w0 (WkB K D n R :: L) w) {a f : Nat} (ha : a < 1) (hf : f < (a + 1) * 16777216) :
    Calls Tryd.prog 60 #[ptr K, .int .i64 3, .int .i64 (a : Nat), .int .i64 (f : Nat)] w (LstP w0 K D n R L (tel l Ss n) (max f (a * 16777216)) (a * 16777216 + 16777216)) := by
  have HC := Lib.hid hc
  obtain ⟨x, HX⟩ : ∃ x, Hid (mayW l Ss n 3 (a : Nat) = x) := ⟨_, rfl⟩
  have HSX : Hid (scW l Ss n 3 (a : Nat) = x) := by rw [Hid, scW_in ⟨by decide, by decide, by omega, by simp; omega⟩]; exact HX.out
  have hx64 : x < 2 ^ 64 := by rw [← HX.out]; exact mayW_lt _ _ _ _ _
  have HD : Hid (Dig (tel l Ss n) (a * 16777216) 262144 x) := dig_may hc.ok hc.lt (L := 3) (by decide) (by simp; omega) HX.out
  have hT := hT0.st hs
  have HT := Lib.hid hT0
  have HX64 := Lib.hid hx64
  clear hc hT0 hx64 HX
  go_enter Tryd.func60, Tryd.ntmps60
  go_wp2_with (first
    | (go_at_call 41; refine (scword_c HC.out hs _ _ HSX).mono ?_; clear hs hT; rintro e w' ⟨rfl, hs⟩; have hT := HT.out.st hs)
    | (go_at_call 43; refine (first_c HX64.out _ _ hT).mono ?_; rintro e w' ⟨rfl, rfl⟩))
  go_loopw [12] (fun dv wr => ∃ (k : Nat) (q : Int), dv = .int .i64 q ∧ f < a * 16777216 + (k + 1) * 262144 ∧ Hid (LsI (tel l Ss n) (max f (a * 16777216)) (a * 16777216) 262144 x k q) ∧ St w0 (WkB K D n R :: L) wr) (fun dv _ => downM (intOf dv))
  case atStart => exact ⟨(f - a * 16777216) / 262144, _, rfl, by omega, ⟨by omega, by congr 1; omega, fun i h1 h2 => by omega⟩, hs⟩
  case round =>
    clear hs hT
    obtain ⟨k, q, rfl, hfk, HI, hs⟩ := hrel
    by_cases h : 0 ≤ q
    · obtain ⟨d, rfl⟩ := Int.eq_ofNat_of_zero_le h
      obtain ⟨h1, _, h3, _⟩ := HI.out.upto HD.out (by decide)
      obtain ⟨hc2, hfk2, hcS⟩ := ls_a (a := a) (s := 262144) (B := 16777216) (by decide) hfk h3
      have hc1 : 64 * a + d < 64 * 1 := by omega
      have ho := or_up (a := a) (d := d) (by omega) h1
      generalize 64 * a + d = c at *
      have HcS := Lib.hid hcS
      have HFk := Lib.hid hfk2
      clear hcS hfk hfk2
      go_upto_region 10 with (first
        | (go_at_call 60; refine (least2_c HC.out HT.out hs (a := c) hc1 hc2).mono ?_; clear hs; rintro e w' ⟨r, rfl, HN, hs⟩))
      rw [HcS.out] at HN
      by_cases hr : 0 ≤ r
      · have HF := Lib.hid (HI.out.found HD.out (by decide) rfl HN.out hr)
        clear HI HN h ho hc1 hc2 h1 h3
        go_wp2
        go_ret
        exact ⟨_, rfl, HF, hs⟩
      · have HF := Lib.hid (HI.out.step HD.out (by decide) rfl HN.out (by omega))
        have hT := HT.out.st hs
        have HM := Lib.hid (downM_first x d h1)
        clear HI HN ho hc1 hc2 h3
        go_wp2_with (first
          | (go_at_call 43; refine (first_c HX64.out _ _ hT).mono ?_; rintro e w' ⟨rfl, rfl⟩))
        go_roundw
        case rel => exact ⟨d + 1, _, rfl, HFk.out, HF, hs⟩
        case measure => exact HM.out
    · have HE := Lib.hid (HI.out.end_ HD.out (by decide) (by omega))
      clear HI
      go_wp2
      go_ret
      exact ⟨_, rfl, HE, hs⟩
/-- The least from one on. -/
theorem scnext_c {w0 w : World} {L : List As} {K D n : Nat} {l : List NodeE} {ss : List Value} {R : List Nat} {Ss : Nat → List Nat} (hc : Hid (ScC w0 D n l ss R Ss)) (hT0 : Hid (Tab w0)) (hs : St w0 (WkB K D n R :: L) w) (f : Int) {r : Int} (hr : Hid (nxt (tel l Ss n) f.toNat 16777216 = r)) :
    Calls Tryd.prog 42 #[ptr K, .int .i64 f] w fun e w' => e = .returned (.int .i64 r) ∧ St w0 (WkB K D n R :: L) w' := by
  by_cases h : 16777216 ≤ f
  · have HR : Hid (r = -1) := by
      rw [Hid, ← hr.out]
      rcases nxt_nx (tel l Ss n) f.toNat 16777216 with ⟨h1, _⟩ | ⟨k, _, h2, h3, _⟩
      · exact h1
      · omega
    go_enter Tryd.func42, Tryd.ntmps42
    go_wp2
    go_ret
    exact ⟨by rw [HR.out]; rfl, hs⟩
  · obtain ⟨g, hg⟩ : ∃ g : Nat, g = f.toNat := ⟨_, rfl⟩
    rw [← hg] at hr
    have hm : max f 0 = (g : Int) := by omega
    have hg2 : g < (0 + 1) * 16777216 := by omega
    clear hg
    go_enter Tryd.func42, Tryd.ntmps42
    go_wp2_with (first
      | (go_at_call 60; refine (least3_c hc.out hT0.out hs (a := 0) (by decide) hg2).mono ?_; clear hs; rintro e w' ⟨r', rfl, HN, hs⟩))
    go_ret
    have he := HN.out.eq
    rw [show max g (0 * 16777216) = g by omega, show 0 * 16777216 + 16777216 = 16777216 by omega, hr.out] at he
    subst he
    exact ⟨rfl, hs⟩
end Go.Proofs.YtpnjoeiohigjmaaDoor
