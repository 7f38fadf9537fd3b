/-
  Expressions (expr.Arena), 8: Has.
-/
import Derived.Test.YtkcbjkadalebjaaEx7
set_option maxRecDepth 100000
namespace Go.Proofs.Ytkcbjkadalebjaa
open Go Go.RowKit
attribute [local irreducible] wpList Calls Code.wp

/-- Has a node a number? -/
def exTell (l : List NodeE) (Ss : Nat → List Nat) (n i : Int) : Bool := decide (0 ≤ n ∧ n < l.length ∧ 0 ≤ i ∧ i < 16777216) && (tellsE (fun s => memS (Ss s) i) l).getD n.toNat false
theorem exTell_out {l : List NodeE} {Ss : Nat → List Nat} {n i : Int} (h : ¬ (0 ≤ n ∧ n < l.length ∧ 0 ≤ i ∧ i < 16777216)) : exTell l Ss n i = false := by
  unfold exTell
  rw [decide_eq_false h, Bool.false_and]
theorem word_mem {S : List Nat} {i : Nat} (hi : i < 16777216) : (wordS S 0 ((i / 64 : Nat) : Int)).testBit (i % 64) = memS S (i : Int) := by
  have h1 : wordS S 0 ((i / 64 : Nat) : Int) = wordOf S (0, i / 64) := by
    unfold wordS
    rw [if_pos ⟨by decide, by decide, by omega, by
      rw [show (64 : Int) ^ (3 - (0 : Int).toNat) = 262144 by decide]; omega⟩]
    rfl
  rw [h1, Bool.eq_iff_iff, bit_wordOf _ _ _ _ (Nat.mod_lt _ (by decide)), memS_nat]
  constructor
  · rintro ⟨j, hj, h⟩
    have : j = i := by rw [Nat.pow_zero, Nat.div_one] at h; omega
    exact this ▸ hj
  · intro h
    exact ⟨i, h, by rw [Nat.pow_zero, Nat.div_one]; omega⟩
theorem exTell_in {l : List NodeE} {Ss : Nat → List Nat} {n i : Nat} (hn : n < l.length) (hi : i < 16777216) :
    hasW ((maysE false (fun s => wordS (Ss s) 0 ((i / 64 : Nat) : Int)) l).getD n 0) ((i % 64 : Nat) : Int) = exTell l Ss n i := by
  have hd : i % 64 < 64 := Nat.mod_lt _ (by decide)
  have h1 : hasW ((maysE false (fun s => wordS (Ss s) 0 ((i / 64 : Nat) : Int)) l).getD n 0) ((i % 64 : Nat) : Int) = ((maysE false (fun s => wordS (Ss s) 0 ((i / 64 : Nat) : Int)) l).getD n 0).testBit (i % 64) := by
    unfold hasW
    rw [decide_eq_true (by omega), decide_eq_true (by omega), Int.toNat_natCast]
    rfl
  rw [h1, mays_words, wordsE_bit (fun s => wordS_lt _ _ _) hd]
  unfold exTell
  rw [decide_eq_true ⟨by omega, by omega, by omega, by omega⟩, Bool.true_and, Int.toNat_natCast]
  congr 2
  funext s
  exact word_mem hi
theorem exTell_in2 {l : List NodeE} {Ss : Nat → List Nat} {n i : Nat} (hn : n < l.length) (hi : i < 16777216) :
    hasW ((maysE false (fun s => wordS (Ss s) 0 ((i : Int) / 64)) l).getD n 0) ((i : Int) % 64) = exTell l Ss n i := by
  rw [← exTell_in hn hi, show (i : Int) / 64 = ((i / 64 : Nat) : Int) by omega, show (i : Int) % 64 = ((i % 64 : Nat) : Int) by omega]
theorem elemW : ElemOk Try.prog 74 63 1 8 := ElemOk.of Try.underlying74 (z := .int .u64 0) (by kernel_rfl) rfl (by decide)
theorem made_u64 (n : Nat) : (madeCells (Value.int .u64 0).cells ((n + 1) * 1)).toList = u64s (List.replicate (n + 1) 0) := by
  rw [show (Value.int .u64 0).cells = #[Value.int .u64 0] from rfl, Nat.mul_one, toList_madeCells_one]
  unfold u64s
  rw [List.map_replicate]
  rfl
theorem needs_v {w : World} {D m : Nat} {l : List NodeE} {ss : List Value} {N P : Option Addr} {cap cap2 : Nat} (hv : ExV D l ss N cap P cap2 w) (hok : ArOk l m) {n : Nat} (hn : n < l.length) :
    Calls Try.prog 34 #[ptr D, .int .i64 (n : Nat)] w fun e w' => ∃ A cap R r, e = .returned (.slice A r cap) ∧ Hid (R.length = r) ∧ ((r : Int) == 0) = false ∧ Hid (NeedOk l n R) ∧ St w [own A r cap 3 1 (ints (natI R))] w' :=
  (needs_c hv hok hn).mono fun _ _ ⟨A, cap, R, h1, h2, h3⟩ => ⟨A, cap, R, R.length, h1, rfl, by
    have := h2.last
    cases R with
    | nil => cases this
    | cons a t => simp only [List.length_cons]; rw [beq_eq_false_iff_ne]; omega, h2, h3⟩
attribute [local irreducible] exTell maysE hasW
set_option maxHeartbeats 1000000 in
theorem exhas_c {w : World} {D : Nat} {l : List NodeE} {ss : List Value} {N P : Option Addr} {cap cap2 : Nat} (hv : ExV D l ss N cap P cap2 w) (hok : ArOk l ss.length) {Ss : Nat → List Nat} (hsets : ∀ s v, ss[s]? = some v → SetW w v (Ss s)) (n i : Int) {b : Bool} (hb : Hid (exTell l Ss n i = b)) :
    Calls Try.prog 17 #[ptr D, .int .i64 n, .int .i64 i] w fun e w' => e = .returned (.bool b) ∧ Grew w w' := by
  by_cases hn : 0 ≤ n ∧ n < l.length
  · obtain ⟨n, rfl⟩ := Int.eq_ofNat_of_zero_le hn.1
    replace hn : n < l.length := by omega
    have hfew := hok.few
    have HN := Lib.hid hn
    by_cases hi : 0 ≤ i ∧ i < 16777216
    · obtain ⟨i, rfl⟩ := Int.eq_ofNat_of_zero_le hi.1
      replace hi : i < 16777216 := by omega
      have HB := Lib.hid (exTell_in2 (Ss := Ss) hn hi)
      rw [hb.out] at HB
      have HI := Lib.hid hi
      have hi2 : decide ((16777216 : Int) ≤ i) = false := decide_eq_false (by omega)
      have hi4 : (i : Int) ≤ 9223372036854775807 := by omega
      have hi3 : decide ((i : Int) < 0) = false := decide_eq_false (by omega)
      have hn2 : n < 1000 := by omega
      have ha : bits .and .i64 (i : Int) 63 = (i : Int) % 64 := by rw [i64_and63 i (by omega)]; omega
      obtain ⟨x, HX⟩ : ∃ x, Hid ((maysE false (fun s => wordS (Ss s) 0 ((i : Int) / 64)) l).getD n 0 = x) := ⟨_, rfl⟩
      rw [HX.out] at HB
      have hx64 : x < 2 ^ 64 := by rw [← HX.out]; exact mays_lt (fun s => wordS_lt _ _ _) l n
      have HX64 := Lib.hid hx64
      generalize hp : ptr D = p
      clear hb hi hfew hn hx64
      go_enter Try.func17, Try.ntmps17
      go_wp2_with (first
        | (go_at_call 34; subst hp; refine (needs_v hv hok HN.out).mono ?_; rintro e w' ⟨A, capA, R, r, rfl, HRl, hr0, HR, hw⟩)
        | (go_at_call 35; refine (words_c (level := 0) (lv := false) hw (hv) (List.length_replicate) hok HN.out HR.out HRl (RdS.own hw.drop) (Lib.hid rfl) hsets (Lib.hid rfl) HX).mono ?_; clear hw; rintro e w' ⟨rfl, W', _, hw⟩)
        | (go_at_call 36; refine (has_v HX64.out HB _).mono ?_; rintro e w' ⟨rfl, rfl⟩)
        | (at_make; refine wpl_make (n := n + 1) (bytes := 8) (size := 1) (z := .int .u64 0) Try.underlying74 (by kernel_rfl) rfl rfl rfl (by omega) (by unfold maxLen; omega) hw ?_; clear hw; intro g w1 hw; rw [made_u64] at hw))
      go_ret
      exact ⟨rfl, hw.made_grew⟩
    · have hb2 := exTell_out (l := l) (Ss := Ss) (n := (n : Int)) (i := i) (by omega)
      rw [hb.out] at hb2
      subst hb2
      clear hfew hn hb
      generalize hp : ptr D = p
      by_cases h0 : i < 0
      · have hi3 : decide (i < 0) = true := decide_eq_true h0
        clear h0 hi
        go_enter Try.func17, Try.ntmps17
        go_wp2_with (first
          | (go_at_call 34; subst hp; refine (needs_v hv hok HN.out).mono ?_; rintro e w' ⟨A, capA, R, r, rfl, HRl, hr0, HR, hw⟩))
        go_ret
        exact ⟨rfl, hw.made_grew⟩
      · have hi3 : decide (i < 0) = false := decide_eq_false h0
        have hi2 : decide ((16777216 : Int) ≤ i) = true := decide_eq_true (by omega)
        clear h0 hi
        go_enter Try.func17, Try.ntmps17
        go_wp2_with (first
          | (go_at_call 34; subst hp; refine (needs_v hv hok HN.out).mono ?_; rintro e w' ⟨A, capA, R, r, rfl, HRl, hr0, HR, hw⟩))
        go_ret
        exact ⟨rfl, hw.made_grew⟩
  · have hn2 : n < 0 ∨ (l.length : Int) ≤ n := by omega
    have hb2 := exTell_out (l := l) (Ss := Ss) (n := n) (i := i) (by omega)
    rw [hb.out] at hb2
    subst hb2
    generalize hp : ptr D = p
    clear hn
    go_enter Try.func17, Try.ntmps17
    go_wp2_with (first
      | (go_at_call 34; subst hp; refine (needs_none hv hn2).mono ?_; rintro e w' ⟨rfl, rfl⟩))
    go_ret
    exact ⟨rfl, Grew.refl _⟩
end Go.Proofs.Ytkcbjkadalebjaa
