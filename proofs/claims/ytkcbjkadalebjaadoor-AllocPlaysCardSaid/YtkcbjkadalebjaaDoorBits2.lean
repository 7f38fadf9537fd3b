/-
  The walks of package bits: First, Last, Len, List, Split, Join.
-/
import Derived.Test.YtkcbjkadalebjaaDoorBits
set_option maxRecDepth 100000
namespace Go.Proofs.YtkcbjkadalebjaaDoor
open Go Go.RowKit
attribute [local irreducible] wpList Calls Code.wp

theorem firstW_far {x : Nat} {f : Int} (h : 64 ≤ f) : firstW x f = -1 := firstW_none fun j h1 h2 => by omega
/-- At a number of 0 to 63. -/
theorem first_at {x d : Nat} (hx : x < 2 ^ 64) (hd : d < 64) (w : World) (hT : Tab w) : Calls Tryd.prog 59 #[.int .u64 x, .int .i64 (d : Int)] w fun e w' => e = .returned (.int .i64 (firstW x d)) ∧ w = w' := by
  have hs := firstW_shift (f := d) hx
  have hq : (x : Int) / 2 ^ d = ((x / 2 ^ d : Nat) : Int) := by simp
  have hle : x / 2 ^ d < 2 ^ 64 := Nat.lt_of_le_of_lt (Nat.div_le_self _ _) hx
  generalize x / 2 ^ d = y at *
  have HS := Lib.hid hs
  clear hs
  by_cases h0 : y = 0
  · have hz : ((y : Int) == 0) = true := by simpa using h0
    have HH := Lib.hid h0
    clear h0
    go_enter Tryd.func59, Tryd.ntmps59
    go_wp2
    go_ret
    exact ⟨by rw [HS.out, if_pos HH.out]; rfl, rfl⟩
  · have hz : ((y : Int) == 0) = false := by simpa using h0
    have hc : Lib.ctz 64 y < 64 := (ctz_spec h0 hle).1
    have HH := Lib.hid h0
    clear h0
    go_enter Tryd.func59, Tryd.ntmps59
    go_wp2_with (first | (go_at_call 60; refine (tz_c _ hle _ hT).mono ?_; rintro e w' ⟨rfl, rfl⟩))
    go_ret
    exact ⟨by rw [HS.out, if_neg HH.out]; rfl, rfl⟩
theorem first_c {x : Nat} (hx : x < 2 ^ 64) (f : Int) (w : World) (hT : Tab w) : Calls Tryd.prog 59 #[.int .u64 x, .int .i64 f] w fun e w' => e = .returned (.int .i64 (firstW x f)) ∧ w = w' := by
  by_cases h1 : 64 ≤ f
  · have H := Lib.hid (firstW_far (x := x) h1)
    go_enter Tryd.func59, Tryd.ntmps59
    go_wp2
    go_ret
    exact ⟨by rw [H.out]; rfl, rfl⟩
  · by_cases h2 : 0 ≤ f
    · obtain ⟨d, rfl⟩ := Int.eq_ofNat_of_zero_le h2
      exact first_at hx (by omega) w hT
    · have h3 : f < 0 := by omega
      have e : firstW x f = firstW x ((0 : Nat) : Int) := by rw [firstW_max]; congr 1; omega
      have hs := firstW_shift (f := 0) hx
      rw [← e] at hs
      simp only [Nat.pow_zero, Nat.div_one, Nat.zero_add] at hs
      have HS := Lib.hid hs
      clear hs e h1 h2
      have hmx : max f 0 = 0 := by omega
      by_cases h0 : x = 0
      · have hz : ((x : Int) == 0) = true := by simpa using h0
        have HH := Lib.hid h0
        clear h0
        go_enter Tryd.func59, Tryd.ntmps59
        go_wp2
        go_ret
        exact ⟨by rw [HS.out, if_pos HH.out]; rfl, rfl⟩
      · have hz : ((x : Int) == 0) = false := by simpa using h0
        have hc : Lib.ctz 64 x < 64 := (ctz_spec h0 hx).1
        have HH := Lib.hid h0
        clear h0
        go_enter Tryd.func59, Tryd.ntmps59
        go_wp2_with (first | (go_at_call 60; refine (tz_c _ hx _ hT).mono ?_; rintro e w' ⟨rfl, rfl⟩))
        go_ret
        exact ⟨by rw [HS.out, if_neg HH.out]; rfl, rfl⟩
theorem intv_snoc (l : List Nat) (i : Nat) : (l.map fun i : Nat => Value.int .i64 (i : Int)) ++ [Value.int .i64 (i : Int)] = (l ++ [i]).map fun i : Nat => Value.int .i64 (i : Int) := by simp
theorem downM_first (x i : Nat) (hi : i < 64) : downM (firstW x ((i : Int) + 1)) < downM (i : Int) := by
  have h1 := firstW_lt x ((i : Int) + 1)
  unfold downM
  by_cases h : firstW x ((i : Int) + 1) < 0
  · rw [if_pos h, if_neg (by omega)]; omega
  · rw [if_neg h, if_neg (by omega)]
    have := firstW_ge (x := x) (k := (i : Int) + 1) (by omega)
    omega
theorem results_tmp5 {fn : Func} {t u v x y : Tmp} (h : fn.results = #[.tmp t, .tmp u, .tmp v, .tmp x, .tmp y]) (tmps : Array Value) (P : Program) (w : World) :
    (results fn tmps).run P w = .ok (.tuple #[tmps.getD t undef, tmps.getD u undef, tmps.getD v undef, tmps.getD x undef, tmps.getD y undef]) w := by simp [results, h]
def digOk (a : Int) : Prop := 0 ≤ a ∧ a < 64
theorem join_arith {a b c d : Int} (ha : digOk a) (hb : digOk b) (hc : digOk c) (hd : digOk d) :
    bits .or .i64 (bits .or .i64 (bits .or .i64 a (b * 64)) (c * 4096)) (d * 262144) = a + 64 * (b + 64 * (c + 64 * d)) := by
  obtain ⟨a1, a2⟩ := ha
  obtain ⟨b1, b2⟩ := hb
  obtain ⟨c1, c2⟩ := hc
  obtain ⟨d1, d2⟩ := hd
  obtain ⟨a, rfl⟩ := Int.eq_ofNat_of_zero_le a1
  obtain ⟨b, rfl⟩ := Int.eq_ofNat_of_zero_le b1
  obtain ⟨c, rfl⟩ := Int.eq_ofNat_of_zero_le c1
  obtain ⟨d, rfl⟩ := Int.eq_ofNat_of_zero_le d1
  rw [show (b : Int) * 64 = ((b * 64 : Nat) : Int) by omega, show (c : Int) * 4096 = ((c * 4096 : Nat) : Int) by omega, show (d : Int) * 262144 = ((d * 262144 : Nat) : Int) by omega,
    i64_or a _ (by omega) (by omega), or_add (i := 6) (show a < 2 ^ 6 by omega) (show b * 64 % 2 ^ 6 = 0 by omega),
    i64_or _ _ (by omega) (by omega), or_add (i := 12) (show a + b * 64 < 2 ^ 12 by omega) (show c * 4096 % 2 ^ 12 = 0 by omega),
    i64_or _ _ (by omega) (by omega), or_add (i := 18) (show a + b * 64 + c * 4096 < 2 ^ 18 by omega) (show d * 262144 % 2 ^ 18 = 0 by omega)]
  omega
def digs (a b c d : Int) : Nat → Int
  | 0 => a
  | 1 => b
  | 2 => c
  | _ => d
def JoinPost (a b c d : Int) (w : World) (e : Ending) (w' : World) : Prop :=
  (digOk a ∧ digOk b ∧ digOk c ∧ digOk d → e = .returned (.tuple #[.int .i64 (a + 64 * (b + 64 * (c + 64 * d))), .bool true])) ∧
    (¬ (digOk a ∧ digOk b ∧ digOk c ∧ digOk d) → e = .returned (.tuple #[.int .i64 0, .bool false])) ∧ w = w'
end Go.Proofs.YtkcbjkadalebjaaDoor
