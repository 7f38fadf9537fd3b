/-
  The contracts of the words that need no table: bits.one, all, With, Without, Has.
-/
import Derived.Test.YtkcbjkadalebjaaOps
import Derived.Test.YtkcbjkadalebjaaWd
import Derived.Test.YtkcbjkadalebjaaProg
import Derived.Outline
import Derived.Lib.Hide
import Derived.Lib.Walk
import Derived.Lib.BitFns
set_option maxRecDepth 100000
namespace Go.Proofs.Ytkcbjkadalebjaa
open Go Go.RowKit

theorem ret_int {k : IntKind} {a b : Int} (h : a = b) : Ending.returned (.int k a) = .returned (.int k b) := by rw [h]
theorem ret_bool {a b : Bool} (h : a = b) : Ending.returned (.bool a) = .returned (.bool b) := by rw [h]
theorem wrap_u64_nat {n : Nat} (h : n < 2 ^ 64) : IntKind.u64.wrap (n : Int) = n := by rw [IntKind.wrap_u64]; omega
theorem oneW_in {i : Int} (h : 0 ≤ i) (h2 : i < 64) : IntKind.u64.wrap (2 ^ i.toNat) = (oneW i : Nat) := by
  have e : oneW i = 2 ^ i.toNat := by unfold oneW; rw [if_pos ⟨h, h2⟩]
  have h3 := oneW_lt i
  rw [← wrap_u64_nat h3, e]
  simp
theorem oneW_out {i : Int} (h : ¬ (0 ≤ i ∧ i < 64)) : (0 : Int) = (oneW i : Nat) := by unfold oneW; rw [if_neg h]; rfl
theorem one_c (i : Int) (w : World) : Calls Try.prog 52 #[.int .i64 i] w fun e w' => e = .returned (.int .u64 (oneW i : Nat)) ∧ w = w' := by
  by_cases h : 0 ≤ i ∧ i < 64
  · obtain ⟨h1, h2⟩ := h
    go_enter Try.func52, Try.ntmps52
    go_wp2
    go_ret
    exact ⟨ret_int (oneW_in h1 h2), rfl⟩
  · have H := oneW_out h
    have HH := Lib.hid H
    clear H
    go_enter Try.func52, Try.ntmps52
    go_wp2
    all_goals
      go_ret
      exact ⟨ret_int HH.out, rfl⟩
theorem or_u64 (x y : Nat) (hx : x < 2 ^ 64) (hy : y < 2 ^ 64) : bits .or .u64 (x : Int) (y : Int) = ((x ||| y : Nat) : Int) := u64_or_nat x y hx hy
theorem and_u64 (x y : Nat) (hx : x < 2 ^ 64) (hy : y < 2 ^ 64) : bits .and .u64 (x : Int) (y : Int) = ((x &&& y : Nat) : Int) := u64_and_nat x y hx hy
theorem andNot_u64 (x y : Nat) (hx : x < 2 ^ 64) (hy : y < 2 ^ 64) : bits .andNot .u64 (x : Int) (y : Int) = ((subW x y : Nat) : Int) := u64_andNot_nat x y hx hy
theorem all_step {zs : List Int} {k : Nat} (hk : k < zs.length) : bits .or .u64 ((allW (zs.take k) : Nat) : Int) ((oneW zs[k] : Nat) : Int) = ((allW (zs.take (k + 1)) : Nat) : Int) := by
  rw [or_u64 _ _ (allW_lt _) (oneW_lt _), ← allW_snoc, List.take_succ_eq_append_getElem hk]
theorem all_c {w0 w : World} {L : List As} {A : Option Addr} {zs : List Int} {c : Nat} (hs : St w0 L w) (hr : RdS w0 L A (zs.map (Value.int .i64))) (hl : zs.length ≤ maxLen) :
    Calls Try.prog 53 #[.slice A zs.length c] w fun e w' => e = .returned (.int .u64 (allW zs : Nat)) ∧ w = w' := by
  unfold maxLen at hl
  go_enter Try.func53, Try.ntmps53
  go_wp2
  go_loop [3, 8] (fun x i => ∃ k : Nat, k ≤ zs.length ∧ i = .int .i64 k ∧ x = .int .u64 (allW (zs.take k) : Nat)) (fun _ i => zs.length - (intOf i).toNat)
  case atStart => exact ⟨0, Nat.zero_le _, rfl, rfl⟩
  case round =>
    obtain ⟨k, hk, rfl, rfl⟩ := hrel
    by_cases hlt : k < zs.length
    · obtain ⟨b, o, rfl, hc⟩ := hr.at_ (k := k) (by simpa using hlt)
      have hc := hc w hs
      simp at hc
      go_wp2_with (first | (go_at_call 52; refine (one_c _ _).mono ?_; rintro e w' ⟨rfl, rfl⟩))
      go_round
      case rel => exact ⟨k + 1, by omega, by go_num, by rw [all_step hlt]⟩
      case measure => simp [intOf]; omega
    · have he : zs.take k = zs := List.take_of_length_le (by omega)
      have HE := Lib.hid he
      clear he
      go_wp2
      go_ret
      exact ⟨by rw [HE.out]; rfl, rfl⟩
theorem with_c {w0 w : World} {L : List As} {A : Option Addr} {zs : List Int} {c : Nat} {x : Nat} (hx : x < 2 ^ 64) (hs : St w0 L w) (hr : RdS w0 L A (zs.map (Value.int .i64))) (hl : zs.length ≤ maxLen) :
    Calls Try.prog 42 #[.int .u64 x, .slice A zs.length c] w fun e w' => e = .returned (.int .u64 (x ||| allW zs : Nat)) ∧ w = w' := by
  go_enter Try.func42, Try.ntmps42
  go_wp2_with (first | (go_at_call 53; refine (all_c hs hr hl).mono ?_; rintro e w' ⟨rfl, rfl⟩))
  go_ret
  exact ⟨ret_int (or_u64 _ _ hx (allW_lt _)), rfl⟩
theorem without_c {w0 w : World} {L : List As} {A : Option Addr} {zs : List Int} {c : Nat} {x : Nat} (hx : x < 2 ^ 64) (hs : St w0 L w) (hr : RdS w0 L A (zs.map (Value.int .i64))) (hl : zs.length ≤ maxLen) :
    Calls Try.prog 43 #[.int .u64 x, .slice A zs.length c] w fun e w' => e = .returned (.int .u64 (subW x (allW zs) : Nat)) ∧ w = w' := by
  go_enter Try.func43, Try.ntmps43
  go_wp2_with (first | (go_at_call 53; refine (all_c hs hr hl).mono ?_; rintro e w' ⟨rfl, rfl⟩))
  go_ret
  exact ⟨ret_int (andNot_u64 _ _ hx (allW_lt _)), rfl⟩
theorem has_c {x : Nat} (hx : x < 2 ^ 64) (i : Int) (w : World) : Calls Try.prog 36 #[.int .u64 x, .int .i64 i] w fun e w' => e = .returned (.bool (hasW x i)) ∧ w = w' := by
  go_enter Try.func36, Try.ntmps36
  go_wp2_with (first | (go_at_call 52; refine (one_c _ _).mono ?_; rintro e w' ⟨rfl, rfl⟩))
  go_ret
  refine ⟨ret_bool ?_, rfl⟩
  rw [and_u64 _ _ hx (oneW_lt i), ← hasW_and]
  rw [Bool.eq_iff_iff]; simp
theorem elem24 : ElemOk Try.prog 22 3 1 8 := ElemOk.of Try.underlying22 (z := .int .i64 0) (by kernel_rfl) rfl (by decide)
theorem ints_one (x : Int) : ∀ u ∈ [Value.int .i64 x], u.oneCell' = true := by simp; rfl
theorem i64_and (a b : Nat) (ha : a < 9223372036854775808) (hb : b < 9223372036854775808) : bits .and .i64 (a : Int) (b : Int) = ((a &&& b : Nat) : Int) := by
  have hx : a &&& b < 2 ^ 63 := Nat.and_lt_two_pow _ (by omega)
  show IntKind.i64.wrap ((BitVec.ofInt 64 (a : Int) &&& BitVec.ofInt 64 (b : Int)).toNat : Int) = _
  rw [BitVec.toNat_and, ofInt_u64 a (by omega), ofInt_u64 b (by omega), IntKind.wrap_i64]
  omega
theorem i64_and63 (a : Nat) (ha : a < 9223372036854775808) : bits .and .i64 (a : Int) 63 = ((a % 64 : Nat) : Int) := by
  rw [show (63 : Int) = ((63 : Nat) : Int) from rfl, i64_and a 63 ha (by omega), nat_mask6]
theorem i64_or (a b : Nat) (ha : a < 9223372036854775808) (hb : b < 9223372036854775808) : bits .or .i64 (a : Int) (b : Int) = ((a ||| b : Nat) : Int) := by
  have hx : a ||| b < 2 ^ 63 := Nat.or_lt_two_pow (by omega) (by omega)
  show IntKind.i64.wrap ((BitVec.ofInt 64 (a : Int) ||| BitVec.ofInt 64 (b : Int)).toNat : Int) = _
  rw [BitVec.toNat_or, ofInt_u64 a (by omega), ofInt_u64 b (by omega), IntKind.wrap_i64]
  omega
theorem or_add {x y i : Nat} (hx : x < 2 ^ i) (hy : y % 2 ^ i = 0) : x ||| y = x + y := by rw [Nat.or_comm, nat_join i y x hy hx, Nat.add_comm]
theorem with_v {w0 w : World} {L : List As} {A : Option Addr} {zs : List Int} {c n : Nat} {x v : Nat} (hx : x < 2 ^ 64) (h : Hid (x ||| allW zs = v)) (hn : Hid (zs.length = n)) (hs : St w0 L w) (hr : RdS w0 L A (zs.map (Value.int .i64))) (hl : n ≤ maxLen) :
    Calls Try.prog 42 #[.int .u64 x, .slice A n c] w fun e w' => e = .returned (.int .u64 (v : Nat)) ∧ w = w' := by
  rw [← h.out]
  have hn := hn.out
  subst hn
  exact with_c hx hs hr hl
theorem without_v {w0 w : World} {L : List As} {A : Option Addr} {zs : List Int} {c n : Nat} {x v : Nat} (hx : x < 2 ^ 64) (h : Hid (subW x (allW zs) = v)) (hn : Hid (zs.length = n)) (hs : St w0 L w) (hr : RdS w0 L A (zs.map (Value.int .i64))) (hl : n ≤ maxLen) :
    Calls Try.prog 43 #[.int .u64 x, .slice A n c] w fun e w' => e = .returned (.int .u64 (v : Nat)) ∧ w = w' := by
  rw [← h.out]
  have hn := hn.out
  subst hn
  exact without_c hx hs hr hl
theorem has_v {x : Nat} (hx : x < 2 ^ 64) {i : Int} {b : Bool} (h : Hid (hasW x i = b)) (w : World) : Calls Try.prog 36 #[.int .u64 x, .int .i64 i] w fun e w' => e = .returned (.bool b) ∧ w = w' := by
  rw [← h.out]; exact has_c hx i w
/-- One number more, one less: the row is the call's own. -/
theorem with_1 {w0 w : World} {L : List As} {g : Nat} {d : Int} {x v : Nat} (hx : x < 2 ^ 64) (h : Hid (x ||| allW [d] = v)) (hs : St w0 (blk g #[.int .i64 d] 3 :: L) w) :
    Calls Try.prog 42 #[.int .u64 x, .slice (some ⟨g, 0, none⟩) 1 1] w fun e w' => e = .returned (.int .u64 (v : Nat)) ∧ w = w' :=
  with_v (zs := [d]) hx h rfl hs RdS.blk (by decide)
theorem without_1 {w0 w : World} {L : List As} {g : Nat} {d : Int} {x v : Nat} (hx : x < 2 ^ 64) (h : Hid (subW x (allW [d]) = v)) (hs : St w0 (blk g #[.int .i64 d] 3 :: L) w) :
    Calls Try.prog 43 #[.int .u64 x, .slice (some ⟨g, 0, none⟩) 1 1] w fun e w' => e = .returned (.int .u64 (v : Nat)) ∧ w = w' :=
  without_v (zs := [d]) hx h rfl hs RdS.blk (by decide)
end Go.Proofs.Ytkcbjkadalebjaa
