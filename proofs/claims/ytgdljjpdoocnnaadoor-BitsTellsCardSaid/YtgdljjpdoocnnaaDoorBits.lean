/-
  The walks of package bits and of what it calls.
-/
import Derived.Test.YtgdljjpdoocnnaaDoorOps
import Derived.Test.YtgdljjpdoocnnaaDoorWd
import Derived.Test.YtgdljjpdoocnnaaDoorProg
import Derived.Outline
import Derived.Lib.Hide
import Derived.Lib.Walk
import Derived.Lib.BitFns
set_option maxRecDepth 100000
namespace Go.Proofs.YtgdljjpdoocnnaaDoor
open Go Go.RowKit

theorem ret_int {k : IntKind} {a b : Int} (h : a = b) : Ending.returned (.int k a) = .returned (.int k b) := by rw [h]
theorem ret_bool {a b : Bool} (h : a = b) : Ending.returned (.bool a) = .returned (.bool b) := by rw [h]
theorem wrap_u64_nat {n : Nat} (h : n < 2 ^ 64) : IntKind.u64.wrap (n : Int) = n := by rw [IntKind.wrap_u64]; omega
theorem oneW_in {i : Int} (h : 0 ≤ i) (h2 : i < 64) : IntKind.u64.wrap (2 ^ i.toNat) = (oneW i : Nat) := by
  have e : oneW i = 2 ^ i.toNat := by unfold oneW; rw [if_pos ⟨h, h2⟩]
  have h3 := oneW_lt i
  rw [← wrap_u64_nat h3, e]
  simp
theorem oneW_out {i : Int} (h : ¬ (0 ≤ i ∧ i < 64)) : (0 : Int) = (oneW i : Nat) := by unfold oneW; rw [if_neg h]; rfl
theorem one_c (i : Int) (w : World) : Calls Tryd.prog 54 #[.int .i64 i] w fun e w' => e = .returned (.int .u64 (oneW i : Nat)) ∧ w = w' := by
  by_cases h : 0 ≤ i ∧ i < 64
  · obtain ⟨h1, h2⟩ := h
    go_enter Tryd.func54, Tryd.ntmps54
    go_wp2
    go_ret
    exact ⟨ret_int (oneW_in h1 h2), rfl⟩
  · have H := oneW_out h
    have HH := Lib.hid H
    clear H
    go_enter Tryd.func54, Tryd.ntmps54
    go_wp2
    all_goals
      go_ret
      exact ⟨ret_int HH.out, rfl⟩
theorem or_u64 (x y : Nat) (hx : x < 2 ^ 64) (hy : y < 2 ^ 64) : bits .or .u64 (x : Int) (y : Int) = ((x ||| y : Nat) : Int) := u64_or_nat x y hx hy
theorem and_u64 (x y : Nat) (hx : x < 2 ^ 64) (hy : y < 2 ^ 64) : bits .and .u64 (x : Int) (y : Int) = ((x &&& y : Nat) : Int) := u64_and_nat x y hx hy
theorem andNot_u64 (x y : Nat) (hx : x < 2 ^ 64) (hy : y < 2 ^ 64) : bits .andNot .u64 (x : Int) (y : Int) = ((subW x y : Nat) : Int) := u64_andNot_nat x y hx hy
theorem all_step {zs : List Int} {k : Nat} (hk : k < zs.length) : bits .or .u64 ((allW (zs.take k) : Nat) : Int) ((oneW zs[k] : Nat) : Int) = ((allW (zs.take (k + 1)) : Nat) : Int) := by
  rw [or_u64 _ _ (allW_lt _) (oneW_lt _), ← allW_snoc, List.take_succ_eq_append_getElem hk]
theorem all_c {w0 w : World} {L : List As} {A : Option Addr} {zs : List Int} {c : Nat} (hs : St w0 L w) (hr : RdS w0 L A (zs.map (Value.int .i64))) (hl : zs.length ≤ maxLen) :
    Calls Tryd.prog 53 #[.slice A zs.length c] w fun e w' => e = .returned (.int .u64 (allW zs : Nat)) ∧ w = w' := by
  unfold maxLen at hl
  go_enter Tryd.func53, Tryd.ntmps53
  go_wp2
  go_loop [3, 8] (fun x i => ∃ k : Nat, k ≤ zs.length ∧ i = .int .i64 k ∧ x = .int .u64 (allW (zs.take k) : Nat)) (fun _ i => zs.length - (intOf i).toNat)
  case atStart => exact ⟨0, Nat.zero_le _, rfl, rfl⟩
  case round =>
    obtain ⟨k, hk, rfl, rfl⟩ := hrel
    by_cases hlt : k < zs.length
    · obtain ⟨b, o, rfl, hc⟩ := hr.at_ (k := k) (by simpa using hlt)
      have hc := hc w hs
      simp at hc
      go_wp2_with (first | (go_at_call 54; refine (one_c _ _).mono ?_; rintro e w' ⟨rfl, rfl⟩))
      go_round
      case rel => exact ⟨k + 1, by omega, by go_num, by rw [all_step hlt]⟩
      case measure => simp [intOf]; omega
    · have he : zs.take k = zs := List.take_of_length_le (by omega)
      have HE := Lib.hid he
      clear he
      go_wp2
      go_ret
      exact ⟨by rw [HE.out]; rfl, rfl⟩
theorem of_c {w0 w : World} {L : List As} {A : Option Addr} {zs : List Int} {c : Nat} (hs : St w0 L w) (hr : RdS w0 L A (zs.map (Value.int .i64))) (hl : zs.length ≤ maxLen) :
    Calls Tryd.prog 23 #[.slice A zs.length c] w fun e w' => e = .returned (.int .u64 (allW zs : Nat)) ∧ w = w' := by
  go_enter Tryd.func23, Tryd.ntmps23
  go_wp2_with (first | (go_at_call 53; refine (all_c hs hr hl).mono ?_; rintro e w' ⟨rfl, rfl⟩))
  go_ret
  exact ⟨rfl, rfl⟩
theorem with_c {w0 w : World} {L : List As} {A : Option Addr} {zs : List Int} {c : Nat} {x : Nat} (hx : x < 2 ^ 64) (hs : St w0 L w) (hr : RdS w0 L A (zs.map (Value.int .i64))) (hl : zs.length ≤ maxLen) :
    Calls Tryd.prog 21 #[.int .u64 x, .slice A zs.length c] w fun e w' => e = .returned (.int .u64 (x ||| allW zs : Nat)) ∧ w = w' := by
  go_enter Tryd.func21, Tryd.ntmps21
  go_wp2_with (first | (go_at_call 53; refine (all_c hs hr hl).mono ?_; rintro e w' ⟨rfl, rfl⟩))
  go_ret
  exact ⟨ret_int (or_u64 _ _ hx (allW_lt _)), rfl⟩
theorem without_c {w0 w : World} {L : List As} {A : Option Addr} {zs : List Int} {c : Nat} {x : Nat} (hx : x < 2 ^ 64) (hs : St w0 L w) (hr : RdS w0 L A (zs.map (Value.int .i64))) (hl : zs.length ≤ maxLen) :
    Calls Tryd.prog 22 #[.int .u64 x, .slice A zs.length c] w fun e w' => e = .returned (.int .u64 (subW x (allW zs) : Nat)) ∧ w = w' := by
  go_enter Tryd.func22, Tryd.ntmps22
  go_wp2_with (first | (go_at_call 53; refine (all_c hs hr hl).mono ?_; rintro e w' ⟨rfl, rfl⟩))
  go_ret
  exact ⟨ret_int (andNot_u64 _ _ hx (allW_lt _)), rfl⟩
theorem has_c {x : Nat} (hx : x < 2 ^ 64) (i : Int) (w : World) : Calls Tryd.prog 25 #[.int .u64 x, .int .i64 i] w fun e w' => e = .returned (.bool (hasW x i)) ∧ w = w' := by
  go_enter Tryd.func25, Tryd.ntmps25
  go_wp2_with (first | (go_at_call 54; refine (one_c _ _).mono ?_; rintro e w' ⟨rfl, rfl⟩))
  go_ret
  refine ⟨ret_bool ?_, rfl⟩
  rw [and_u64 _ _ hx (oneW_lt i), ← hasW_and]
  rw [Bool.eq_iff_iff]; simp
/-- The table of the library's that TrailingZeros64 reads. -/
def Tab (w : World) : Prop := ∀ i, i < 64 → w.cell? ⟨0, i, none⟩ = some (.int .u8 (Lib.deBruijn64tab.getD i 0 : Nat))
theorem Tab.st {w0 w : World} {L : List As} (h : Tab w0) (hs : St w0 L w) : Tab w := fun i hi => Rd.old (h i hi) w hs
theorem Tab.drewN {w : World} (h : Tab w) (n : Nat) : Tab (w.drewN n) := h
theorem tz_arith {x : Nat} (h0 : x ≠ 0) (hx : x < 2 ^ 64) : ∃ p j : Nat, bits .and .u64 (x : Int) (IntKind.u64.wrap (-(x : Int))) = (p : Int) ∧ IntKind.u64.wrap ((p : Int) * 285870213051353865) / 288230376151711744 = (j : Int) ∧ j < 64 ∧ Lib.deBruijn64tab.getD j 0 = Lib.ctz 64 x := by
  obtain ⟨m, h1, h2⟩ := Lib.ctzFrom_spec 64 x (by omega) hx
  have hc : Lib.ctz 64 x = Lib.ctzFrom 64 x := by unfold Lib.ctz; rw [if_neg h0]
  rw [hc]
  generalize Lib.ctzFrom 64 x = k at *
  have ha := Lib.and_neg 64 k m (by rw [← h1]; exact hx)
  rw [← h1] at ha
  have hd := Lib.deBruijn64_at k h2
  refine ⟨2 ^ k, _, ?_, ?_, hd.1, hd.2⟩
  · have : IntKind.u64.wrap (-(x : Int)) = ((2 ^ 64 - x : Nat) : Int) := by rw [IntKind.wrap_u64]; omega
    rw [this, and_u64 _ _ hx (by omega), ha]
  · rw [show ((2 ^ k : Nat) : Int) * 285870213051353865 = ((2 ^ k * 285870213051353865 : Nat) : Int) by simp, IntKind.wrap_u64]
    omega
theorem tz_c (x : Nat) (hx : x < 2 ^ 64) (w : World) (hT : Tab w) : Calls Tryd.prog 50 #[.int .u64 x] w fun e w' => e = .returned (.int .i64 (Lib.ctz 64 x : Nat)) ∧ w = w' := by
  by_cases h0 : x = 0
  · subst h0
    go_enter Tryd.func50, Tryd.ntmps50
    go_wp2
    go_ret
    exact ⟨rfl, rfl⟩
  · obtain ⟨p, j, h1, h2, h3, h4⟩ := tz_arith h0 hx
    have hc := hT j h3
    rw [h4] at hc
    have hb := h0
    have hz : ((x : Int) == 0) = false := by simpa using h0
    have hlt : Lib.ctz 64 x ≤ 64 := by have := (ctz_spec h0 hx).1; omega
    have hw : IntKind.i64.wrap ((Lib.ctz 64 x : Nat) : Int) = (Lib.ctz 64 x : Nat) := IntWalk.i64_in _ (by omega)
    generalize Lib.ctz 64 x = c at *
    clear hT h4 h0 hb
    go_enter Tryd.func50, Tryd.ntmps50
    go_wp2
    go_ret
    exact ⟨rfl, rfl⟩
theorem bitLenAux_log (x : Nat) : ∀ f, x < 2 ^ f → Lib.bitLenAux f x = bitLen x := by
  intro f
  induction f generalizing x with
  | zero => intro h; have : x = 0 := by simpa using h
            subst this; rfl
  | succ f ih =>
    intro h
    unfold Lib.bitLenAux
    split
    · rename_i h0; subst h0; rfl
    · rename_i h0
      rw [ih (x / 2) (by rw [Nat.pow_succ] at h; omega)]
      by_cases h2 : x / 2 = 0
      · have : x = 1 := by omega
        subst this; decide
      · have := bitLen_shift x 1 (by simpa using h2)
        simpa using this.symm
theorem libBitLen {x : Nat} (hx : x < 2 ^ 64) : Lib.bitLen x = bitLen x := bitLenAux_log x 64 hx
section
variable {P : Program} {ops : Array Oper} {Q : Exit → Act → World → Prop} {a : Act} {w : World} {rest : List Oper} {dst : Option Tmp} {ty : TypeId} {pos : String} {after : Array Edge}
theorem wpl_index8 {t : TypeId} {x : Operand} {s : ByteArray} {i : Int} (hx : a.eval x = .int .u8 i) (ht : P.underlying t = some .string) (hs : s = Lib.len8tab) (h0 : 0 ≤ i) (h1 : i ≤ 255)
    (next : ∀ m : Nat, m ≤ 8 → m = Lib.bitLen i.toNat → wpList P ops Q rest (a.put dst (.int .u8 m)) w) : wpList P ops Q (⟨dst, .index t (.const (.string s)) x, ty, pos, after, none⟩ :: rest) a w :=
  wpList_plain rfl fun K hK => by
    subst hs
    unfold Oper.wp execOp
    simp only [hx, show a.eval (.const (.string Lib.len8tab)) = .string Lib.len8tab from rfl, Sem.run_bind, Lib.run_index_len8tab w t .u8 i ht h0 h1, Result.andThen_ok, Sem.run_pure, Lib.len8_of i h0 h1]
    exact hK _ _ (next _ (Lib.bitLen_le8' i h0 h1) rfl)
end
set_option maxHeartbeats 4000000 in
theorem len64_i (x : Int) (w : World) (h0 : 0 ≤ x) (h1 : x ≤ 18446744073709551615) : Calls Tryd.prog 51 #[.int .u64 x] w fun e w' => e = .returned (.int .i64 (Lib.bitLen x.toNat)) ∧ w' = w := by
  go_enter Tryd.func51, Tryd.ntmps51
  go_wp2_with (refine wpl_index8 rfl Tryd.underlying9 rfl (by omega) (by omega) ?_; intro m hm he; have HE := Lib.hid he; clear he)
  all_goals
    go_ret
    refine ⟨ret_int ?_, rfl⟩
  · rw [Lib.bitLen_shift56 x.toNat (by omega) (by omega), HE.out, show (x / 4294967296 / 65536 / 256).toNat = x.toNat / 72057594037927936 by omega]; omega
  · rw [Lib.bitLen_shift48 x.toNat (by omega) (by omega), HE.out, show (x / 4294967296 / 65536).toNat = x.toNat / 281474976710656 by omega]; omega
  · rw [Lib.bitLen_shift40 x.toNat (by omega) (by omega), HE.out, show (x / 4294967296 / 256).toNat = x.toNat / 1099511627776 by omega]; omega
  · rw [Lib.bitLen_shift32 x.toNat (by omega) (by omega), HE.out, show (x / 4294967296).toNat = x.toNat / 4294967296 by omega]; omega
  · rw [Lib.bitLen_shift24 x.toNat (by omega) (by omega), HE.out, show (x / 65536 / 256).toNat = x.toNat / 16777216 by omega]; omega
  · rw [Lib.bitLen_shift16 x.toNat (by omega) (by omega), HE.out, show (x / 65536).toNat = x.toNat / 65536 by omega]; omega
  · rw [Lib.bitLen_shift8 x.toNat (by omega) (by omega), HE.out, show (x / 256).toNat = x.toNat / 256 by omega]; omega
  · rw [HE.out]
theorem len64_c (x : Nat) (hx : x < 2 ^ 64) (w : World) : Calls Tryd.prog 51 #[.int .u64 x] w fun e w' => e = .returned (.int .i64 (bitLen x : Nat)) ∧ w = w' :=
  (len64_i x w (by omega) (by omega)).mono fun e w' ⟨he, hw⟩ => by
    rw [he, hw, Int.toNat_natCast, libBitLen hx]
    exact ⟨rfl, rfl⟩
theorem ones_c (x : Nat) (hx : x < 2 ^ 64) (w : World) : Calls Tryd.prog 52 #[.int .u64 x] w fun e w' => e = .returned (.int .i64 (cntW x : Nat)) ∧ w = w' := by
  obtain ⟨a, ha⟩ : ∃ a, a = swar1 8 x := ⟨_, rfl⟩
  obtain ⟨b, hb⟩ : ∃ b, b = swar2 8 a := ⟨_, rfl⟩
  obtain ⟨X, hX⟩ : ∃ X, X = swar3 8 b := ⟨_, rfl⟩
  obtain ⟨Y, hY⟩ : ∃ Y, Y = X + X / 256 := ⟨_, rfl⟩
  obtain ⟨Z, hZ⟩ : ∃ Z, Z = Y + Y / 65536 := ⟨_, rfl⟩
  obtain ⟨U, hU⟩ : ∃ U, U = Z + Z / 4294967296 := ⟨_, rfl⟩
  have hf := fold_bytes x (X := X) (Y := Y) (Z := Z) (U := U) (by rw [hX, hb, ha, swar_all]) hY hZ hU
  have m85 : mask 85 8 = 6148914691236517205 := by decide
  have m51 : mask 51 8 = 3689348814741910323 := by decide
  have m15 : mask 15 8 = 1085102592571150095 := by decide
  have e1 : IntKind.u64.wrap (bits .and .u64 ((x : Int) / 2) 6148914691236517205 + bits .and .u64 (x : Int) 6148914691236517205) = (a : Int) := by
    have h1 := and_u64 (x / 2) 6148914691236517205 (by omega) (by omega)
    have h2 := and_u64 x 6148914691236517205 (by omega) (by omega)
    have h3 : x / 2 &&& 6148914691236517205 ≤ 6148914691236517205 := Nat.and_le_right
    have h4 : x &&& 6148914691236517205 ≤ 6148914691236517205 := Nat.and_le_right
    simp only [swar1, m85] at ha
    rw [show (x : Int) / 2 = ((x / 2 : Nat) : Int) by omega]
    rw [show (6148914691236517205 : Int) = ((6148914691236517205 : Nat) : Int) from rfl, h1, h2, ha, IntKind.wrap_u64]
    omega
  have hal : a < 2 ^ 64 := by
    have h3 : x / 2 &&& 6148914691236517205 ≤ 6148914691236517205 := Nat.and_le_right
    have h4 : x &&& 6148914691236517205 ≤ 6148914691236517205 := Nat.and_le_right
    simp only [swar1, m85] at ha
    omega
  have e2 : IntKind.u64.wrap (bits .and .u64 ((a : Int) / 4) 3689348814741910323 + bits .and .u64 (a : Int) 3689348814741910323) = (b : Int) := by
    have h1 := and_u64 (a / 4) 3689348814741910323 (by omega) (by omega)
    have h2 := and_u64 a 3689348814741910323 (by omega) (by omega)
    have h3 : a / 4 &&& 3689348814741910323 ≤ 3689348814741910323 := Nat.and_le_right
    have h4 : a &&& 3689348814741910323 ≤ 3689348814741910323 := Nat.and_le_right
    simp only [swar2, m51] at hb
    rw [show (a : Int) / 4 = ((a / 4 : Nat) : Int) by omega]
    rw [show (3689348814741910323 : Int) = ((3689348814741910323 : Nat) : Int) from rfl, h1, h2, hb, IntKind.wrap_u64]
    omega
  have hbl : b ≤ 7378697629483820646 := by
    have h3 : a / 4 &&& 3689348814741910323 ≤ 3689348814741910323 := Nat.and_le_right
    have h4 : a &&& 3689348814741910323 ≤ 3689348814741910323 := Nat.and_le_right
    simp only [swar2, m51] at hb
    omega
  have e3 : bits .and .u64 ((b : Int) / 16 + (b : Int)) 1085102592571150095 = (X : Int) := by
    have h1 := and_u64 (b / 16 + b) 1085102592571150095 (by omega) (by omega)
    simp only [swar3, m15] at hX
    rw [show (b : Int) / 16 + (b : Int) = ((b / 16 + b : Nat) : Int) by omega]
    rw [show (1085102592571150095 : Int) = ((1085102592571150095 : Nat) : Int) from rfl, h1, hX]
  have e4 : (X : Int) + (X : Int) / 256 = (Y : Int) := by omega
  have e5 : (Y : Int) + (Y : Int) / 65536 = (Z : Int) := by omega
  have e6 : (Z : Int) + (Z : Int) / 4294967296 = (U : Int) := by omega
  have e7 : bits .and .i64 (U : Int) 127 = (cntW x : Nat) := by
    rw [show (127 : Int) = ((127 : Nat) : Int) from rfl]
    have h1 : bits .and .i64 (U : Int) ((127 : Nat) : Int) = ((U &&& 127 : Nat) : Int) := by
      show IntKind.i64.wrap ((BitVec.ofInt 64 (U : Int) &&& BitVec.ofInt 64 ((127 : Nat) : Int)).toNat : Int) = _
      have h2 : U &&& 127 ≤ 127 := Nat.and_le_right
      have hl := hf.2.2.2.1
      rw [BitVec.toNat_and, ofInt_u64 U (by omega), ofInt_u64 127 (by omega), IntKind.wrap_i64]
      omega
    rw [h1, nat_mask7, hf.2.2.2.2]
  have hc := cntW_le x
  have b1 : (X : Int) < 1152921504606846976 := by omega
  have b2 : (Y : Int) < 1152921504606846976 := by omega
  have b3 : (Z : Int) < 1152921504606846976 := by omega
  have b4 : (U : Int) < 1152921504606846976 := by omega
  have b5 : (b : Int) ≤ 7378697629483820646 := by omega
  generalize cntW x = c at *
  clear hf m85 m51 m15 ha hb hX hY hZ hU hx hal hbl hc
  go_enter Tryd.func52, Tryd.ntmps52
  go_wp2
  go_ret
  exact ⟨rfl, rfl⟩
end Go.Proofs.YtgdljjpdoocnnaaDoor
