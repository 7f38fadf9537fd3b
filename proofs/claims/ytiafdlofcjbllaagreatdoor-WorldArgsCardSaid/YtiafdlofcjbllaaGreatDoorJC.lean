/-
  XJC: joined of XHwd XBits XBits2.
-/
import Derived.Test.YtiafdlofcjbllaaGreatDoorJB
import Derived.Test.YtiafdlofcjbllaaGreatDoorJA
import Derived.Test.YtiafdlofcjbllaaGreatDoorProg
import Derived.Outline
import Derived.Lib.Hide
import Derived.Lib.Walk
import Derived.Lib.BitFns
/-
  The contract of a set's Word, whatever level and place (no table).
-/
set_option maxRecDepth 100000
namespace Go.Proofs.YtiafdlofcjbllaaGreatDoor
open Go Go.RowKit
attribute [local irreducible] wpList Calls Code.wp

/-! ### A word of a level -/
def wordS (S : List Nat) (level at_ : Int) : Nat := if 0 ≤ level ∧ level < 4 ∧ 0 ≤ at_ ∧ at_ < 64 ^ (3 - level.toNat) then wordOf S (level.toNat, at_.toNat) else 0
theorem at_w {w0 w : World} {L : List As} {T : Nat} {S : List Nat} {ks : List Key} {G : Key → Option Nat} {W : Key → Nat} {n : Nat} (hf : Fits T S ks G W) (hs : St w0 (tbl ks G W n :: L) w) (i l p : Nat) (hi : i < 16777216) (hl : l ≤ 3) (hp : plc i l = p) {v : Value} (hv : Hid (ptrV (G (l, p)) = v)) {fi : Int} (hfi : fi = (i : Nat)) :
    Calls Tryz.prog 143 #[.pointer (some ⟨T, 0, none⟩), .int .i64 fi, .int .i64 (l : Nat)] w fun e w' => e = .returned v ∧ Grew w w' := by
  subst hfi; subst hp; exact at_v hf hs i l hi hl hv
attribute [local irreducible] plc dig wordOf wordS
theorem wordS_out {S : List Nat} {level at_ : Int} (h : ¬ (0 ≤ level ∧ level < 4 ∧ 0 ≤ at_ ∧ at_ < 64 ^ (3 - level.toNat))) : wordS S level at_ = 0 := by unfold wordS; exact if_neg h
def ww (l : Nat) : Int := match l with
  | 0 => 262144
  | 1 => 4096
  | 2 => 64
  | _ => 1
end Go.Proofs.YtiafdlofcjbllaaGreatDoor

/-
  The walks of package bits and of what it calls.
-/
set_option maxRecDepth 100000
namespace Go.Proofs.YtiafdlofcjbllaaGreatDoor
open Go Go.RowKit

/-- The table of the library's that TrailingZeros64 reads. -/
def Tab (w : World) : Prop := ∀ i, i < 64 → w.cell? ⟨0, i, none⟩ = some (.int .u8 (Lib.deBruijn64tab.getD i 0 : Nat))
theorem Tab.st {w0 w : World} {L : List As} (h : Tab w0) (hs : St w0 L w) : Tab w := fun i hi => Rd.old (h i hi) w hs
theorem Tab.drewN {w : World} (h : Tab w) (n : Nat) : Tab (w.drewN n) := h
theorem tz_arith {x : Nat} (h0 : x ≠ 0) (hx : x < 2 ^ 64) : ∃ p j : Nat, bits .and .u64 (x : Int) (IntKind.u64.wrap (-(x : Int))) = (p : Int) ∧ IntKind.u64.wrap ((p : Int) * 285870213051353865) / 288230376151711744 = (j : Int) ∧ j < 64 ∧ Lib.deBruijn64tab.getD j 0 = Lib.ctz 64 x := by
  obtain ⟨m, h1, h2⟩ := Lib.ctzFrom_spec 64 x (by omega) hx
  have hc : Lib.ctz 64 x = Lib.ctzFrom 64 x := by unfold Lib.ctz; rw [if_neg h0]
  rw [hc]
  generalize Lib.ctzFrom 64 x = k at *
  have ha := Lib.and_neg 64 k m (by rw [← h1]; exact hx)
  rw [← h1] at ha
  have hd := Lib.deBruijn64_at k h2
  refine ⟨2 ^ k, _, ?_, ?_, hd.1, hd.2⟩
  · have : IntKind.u64.wrap (-(x : Int)) = ((2 ^ 64 - x : Nat) : Int) := by rw [IntKind.wrap_u64]; omega
    rw [this, and_u64 _ _ hx (by omega), ha]
  · rw [show ((2 ^ k : Nat) : Int) * 285870213051353865 = ((2 ^ k * 285870213051353865 : Nat) : Int) by simp, IntKind.wrap_u64]
    omega
theorem tz_c (x : Nat) (hx : x < 2 ^ 64) (w : World) (hT : Tab w) : Calls Tryz.prog 176 #[.int .u64 x] w fun e w' => e = .returned (.int .i64 (Lib.ctz 64 x : Nat)) ∧ w = w' := by
  by_cases h0 : x = 0
  · subst h0
    go_enter Tryz.func176, Tryz.ntmps176
    go_wp2
    go_ret
    exact ⟨rfl, rfl⟩
  · obtain ⟨p, j, h1, h2, h3, h4⟩ := tz_arith h0 hx
    have hc := hT j h3
    rw [h4] at hc
    have hb := h0
    have hz : ((x : Int) == 0) = false := by simpa using h0
    have hlt : Lib.ctz 64 x ≤ 64 := by have := (ctz_spec h0 hx).1; omega
    have hw : IntKind.i64.wrap ((Lib.ctz 64 x : Nat) : Int) = (Lib.ctz 64 x : Nat) := IntWalk.i64_in _ (by omega)
    generalize Lib.ctz 64 x = c at *
    clear hT h4 h0 hb
    go_enter Tryz.func176, Tryz.ntmps176
    go_wp2
    go_ret
    exact ⟨rfl, rfl⟩
theorem bitLenAux_log (x : Nat) : ∀ f, x < 2 ^ f → Lib.bitLenAux f x = bitLen x := by
  intro f
  induction f generalizing x with
  | zero => intro h; have : x = 0 := by simpa using h
            subst this; rfl
  | succ f ih =>
    intro h
    unfold Lib.bitLenAux
    split
    · rename_i h0; subst h0; rfl
    · rename_i h0
      rw [ih (x / 2) (by rw [Nat.pow_succ] at h; omega)]
      by_cases h2 : x / 2 = 0
      · have : x = 1 := by omega
        subst this; decide
      · have := bitLen_shift x 1 (by simpa using h2)
        simpa using this.symm
theorem libBitLen {x : Nat} (hx : x < 2 ^ 64) : Lib.bitLen x = bitLen x := bitLenAux_log x 64 hx
section
variable {P : Program} {ops : Array Oper} {Q : Exit → Act → World → Prop} {a : Act} {w : World} {rest : List Oper} {dst : Option Tmp} {ty : TypeId} {pos : String} {after : Array Edge}
theorem wpl_index8 {t : TypeId} {x : Operand} {s : ByteArray} {i : Int} (hx : a.eval x = .int .u8 i) (ht : P.underlying t = some .string) (hs : s = Lib.len8tab) (h0 : 0 ≤ i) (h1 : i ≤ 255)
    (next : ∀ m : Nat, m ≤ 8 → m = Lib.bitLen i.toNat → wpList P ops Q rest (a.put dst (.int .u8 m)) w) : wpList P ops Q (⟨dst, .index t (.const (.string s)) x, ty, pos, after, none⟩ :: rest) a w :=
  wpList_plain rfl fun K hK => by
    subst hs
    unfold Oper.wp execOp
    simp only [hx, show a.eval (.const (.string Lib.len8tab)) = .string Lib.len8tab from rfl, Sem.run_bind, Lib.run_index_len8tab w t .u8 i ht h0 h1, Result.andThen_ok, Sem.run_pure, Lib.len8_of i h0 h1]
    exact hK _ _ (next _ (Lib.bitLen_le8' i h0 h1) rfl)
end
end Go.Proofs.YtiafdlofcjbllaaGreatDoor

/-
  The walks of package bits: First, Last, Len, List, Split, Join.
-/
set_option maxRecDepth 100000
namespace Go.Proofs.YtiafdlofcjbllaaGreatDoor
open Go Go.RowKit
attribute [local irreducible] wpList Calls Code.wp

theorem firstW_far {x : Nat} {f : Int} (h : 64 ≤ f) : firstW x f = -1 := firstW_none fun j h1 h2 => by omega
/-- At a number of 0 to 63. -/
theorem first_at {x d : Nat} (hx : x < 2 ^ 64) (hd : d < 64) (w : World) (hT : Tab w) : Calls Tryz.prog 172 #[.int .u64 x, .int .i64 (d : Int)] w fun e w' => e = .returned (.int .i64 (firstW x d)) ∧ w = w' := by
  have hs := firstW_shift (f := d) hx
  have hq : (x : Int) / 2 ^ d = ((x / 2 ^ d : Nat) : Int) := by simp
  have hle : x / 2 ^ d < 2 ^ 64 := Nat.lt_of_le_of_lt (Nat.div_le_self _ _) hx
  generalize x / 2 ^ d = y at *
  have HS := Lib.hid hs
  clear hs
  by_cases h0 : y = 0
  · have hz : ((y : Int) == 0) = true := by simpa using h0
    have HH := Lib.hid h0
    clear h0
    go_enter Tryz.func172, Tryz.ntmps172
    go_wp2
    go_ret
    exact ⟨by rw [HS.out, if_pos HH.out]; rfl, rfl⟩
  · have hz : ((y : Int) == 0) = false := by simpa using h0
    have hc : Lib.ctz 64 y < 64 := (ctz_spec h0 hle).1
    have HH := Lib.hid h0
    clear h0
    go_enter Tryz.func172, Tryz.ntmps172
    go_wp2_with (first | (go_at_call 176; refine (tz_c _ hle _ hT).mono ?_; rintro e w' ⟨rfl, rfl⟩))
    go_ret
    exact ⟨by rw [HS.out, if_neg HH.out]; rfl, rfl⟩
theorem first_c {x : Nat} (hx : x < 2 ^ 64) (f : Int) (w : World) (hT : Tab w) : Calls Tryz.prog 172 #[.int .u64 x, .int .i64 f] w fun e w' => e = .returned (.int .i64 (firstW x f)) ∧ w = w' := by
  by_cases h1 : 64 ≤ f
  · have H := Lib.hid (firstW_far (x := x) h1)
    go_enter Tryz.func172, Tryz.ntmps172
    go_wp2
    go_ret
    exact ⟨by rw [H.out]; rfl, rfl⟩
  · by_cases h2 : 0 ≤ f
    · obtain ⟨d, rfl⟩ := Int.eq_ofNat_of_zero_le h2
      exact first_at hx (by omega) w hT
    · have h3 : f < 0 := by omega
      have e : firstW x f = firstW x ((0 : Nat) : Int) := by rw [firstW_max]; congr 1; omega
      have hs := firstW_shift (f := 0) hx
      rw [← e] at hs
      simp only [Nat.pow_zero, Nat.div_one, Nat.zero_add] at hs
      have HS := Lib.hid hs
      clear hs e h1 h2
      have hmx : max f 0 = 0 := by omega
      by_cases h0 : x = 0
      · have hz : ((x : Int) == 0) = true := by simpa using h0
        have HH := Lib.hid h0
        clear h0
        go_enter Tryz.func172, Tryz.ntmps172
        go_wp2
        go_ret
        exact ⟨by rw [HS.out, if_pos HH.out]; rfl, rfl⟩
      · have hz : ((x : Int) == 0) = false := by simpa using h0
        have hc : Lib.ctz 64 x < 64 := (ctz_spec h0 hx).1
        have HH := Lib.hid h0
        clear h0
        go_enter Tryz.func172, Tryz.ntmps172
        go_wp2_with (first | (go_at_call 176; refine (tz_c _ hx _ hT).mono ?_; rintro e w' ⟨rfl, rfl⟩))
        go_ret
        exact ⟨by rw [HS.out, if_neg HH.out]; rfl, rfl⟩
theorem intv_snoc (l : List Nat) (i : Nat) : (l.map fun i : Nat => Value.int .i64 (i : Int)) ++ [Value.int .i64 (i : Int)] = (l ++ [i]).map fun i : Nat => Value.int .i64 (i : Int) := by simp
theorem downM_first (x i : Nat) (hi : i < 64) : downM (firstW x ((i : Int) + 1)) < downM (i : Int) := by
  have h1 := firstW_lt x ((i : Int) + 1)
  unfold downM
  by_cases h : firstW x ((i : Int) + 1) < 0
  · rw [if_pos h, if_neg (by omega)]; omega
  · rw [if_neg h, if_neg (by omega)]
    have := firstW_ge (x := x) (k := (i : Int) + 1) (by omega)
    omega
theorem results_tmp5 {fn : Func} {t u v x y : Tmp} (h : fn.results = #[.tmp t, .tmp u, .tmp v, .tmp x, .tmp y]) (tmps : Array Value) (P : Program) (w : World) :
    (results fn tmps).run P w = .ok (.tuple #[tmps.getD t undef, tmps.getD u undef, tmps.getD v undef, tmps.getD x undef, tmps.getD y undef]) w := by simp [results, h]
def digOk (a : Int) : Prop := 0 ≤ a ∧ a < 64
theorem join_arith {a b c d : Int} (ha : digOk a) (hb : digOk b) (hc : digOk c) (hd : digOk d) :
    bits .or .i64 (bits .or .i64 (bits .or .i64 a (b * 64)) (c * 4096)) (d * 262144) = a + 64 * (b + 64 * (c + 64 * d)) := by
  obtain ⟨a1, a2⟩ := ha
  obtain ⟨b1, b2⟩ := hb
  obtain ⟨c1, c2⟩ := hc
  obtain ⟨d1, d2⟩ := hd
  obtain ⟨a, rfl⟩ := Int.eq_ofNat_of_zero_le a1
  obtain ⟨b, rfl⟩ := Int.eq_ofNat_of_zero_le b1
  obtain ⟨c, rfl⟩ := Int.eq_ofNat_of_zero_le c1
  obtain ⟨d, rfl⟩ := Int.eq_ofNat_of_zero_le d1
  rw [show (b : Int) * 64 = ((b * 64 : Nat) : Int) by omega, show (c : Int) * 4096 = ((c * 4096 : Nat) : Int) by omega, show (d : Int) * 262144 = ((d * 262144 : Nat) : Int) by omega,
    i64_or a _ (by omega) (by omega), or_add (i := 6) (show a < 2 ^ 6 by omega) (show b * 64 % 2 ^ 6 = 0 by omega),
    i64_or _ _ (by omega) (by omega), or_add (i := 12) (show a + b * 64 < 2 ^ 12 by omega) (show c * 4096 % 2 ^ 12 = 0 by omega),
    i64_or _ _ (by omega) (by omega), or_add (i := 18) (show a + b * 64 + c * 4096 < 2 ^ 18 by omega) (show d * 262144 % 2 ^ 18 = 0 by omega)]
  omega
def digs (a b c d : Int) : Nat → Int
  | 0 => a
  | 1 => b
  | 2 => c
  | _ => d
def JoinPost (a b c d : Int) (w : World) (e : Ending) (w' : World) : Prop :=
  (digOk a ∧ digOk b ∧ digOk c ∧ digOk d → e = .returned (.tuple #[.int .i64 (a + 64 * (b + 64 * (c + 64 * d))), .bool true])) ∧
    (¬ (digOk a ∧ digOk b ∧ digOk c ∧ digOk d) → e = .returned (.tuple #[.int .i64 0, .bool false])) ∧ w = w'
end Go.Proofs.YtiafdlofcjbllaaGreatDoor
