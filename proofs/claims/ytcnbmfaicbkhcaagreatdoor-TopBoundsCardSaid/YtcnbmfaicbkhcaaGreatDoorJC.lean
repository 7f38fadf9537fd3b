/-
  XJC: joined of XHwd XBits XBits2.
-/
import Derived.Test.YtcnbmfaicbkhcaaGreatDoorJB
import Derived.Test.YtcnbmfaicbkhcaaGreatDoorJA
import Derived.Test.YtcnbmfaicbkhcaaGreatDoorProg
import Derived.Outline
import Derived.Lib.Hide
import Derived.Lib.Walk
import Derived.Lib.BitFns
/-
  The contract of a set's Word, whatever level and place (no table).
-/
set_option maxRecDepth 100000
namespace Go.Proofs.YtcnbmfaicbkhcaaGreatDoor
open Go Go.RowKit
attribute [local irreducible] wpList Calls Code.wp

/-! ### A word of a level -/
def wordS (S : List Nat) (level at_ : Int) : Nat := if 0 ≤ level ∧ level < 4 ∧ 0 ≤ at_ ∧ at_ < 64 ^ (3 - level.toNat) then wordOf S (level.toNat, at_.toNat) else 0
theorem at_w {w0 w : World} {L : List As} {T : Nat} {S : List Nat} {ks : List Key} {G : Key → Option Nat} {W : Key → Nat} {n : Nat} (hf : Fits T S ks G W) (hs : St w0 (tbl ks G W n :: L) w) (i l p : Nat) (hi : i < 16777216) (hl : l ≤ 3) (hp : plc i l = p) {v : Value} (hv : Hid (ptrV (G (l, p)) = v)) {fi : Int} (hfi : fi = (i : Nat)) :
    Calls Tryz.prog 131 #[.pointer (some ⟨T, 0, none⟩), .int .i64 fi, .int .i64 (l : Nat)] w fun e w' => e = .returned v ∧ Grew w w' := by
  subst hfi; subst hp; exact at_v hf hs i l hi hl hv
attribute [local irreducible] plc dig wordOf wordS
set_option maxHeartbeats 2000000 in
theorem hword_in {w0 w : World} {L : List As} {T : Nat} {S : List Nat} {ks : List Key} {G : Key → Option Nat} {W : Key → Nat} (hf : Fits T S ks G W) (hs : St w0 (tbl ks G W S.length :: L) w) : ∀ (l p : Nat), l < 4 → p < 64 ^ (3 - l) →
    Calls Tryz.prog 308 #[.pointer (some ⟨T, 0, none⟩), .int .i64 (l : Nat), .int .i64 (p : Nat)] w fun e w' => e = .returned (.int .u64 (wordS S l p : Nat)) ∧ Grew w w'
  | 0, p, hl, hp => by
    have hp0 : 0 ≤ (p : Int) := Int.natCast_nonneg p
    have hpB : (p : Int) < 262144 := by omega
    have HW : Hid (wordS S ((0 : Nat) : Int) (p : Int) = wordOf S (0, p)) := by
      rw [Hid, wordS, if_pos ⟨by decide, by decide, hp0, by simpa using hpB⟩]; rfl
    have hpN : p < 262144 := by omega
    clear hpB
    have HP : plc (p * 64) 0 = p := by unfold plc; omega
    clear hp
    have HF := Lib.hid hf
    cases hg : G (0, p) with
    | none =>
      have HV : Hid (ptrV (G (0, p)) = .pointer none) := by rw [Hid, hg]; rfl
      have HR : Hid (wordOf S (0, p) = 0) := by
        rw [Hid]
        by_cases hl3 : 0 = 3
        · have : p = 0 := by omega
          subst this
          first
            | (rw [hf.top] at hg; cases hg)
            | (exact absurd hl3 (by decide))
        · exact Classical.byContradiction fun h => (hf.there (0, p) (by simp only; omega)).2 h hg
      rw [HW.out, HR.out]
      have HPP := Lib.hid HP
      clear hg hf HP HR HW
      go_enter Tryz.func308, Tryz.ntmps308
      go_wp2_with (first
        | (go_at_call 131; refine (at_w HF.out hs (p * 64) 0 p (by omega) (by decide) HPP.out HV (by omega)).mono ?_; rintro e w' ⟨rfl, hg⟩))
      go_ret
      exact ⟨rfl, hg⟩
    | some g =>
      have HV : Hid (ptrV (G (0, p)) = .pointer (some ⟨g, 0, none⟩)) := by rw [Hid, hg]; rfl
      have hr := Rd.tbl_word (w0 := w0) (L := L) (W := W) (n := S.length) ((hf.mem _).2 (by rw [hg]; exact Option.some_ne_none g)) hg
      rw [hf.word (0, p) (by simp only; omega)] at hr
      rw [HW.out]
      have HPP := Lib.hid HP
      generalize wordOf S (0, p) = x at hr ⊢
      clear hg hf HP HW
      go_enter Tryz.func308, Tryz.ntmps308
      go_wp2_with (first
        | (go_at_call 131; refine (at_w HF.out hs (p * 64) 0 p (by omega) (by decide) HPP.out HV (by omega)).mono ?_; rintro e w' ⟨rfl, hg⟩; have hc := hr _ (hs.grew hg)))
      go_ret
      exact ⟨rfl, hg⟩
  | 1, p, hl, hp => by
    have hp0 : 0 ≤ (p : Int) := Int.natCast_nonneg p
    have hpB : (p : Int) < 4096 := by omega
    have HW : Hid (wordS S ((1 : Nat) : Int) (p : Int) = wordOf S (1, p)) := by
      rw [Hid, wordS, if_pos ⟨by decide, by decide, hp0, by simpa using hpB⟩]; rfl
    have hpN : p < 4096 := by omega
    clear hpB
    have HP : plc (p * 4096) 1 = p := by unfold plc; omega
    clear hp
    have HF := Lib.hid hf
    cases hg : G (1, p) with
    | none =>
      have HV : Hid (ptrV (G (1, p)) = .pointer none) := by rw [Hid, hg]; rfl
      have HR : Hid (wordOf S (1, p) = 0) := by
        rw [Hid]
        by_cases hl3 : 1 = 3
        · have : p = 0 := by omega
          subst this
          first
            | (rw [hf.top] at hg; cases hg)
            | (exact absurd hl3 (by decide))
        · exact Classical.byContradiction fun h => (hf.there (1, p) (by simp only; omega)).2 h hg
      rw [HW.out, HR.out]
      have HPP := Lib.hid HP
      clear hg hf HP HR HW
      go_enter Tryz.func308, Tryz.ntmps308
      go_wp2_with (first
        | (go_at_call 131; refine (at_w HF.out hs (p * 4096) 1 p (by omega) (by decide) HPP.out HV (by omega)).mono ?_; rintro e w' ⟨rfl, hg⟩))
      go_ret
      exact ⟨rfl, hg⟩
    | some g =>
      have HV : Hid (ptrV (G (1, p)) = .pointer (some ⟨g, 0, none⟩)) := by rw [Hid, hg]; rfl
      have hr := Rd.tbl_word (w0 := w0) (L := L) (W := W) (n := S.length) ((hf.mem _).2 (by rw [hg]; exact Option.some_ne_none g)) hg
      rw [hf.word (1, p) (by simp only; omega)] at hr
      rw [HW.out]
      have HPP := Lib.hid HP
      generalize wordOf S (1, p) = x at hr ⊢
      clear hg hf HP HW
      go_enter Tryz.func308, Tryz.ntmps308
      go_wp2_with (first
        | (go_at_call 131; refine (at_w HF.out hs (p * 4096) 1 p (by omega) (by decide) HPP.out HV (by omega)).mono ?_; rintro e w' ⟨rfl, hg⟩; have hc := hr _ (hs.grew hg)))
      go_ret
      exact ⟨rfl, hg⟩
  | 2, p, hl, hp => by
    have hp0 : 0 ≤ (p : Int) := Int.natCast_nonneg p
    have hpB : (p : Int) < 64 := by omega
    have HW : Hid (wordS S ((2 : Nat) : Int) (p : Int) = wordOf S (2, p)) := by
      rw [Hid, wordS, if_pos ⟨by decide, by decide, hp0, by simpa using hpB⟩]; rfl
    have hpN : p < 64 := by omega
    clear hpB
    have HP : plc (p * 262144) 2 = p := by unfold plc; omega
    clear hp
    have HF := Lib.hid hf
    cases hg : G (2, p) with
    | none =>
      have HV : Hid (ptrV (G (2, p)) = .pointer none) := by rw [Hid, hg]; rfl
      have HR : Hid (wordOf S (2, p) = 0) := by
        rw [Hid]
        by_cases hl3 : 2 = 3
        · have : p = 0 := by omega
          subst this
          first
            | (rw [hf.top] at hg; cases hg)
            | (exact absurd hl3 (by decide))
        · exact Classical.byContradiction fun h => (hf.there (2, p) (by simp only; omega)).2 h hg
      rw [HW.out, HR.out]
      have HPP := Lib.hid HP
      clear hg hf HP HR HW
      go_enter Tryz.func308, Tryz.ntmps308
      go_wp2_with (first
        | (go_at_call 131; refine (at_w HF.out hs (p * 262144) 2 p (by omega) (by decide) HPP.out HV (by omega)).mono ?_; rintro e w' ⟨rfl, hg⟩))
      go_ret
      exact ⟨rfl, hg⟩
    | some g =>
      have HV : Hid (ptrV (G (2, p)) = .pointer (some ⟨g, 0, none⟩)) := by rw [Hid, hg]; rfl
      have hr := Rd.tbl_word (w0 := w0) (L := L) (W := W) (n := S.length) ((hf.mem _).2 (by rw [hg]; exact Option.some_ne_none g)) hg
      rw [hf.word (2, p) (by simp only; omega)] at hr
      rw [HW.out]
      have HPP := Lib.hid HP
      generalize wordOf S (2, p) = x at hr ⊢
      clear hg hf HP HW
      go_enter Tryz.func308, Tryz.ntmps308
      go_wp2_with (first
        | (go_at_call 131; refine (at_w HF.out hs (p * 262144) 2 p (by omega) (by decide) HPP.out HV (by omega)).mono ?_; rintro e w' ⟨rfl, hg⟩; have hc := hr _ (hs.grew hg)))
      go_ret
      exact ⟨rfl, hg⟩
  | 3, p, hl, hp => by
    have hp0 : 0 ≤ (p : Int) := Int.natCast_nonneg p
    have hpB : (p : Int) < 1 := by omega
    have HW : Hid (wordS S ((3 : Nat) : Int) (p : Int) = wordOf S (3, p)) := by
      rw [Hid, wordS, if_pos ⟨by decide, by decide, hp0, by simpa using hpB⟩]; rfl
    have hpN : p < 1 := by omega
    clear hpB
    have HP : plc (p * 16777216) 3 = p := by unfold plc; omega
    clear hp
    have HF := Lib.hid hf
    cases hg : G (3, p) with
    | none =>
      have HV : Hid (ptrV (G (3, p)) = .pointer none) := by rw [Hid, hg]; rfl
      have HR : Hid (wordOf S (3, p) = 0) := by
        rw [Hid]
        by_cases hl3 : 3 = 3
        · have : p = 0 := by omega
          subst this
          first
            | (rw [hf.top] at hg; cases hg)
            | (exact absurd hl3 (by decide))
        · exact Classical.byContradiction fun h => (hf.there (3, p) (by simp only; omega)).2 h hg
      rw [HW.out, HR.out]
      have HPP := Lib.hid HP
      clear hg hf HP HR HW
      go_enter Tryz.func308, Tryz.ntmps308
      go_wp2_with (first
        | (go_at_call 131; refine (at_w HF.out hs (p * 16777216) 3 p (by omega) (by decide) HPP.out HV (by omega)).mono ?_; rintro e w' ⟨rfl, hg⟩))
      go_ret
      exact ⟨rfl, hg⟩
    | some g =>
      have HV : Hid (ptrV (G (3, p)) = .pointer (some ⟨g, 0, none⟩)) := by rw [Hid, hg]; rfl
      have hr := Rd.tbl_word (w0 := w0) (L := L) (W := W) (n := S.length) ((hf.mem _).2 (by rw [hg]; exact Option.some_ne_none g)) hg
      rw [hf.word (3, p) (by simp only; omega)] at hr
      rw [HW.out]
      have HPP := Lib.hid HP
      generalize wordOf S (3, p) = x at hr ⊢
      clear hg hf HP HW
      go_enter Tryz.func308, Tryz.ntmps308
      go_wp2_with (first
        | (go_at_call 131; refine (at_w HF.out hs (p * 16777216) 3 p (by omega) (by decide) HPP.out HV (by omega)).mono ?_; rintro e w' ⟨rfl, hg⟩; have hc := hr _ (hs.grew hg)))
      go_ret
      exact ⟨rfl, hg⟩
  | _ + 4, _, hl, _ => by omega
theorem wordS_out {S : List Nat} {level at_ : Int} (h : ¬ (0 ≤ level ∧ level < 4 ∧ 0 ≤ at_ ∧ at_ < 64 ^ (3 - level.toNat))) : wordS S level at_ = 0 := by unfold wordS; exact if_neg h
def ww (l : Nat) : Int := match l with
  | 0 => 262144
  | 1 => 4096
  | 2 => 64
  | _ => 1
theorem hword_hi (T : Nat) (a : Int) : ∀ l : Nat, l < 4 → ww l ≤ a → ∀ w : World, Calls Tryz.prog 308 #[.pointer (some ⟨T, 0, none⟩), .int .i64 (l : Nat), .int .i64 a] w fun e w' => e = .returned (.int .u64 0) ∧ Grew w w'
  | 0, _, h, w => by
    have h0 : decide (a < 0) = false := decide_eq_false (by simp only [ww] at h; omega)
    have hd : decide (262144 ≤ a) = true := decide_eq_true h
    clear h
    go_enter Tryz.func308, Tryz.ntmps308
    go_wp2
    go_ret
    exact ⟨rfl, Grew.refl _⟩
  | 1, _, h, w => by
    have h0 : decide (a < 0) = false := decide_eq_false (by simp only [ww] at h; omega)
    have hd : decide (4096 ≤ a) = true := decide_eq_true h
    clear h
    go_enter Tryz.func308, Tryz.ntmps308
    go_wp2
    go_ret
    exact ⟨rfl, Grew.refl _⟩
  | 2, _, h, w => by
    have h0 : decide (a < 0) = false := decide_eq_false (by simp only [ww] at h; omega)
    have hd : decide (64 ≤ a) = true := decide_eq_true h
    clear h
    go_enter Tryz.func308, Tryz.ntmps308
    go_wp2
    go_ret
    exact ⟨rfl, Grew.refl _⟩
  | 3, _, h, w => by
    have h0 : decide (a < 0) = false := decide_eq_false (by simp only [ww] at h; omega)
    have hd : decide (1 ≤ a) = true := decide_eq_true h
    clear h
    go_enter Tryz.func308, Tryz.ntmps308
    go_wp2
    go_ret
    exact ⟨rfl, Grew.refl _⟩
  | _ + 4, hl, _, _ => by omega
theorem hword_g {w0 w : World} {L : List As} {T : Nat} {S : List Nat} (hs : St w0 (HSet T S :: L) w) (level a : Int) :
    Calls Tryz.prog 308 #[.pointer (some ⟨T, 0, none⟩), .int .i64 level, .int .i64 a] w fun e w' => e = .returned (.int .u64 (wordS S level a : Nat)) ∧ Grew w w' := by
  by_cases h0 : level < 0
  · rw [wordS_out (fun h => by omega)]
    go_enter Tryz.func308, Tryz.ntmps308
    go_wp2
    go_ret
    exact ⟨rfl, Grew.refl _⟩
  · by_cases h4 : 4 ≤ level
    · rw [wordS_out (fun h => by omega)]
      go_enter Tryz.func308, Tryz.ntmps308
      go_wp2
      go_ret
      exact ⟨rfl, Grew.refl _⟩
    · obtain ⟨l, rfl⟩ := Int.eq_ofNat_of_zero_le (show 0 ≤ level by omega)
      have hl : l < 4 := by omega
      by_cases ha : a < 0
      · rw [wordS_out (fun h => by omega)]
        have h5 : (l : Int) ≤ 3 := by omega
        clear h4 hl
        go_enter Tryz.func308, Tryz.ntmps308
        go_wp2
        go_ret
        exact ⟨rfl, Grew.refl _⟩
      · have e : (64 : Int) ^ (3 - (l : Int).toNat) = ww l := by
          have h3 : l = 0 ∨ l = 1 ∨ l = 2 ∨ l = 3 := by omega
          rcases h3 with rfl | rfl | rfl | rfl <;> decide
        by_cases hm : ww l ≤ a
        · rw [wordS_out (fun h => by have := h.2.2.2; rw [e] at this; omega)]
          exact hword_hi T a l hl hm w
        · obtain ⟨p, rfl⟩ := Int.eq_ofNat_of_zero_le (show 0 ≤ a by omega)
          obtain ⟨ks, G, W, hf, hs⟩ := hs.hopen
          refine hword_in hf hs l p hl ?_
          have h3 : l = 0 ∨ l = 1 ∨ l = 2 ∨ l = 3 := by omega
          rcases h3 with rfl | rfl | rfl | rfl <;> simp only [ww] at hm <;> omega
end Go.Proofs.YtcnbmfaicbkhcaaGreatDoor

/-
  The walks of package bits and of what it calls.
-/
set_option maxRecDepth 100000
namespace Go.Proofs.YtcnbmfaicbkhcaaGreatDoor
open Go Go.RowKit

/-- The table of the library's that TrailingZeros64 reads. -/
def Tab (w : World) : Prop := ∀ i, i < 64 → w.cell? ⟨0, i, none⟩ = some (.int .u8 (Lib.deBruijn64tab.getD i 0 : Nat))
theorem Tab.st {w0 w : World} {L : List As} (h : Tab w0) (hs : St w0 L w) : Tab w := fun i hi => Rd.old (h i hi) w hs
theorem tz_arith {x : Nat} (h0 : x ≠ 0) (hx : x < 2 ^ 64) : ∃ p j : Nat, bits .and .u64 (x : Int) (IntKind.u64.wrap (-(x : Int))) = (p : Int) ∧ IntKind.u64.wrap ((p : Int) * 285870213051353865) / 288230376151711744 = (j : Int) ∧ j < 64 ∧ Lib.deBruijn64tab.getD j 0 = Lib.ctz 64 x := by
  obtain ⟨m, h1, h2⟩ := Lib.ctzFrom_spec 64 x (by omega) hx
  have hc : Lib.ctz 64 x = Lib.ctzFrom 64 x := by unfold Lib.ctz; rw [if_neg h0]
  rw [hc]
  generalize Lib.ctzFrom 64 x = k at *
  have ha := Lib.and_neg 64 k m (by rw [← h1]; exact hx)
  rw [← h1] at ha
  have hd := Lib.deBruijn64_at k h2
  refine ⟨2 ^ k, _, ?_, ?_, hd.1, hd.2⟩
  · have : IntKind.u64.wrap (-(x : Int)) = ((2 ^ 64 - x : Nat) : Int) := by rw [IntKind.wrap_u64]; omega
    rw [this, and_u64 _ _ hx (by omega), ha]
  · rw [show ((2 ^ k : Nat) : Int) * 285870213051353865 = ((2 ^ k * 285870213051353865 : Nat) : Int) by simp, IntKind.wrap_u64]
    omega
theorem tz_c (x : Nat) (hx : x < 2 ^ 64) (w : World) (hT : Tab w) : Calls Tryz.prog 260 #[.int .u64 x] w fun e w' => e = .returned (.int .i64 (Lib.ctz 64 x : Nat)) ∧ w = w' := by
  by_cases h0 : x = 0
  · subst h0
    go_enter Tryz.func260, Tryz.ntmps260
    go_wp2
    go_ret
    exact ⟨rfl, rfl⟩
  · obtain ⟨p, j, h1, h2, h3, h4⟩ := tz_arith h0 hx
    have hc := hT j h3
    rw [h4] at hc
    have hb := h0
    have hz : ((x : Int) == 0) = false := by simpa using h0
    have hlt : Lib.ctz 64 x ≤ 64 := by have := (ctz_spec h0 hx).1; omega
    have hw : IntKind.i64.wrap ((Lib.ctz 64 x : Nat) : Int) = (Lib.ctz 64 x : Nat) := IntWalk.i64_in _ (by omega)
    generalize Lib.ctz 64 x = c at *
    clear hT h4 h0 hb
    go_enter Tryz.func260, Tryz.ntmps260
    go_wp2
    go_ret
    exact ⟨rfl, rfl⟩
section
variable {P : Program} {ops : Array Oper} {Q : Exit → Act → World → Prop} {a : Act} {w : World} {rest : List Oper} {dst : Option Tmp} {ty : TypeId} {pos : String} {after : Array Edge}
theorem wpl_index8 {t : TypeId} {x : Operand} {s : ByteArray} {i : Int} (hx : a.eval x = .int .u8 i) (ht : P.underlying t = some .string) (hs : s = Lib.len8tab) (h0 : 0 ≤ i) (h1 : i ≤ 255)
    (next : ∀ m : Nat, m ≤ 8 → m = Lib.bitLen i.toNat → wpList P ops Q rest (a.put dst (.int .u8 m)) w) : wpList P ops Q (⟨dst, .index t (.const (.string s)) x, ty, pos, after, none⟩ :: rest) a w :=
  wpList_plain rfl fun K hK => by
    subst hs
    unfold Oper.wp execOp
    simp only [hx, show a.eval (.const (.string Lib.len8tab)) = .string Lib.len8tab from rfl, Sem.run_bind, Lib.run_index_len8tab w t .u8 i ht h0 h1, Result.andThen_ok, Sem.run_pure, Lib.len8_of i h0 h1]
    exact hK _ _ (next _ (Lib.bitLen_le8' i h0 h1) rfl)
end
set_option maxHeartbeats 4000000 in
theorem len64_i (x : Int) (w : World) (h0 : 0 ≤ x) (h1 : x ≤ 18446744073709551615) : Calls Tryz.prog 357 #[.int .u64 x] w fun e w' => e = .returned (.int .i64 (Lib.bitLen x.toNat)) ∧ w' = w := by
  go_enter Tryz.func357, Tryz.ntmps357
  go_wp2_with (refine wpl_index8 rfl Tryz.underlying9 rfl (by omega) (by omega) ?_; intro m hm he; have HE := Lib.hid he; clear he)
  all_goals
    go_ret
    refine ⟨ret_int ?_, rfl⟩
  · rw [Lib.bitLen_shift56 x.toNat (by omega) (by omega), HE.out, show (x / 4294967296 / 65536 / 256).toNat = x.toNat / 72057594037927936 by omega]; omega
  · rw [Lib.bitLen_shift48 x.toNat (by omega) (by omega), HE.out, show (x / 4294967296 / 65536).toNat = x.toNat / 281474976710656 by omega]; omega
  · rw [Lib.bitLen_shift40 x.toNat (by omega) (by omega), HE.out, show (x / 4294967296 / 256).toNat = x.toNat / 1099511627776 by omega]; omega
  · rw [Lib.bitLen_shift32 x.toNat (by omega) (by omega), HE.out, show (x / 4294967296).toNat = x.toNat / 4294967296 by omega]; omega
  · rw [Lib.bitLen_shift24 x.toNat (by omega) (by omega), HE.out, show (x / 65536 / 256).toNat = x.toNat / 16777216 by omega]; omega
  · rw [Lib.bitLen_shift16 x.toNat (by omega) (by omega), HE.out, show (x / 65536).toNat = x.toNat / 65536 by omega]; omega
  · rw [Lib.bitLen_shift8 x.toNat (by omega) (by omega), HE.out, show (x / 256).toNat = x.toNat / 256 by omega]; omega
  · rw [HE.out]
end Go.Proofs.YtcnbmfaicbkhcaaGreatDoor

/-
  The walks of package bits: First, Last, Len, List, Split, Join.
-/
set_option maxRecDepth 100000
namespace Go.Proofs.YtcnbmfaicbkhcaaGreatDoor
open Go Go.RowKit
attribute [local irreducible] wpList Calls Code.wp

theorem firstW_far {x : Nat} {f : Int} (h : 64 ≤ f) : firstW x f = -1 := firstW_none fun j h1 h2 => by omega
/-- At a number of 0 to 63. -/
theorem first_at {x d : Nat} (hx : x < 2 ^ 64) (hd : d < 64) (w : World) (hT : Tab w) : Calls Tryz.prog 196 #[.int .u64 x, .int .i64 (d : Int)] w fun e w' => e = .returned (.int .i64 (firstW x d)) ∧ w = w' := by
  have hs := firstW_shift (f := d) hx
  have hq : (x : Int) / 2 ^ d = ((x / 2 ^ d : Nat) : Int) := by simp
  have hle : x / 2 ^ d < 2 ^ 64 := Nat.lt_of_le_of_lt (Nat.div_le_self _ _) hx
  generalize x / 2 ^ d = y at *
  have HS := Lib.hid hs
  clear hs
  by_cases h0 : y = 0
  · have hz : ((y : Int) == 0) = true := by simpa using h0
    have HH := Lib.hid h0
    clear h0
    go_enter Tryz.func196, Tryz.ntmps196
    go_wp2
    go_ret
    exact ⟨by rw [HS.out, if_pos HH.out]; rfl, rfl⟩
  · have hz : ((y : Int) == 0) = false := by simpa using h0
    have hc : Lib.ctz 64 y < 64 := (ctz_spec h0 hle).1
    have HH := Lib.hid h0
    clear h0
    go_enter Tryz.func196, Tryz.ntmps196
    go_wp2_with (first | (go_at_call 260; refine (tz_c _ hle _ hT).mono ?_; rintro e w' ⟨rfl, rfl⟩))
    go_ret
    exact ⟨by rw [HS.out, if_neg HH.out]; rfl, rfl⟩
theorem first_c {x : Nat} (hx : x < 2 ^ 64) (f : Int) (w : World) (hT : Tab w) : Calls Tryz.prog 196 #[.int .u64 x, .int .i64 f] w fun e w' => e = .returned (.int .i64 (firstW x f)) ∧ w = w' := by
  by_cases h1 : 64 ≤ f
  · have H := Lib.hid (firstW_far (x := x) h1)
    go_enter Tryz.func196, Tryz.ntmps196
    go_wp2
    go_ret
    exact ⟨by rw [H.out]; rfl, rfl⟩
  · by_cases h2 : 0 ≤ f
    · obtain ⟨d, rfl⟩ := Int.eq_ofNat_of_zero_le h2
      exact first_at hx (by omega) w hT
    · have h3 : f < 0 := by omega
      have e : firstW x f = firstW x ((0 : Nat) : Int) := by rw [firstW_max]; congr 1; omega
      have hs := firstW_shift (f := 0) hx
      rw [← e] at hs
      simp only [Nat.pow_zero, Nat.div_one, Nat.zero_add] at hs
      have HS := Lib.hid hs
      clear hs e h1 h2
      have hmx : max f 0 = 0 := by omega
      by_cases h0 : x = 0
      · have hz : ((x : Int) == 0) = true := by simpa using h0
        have HH := Lib.hid h0
        clear h0
        go_enter Tryz.func196, Tryz.ntmps196
        go_wp2
        go_ret
        exact ⟨by rw [HS.out, if_pos HH.out]; rfl, rfl⟩
      · have hz : ((x : Int) == 0) = false := by simpa using h0
        have hc : Lib.ctz 64 x < 64 := (ctz_spec h0 hx).1
        have HH := Lib.hid h0
        clear h0
        go_enter Tryz.func196, Tryz.ntmps196
        go_wp2_with (first | (go_at_call 260; refine (tz_c _ hx _ hT).mono ?_; rintro e w' ⟨rfl, rfl⟩))
        go_ret
        exact ⟨by rw [HS.out, if_neg HH.out]; rfl, rfl⟩
theorem downM_first (x i : Nat) (hi : i < 64) : downM (firstW x ((i : Int) + 1)) < downM (i : Int) := by
  have h1 := firstW_lt x ((i : Int) + 1)
  unfold downM
  by_cases h : firstW x ((i : Int) + 1) < 0
  · rw [if_pos h, if_neg (by omega)]; omega
  · rw [if_neg h, if_neg (by omega)]
    have := firstW_ge (x := x) (k := (i : Int) + 1) (by omega)
    omega
def digOk (a : Int) : Prop := 0 ≤ a ∧ a < 64
def digs (a b c d : Int) : Nat → Int
  | 0 => a
  | 1 => b
  | 2 => c
  | _ => d
def JoinPost (a b c d : Int) (w : World) (e : Ending) (w' : World) : Prop :=
  (digOk a ∧ digOk b ∧ digOk c ∧ digOk d → e = .returned (.tuple #[.int .i64 (a + 64 * (b + 64 * (c + 64 * d))), .bool true])) ∧
    (¬ (digOk a ∧ digOk b ∧ digOk c ∧ digOk d) → e = .returned (.tuple #[.int .i64 0, .bool false])) ∧ w = w'
end Go.Proofs.YtcnbmfaicbkhcaaGreatDoor
