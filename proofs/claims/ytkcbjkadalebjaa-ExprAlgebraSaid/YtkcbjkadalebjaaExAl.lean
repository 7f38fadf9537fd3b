/-
  ExprAlgebra: the walk.
-/
import Derived.Test.YtkcbjkadalebjaaExLw
set_option maxRecDepth 100000
namespace Go.Proofs.Ytkcbjkadalebjaa
open Go Go.RowKit
attribute [local irreducible] wpList Calls Code.wp

def al : List NodeE := [⟨1, [0]⟩, ⟨1, [1]⟩, ⟨1, [2]⟩, ⟨2, [0, 1, 2]⟩, ⟨5, [3]⟩, ⟨5, [0]⟩, ⟨5, [1]⟩, ⟨5, [2]⟩, ⟨3, [5, 6, 7]⟩, ⟨4, [0, 1]⟩, ⟨3, [0, 1]⟩, ⟨2, [0, 1]⟩, ⟨5, [11]⟩, ⟨2, [10, 12]⟩, ⟨2, [2, 1, 0]⟩, ⟨2, [0, 0, 1, 1, 2]⟩, ⟨4, [0, 1, 0]⟩, ⟨2, []⟩, ⟨3, []⟩, ⟨5, [0]⟩, ⟨5, [19]⟩, ⟨4, []⟩]
def al3 : List NodeE := al.take 3
def al4 : List NodeE := al.take 4
def al5 : List NodeE := al.take 5
def al6 : List NodeE := al.take 6
def al7 : List NodeE := al.take 7
def al8 : List NodeE := al.take 8
def al9 : List NodeE := al.take 9
def al10 : List NodeE := al.take 10
def al11 : List NodeE := al.take 11
def al12 : List NodeE := al.take 12
def al13 : List NodeE := al.take 13
def al14 : List NodeE := al.take 14
def al15 : List NodeE := al.take 15
def al16 : List NodeE := al.take 16
def al17 : List NodeE := al.take 17
def al18 : List NodeE := al.take 18
def al19 : List NodeE := al.take 19
def al20 : List NodeE := al.take 20
def al21 : List NodeE := al.take 21
def al22 : List NodeE := al.take 22
theorem al3_ok : ArOk al3 3 := (((ArOk.nil 0).addset (by decide)).addset (by decide)).addset (by decide)
theorem al3_v : addV al3 2 [0, 1, 2] = 3 := by decide +kernel
theorem al3_n : addN al3 2 [0, 1, 2] = al4 := rfl
theorem al4_v : addV al4 5 [3] = 4 := by decide +kernel
theorem al4_n : addN al4 5 [3] = al5 := rfl
theorem al5_v : addV al5 5 [0] = 5 := by decide +kernel
theorem al5_n : addN al5 5 [0] = al6 := rfl
theorem al6_v : addV al6 5 [1] = 6 := by decide +kernel
theorem al6_n : addN al6 5 [1] = al7 := rfl
theorem al7_v : addV al7 5 [2] = 7 := by decide +kernel
theorem al7_n : addN al7 5 [2] = al8 := rfl
theorem al8_v : addV al8 3 [5, 6, 7] = 8 := by decide +kernel
theorem al8_n : addN al8 3 [5, 6, 7] = al9 := rfl
theorem al9_v : addV al9 4 [0, 1] = 9 := by decide +kernel
theorem al9_n : addN al9 4 [0, 1] = al10 := rfl
theorem al10_v : addV al10 3 [0, 1] = 10 := by decide +kernel
theorem al10_n : addN al10 3 [0, 1] = al11 := rfl
theorem al11_v : addV al11 2 [0, 1] = 11 := by decide +kernel
theorem al11_n : addN al11 2 [0, 1] = al12 := rfl
theorem al12_v : addV al12 5 [11] = 12 := by decide +kernel
theorem al12_n : addN al12 5 [11] = al13 := rfl
theorem al13_v : addV al13 2 [10, 12] = 13 := by decide +kernel
theorem al13_n : addN al13 2 [10, 12] = al14 := rfl
theorem al14_v : addV al14 2 [2, 1, 0] = 14 := by decide +kernel
theorem al14_n : addN al14 2 [2, 1, 0] = al15 := rfl
theorem al15_v : addV al15 2 [0, 0, 1, 1, 2] = 15 := by decide +kernel
theorem al15_n : addN al15 2 [0, 0, 1, 1, 2] = al16 := rfl
theorem al16_v : addV al16 4 [0, 1, 0] = 16 := by decide +kernel
theorem al16_n : addN al16 4 [0, 1, 0] = al17 := rfl
theorem al17_v : addV al17 2 [] = 17 := by decide +kernel
theorem al17_n : addN al17 2 [] = al18 := rfl
theorem al18_v : addV al18 3 [] = 18 := by decide +kernel
theorem al18_n : addN al18 3 [] = al19 := rfl
theorem al19_v : addV al19 5 [0] = 19 := by decide +kernel
theorem al19_n : addN al19 5 [0] = al20 := rfl
theorem al20_v : addV al20 5 [19] = 20 := by decide +kernel
theorem al20_n : addN al20 5 [19] = al21 := rfl
theorem al21_v : addV al21 4 [] = 21 := by decide +kernel
theorem al21_n : addN al21 4 [] = al22 := rfl
theorem al4_ok : ArOk al4 3 := al3_n ▸ al3_ok.addop (k := 2) (kids := [0, 1, 2]) (by decide) (by decide)
theorem al5_ok : ArOk al5 3 := al4_n ▸ al4_ok.addop (k := 5) (kids := [3]) (by decide) (by decide)
theorem al6_ok : ArOk al6 3 := al5_n ▸ al5_ok.addop (k := 5) (kids := [0]) (by decide) (by decide)
theorem al7_ok : ArOk al7 3 := al6_n ▸ al6_ok.addop (k := 5) (kids := [1]) (by decide) (by decide)
theorem al8_ok : ArOk al8 3 := al7_n ▸ al7_ok.addop (k := 5) (kids := [2]) (by decide) (by decide)
theorem al9_ok : ArOk al9 3 := al8_n ▸ al8_ok.addop (k := 3) (kids := [5, 6, 7]) (by decide) (by decide)
theorem al10_ok : ArOk al10 3 := al9_n ▸ al9_ok.addop (k := 4) (kids := [0, 1]) (by decide) (by decide)
theorem al11_ok : ArOk al11 3 := al10_n ▸ al10_ok.addop (k := 3) (kids := [0, 1]) (by decide) (by decide)
theorem al12_ok : ArOk al12 3 := al11_n ▸ al11_ok.addop (k := 2) (kids := [0, 1]) (by decide) (by decide)
theorem al13_ok : ArOk al13 3 := al12_n ▸ al12_ok.addop (k := 5) (kids := [11]) (by decide) (by decide)
theorem al14_ok : ArOk al14 3 := al13_n ▸ al13_ok.addop (k := 2) (kids := [10, 12]) (by decide) (by decide)
theorem al15_ok : ArOk al15 3 := al14_n ▸ al14_ok.addop (k := 2) (kids := [2, 1, 0]) (by decide) (by decide)
theorem al16_ok : ArOk al16 3 := al15_n ▸ al15_ok.addop (k := 2) (kids := [0, 0, 1, 1, 2]) (by decide) (by decide)
theorem al17_ok : ArOk al17 3 := al16_n ▸ al16_ok.addop (k := 4) (kids := [0, 1, 0]) (by decide) (by decide)
theorem al18_ok : ArOk al18 3 := al17_n ▸ al17_ok.addop (k := 2) (kids := []) (by decide) (by decide)
theorem al19_ok : ArOk al19 3 := al18_n ▸ al18_ok.addop (k := 3) (kids := []) (by decide) (by decide)
theorem al20_ok : ArOk al20 3 := al19_n ▸ al19_ok.addop (k := 5) (kids := [0]) (by decide) (by decide)
theorem al21_ok : ArOk al21 3 := al20_n ▸ al20_ok.addop (k := 5) (kids := [19]) (by decide) (by decide)
theorem al22_ok : ArOk al22 3 := al21_n ▸ al21_ok.addop (k := 4) (kids := []) (by decide) (by decide)
def laS3 (S0 S1 S2 : List Nat) (s : Nat) : List Nat := if s = 0 then S0 else if s = 1 then S1 else S2
theorem al_tells (sb : Nat → Bool) : (tellsE sb al19).getD 4 false = (tellsE sb al19).getD 8 false ∧ (tellsE sb al19).getD 9 false = (tellsE sb al19).getD 13 false ∧ (tellsE sb al19).getD 14 false = (tellsE sb al19).getD 15 false ∧
    (tellsE sb al19).getD 16 false = (tellsE sb al19).getD 1 false ∧ (tellsE sb al19).getD 17 false = true ∧ (tellsE sb al19).getD 18 false = false ∧ (tellsE sb al21).getD 20 false = (tellsE sb al21).getD 0 false ∧ (tellsE sb al22).getD 21 false = false := by
  have e19 : tellsE sb al19 = tellsE (fun s => if s = 0 then sb 0 else if s = 1 then sb 1 else sb 2) al19 := rfl
  have e21 : tellsE sb al21 = tellsE (fun s => if s = 0 then sb 0 else if s = 1 then sb 1 else sb 2) al21 := rfl
  have e22 : tellsE sb al22 = tellsE (fun s => if s = 0 then sb 0 else if s = 1 then sb 1 else sb 2) al22 := rfl
  rw [e19, e21, e22]
  generalize sb 0 = a
  generalize sb 1 = b
  generalize sb 2 = c
  clear e19 e21 e22
  cases a <;> cases b <;> cases c <;> decide +kernel
/-- What the statement compares. -/
structure AlgF (Ss : Nat → List Nat) (i : Int) (v1 v2 v3 v4 v5 v6 : Bool) : Prop where
  a1 : exTell al19 Ss 4 i = v1
  b1 : exTell al19 Ss 8 i = v1
  a2 : exTell al19 Ss 9 i = v2
  b2 : exTell al19 Ss 13 i = v2
  a3 : exTell al19 Ss 14 i = v3
  b3 : exTell al19 Ss 15 i = v3
  a4 : exTell al19 Ss 16 i = v4
  b4 : exTell al19 Ss 1 i = v4
  a5 : exTell al19 Ss 17 i = v5
  a6 : exTell al19 Ss 18 i = false
  a7 : exTell al21 Ss 20 i = v6
  b7 : exTell al21 Ss 0 i = v6
  a8 : exTell al22 Ss 21 i = false
theorem ex_at {l : List NodeE} {Ss : Nat → List Nat} {n : Nat} (hn : n < l.length) (i : Int) : exTell l Ss (n : Int) i = (decide (0 ≤ i ∧ i < 16777216) && (tellsE (fun s => memS (Ss s) i) l).getD n false) := by
  unfold exTell
  rw [Int.toNat_natCast]
  congr 1
  rw [decide_eq_decide]
  omega
theorem alg_facts (Ss : Nat → List Nat) (i : Int) : ∃ v1 v2 v3 v4 v6, AlgF Ss i v1 v2 v3 v4 (decide (0 ≤ i ∧ i < 16777216)) v6 := by
  have h := al_tells fun s => memS (Ss s) i
  obtain ⟨h1, h2, h3, h4, h5, h6, h7, h8⟩ := h
  have e : ∀ n : Nat, n < 19 → exTell al19 Ss (n : Int) i = (decide (0 ≤ i ∧ i < 16777216) && (tellsE (fun s => memS (Ss s) i) al19).getD n false) := fun n hn => ex_at (show n < al19.length from hn) i
  have e2 : ∀ n : Nat, n < 21 → exTell al21 Ss (n : Int) i = (decide (0 ≤ i ∧ i < 16777216) && (tellsE (fun s => memS (Ss s) i) al21).getD n false) := fun n hn => ex_at (show n < al21.length from hn) i
  have e3 : ∀ n : Nat, n < 22 → exTell al22 Ss (n : Int) i = (decide (0 ≤ i ∧ i < 16777216) && (tellsE (fun s => memS (Ss s) i) al22).getD n false) := fun n hn => ex_at (show n < al22.length from hn) i
  refine ⟨_, _, _, _, _, rfl, ?_, rfl, ?_, rfl, ?_, rfl, ?_, ?_, ?_, rfl, ?_, ?_⟩
  · rw [show (8 : Int) = ((8 : Nat) : Int) from rfl, show (4 : Int) = ((4 : Nat) : Int) from rfl, e 8 (by decide), e 4 (by decide), h1]
  · rw [show (13 : Int) = ((13 : Nat) : Int) from rfl, show (9 : Int) = ((9 : Nat) : Int) from rfl, e 13 (by decide), e 9 (by decide), h2]
  · rw [show (15 : Int) = ((15 : Nat) : Int) from rfl, show (14 : Int) = ((14 : Nat) : Int) from rfl, e 15 (by decide), e 14 (by decide), h3]
  · rw [show (1 : Int) = ((1 : Nat) : Int) from rfl, show (16 : Int) = ((16 : Nat) : Int) from rfl, e 1 (by decide), e 16 (by decide), h4]
  · rw [show (17 : Int) = ((17 : Nat) : Int) from rfl, e 17 (by decide), h5, Bool.and_true]
  · rw [show (18 : Int) = ((18 : Nat) : Int) from rfl, e 18 (by decide), h6, Bool.and_false]
  · rw [show (0 : Int) = ((0 : Nat) : Int) from rfl, show (20 : Int) = ((20 : Nat) : Int) from rfl, e2 0 (by decide), e2 20 (by decide), h7]
  · rw [show (21 : Int) = ((21 : Nat) : Int) from rfl, e3 21 (by decide), h8, Bool.and_false]
theorem al1_eq : ([] : List NodeE) ++ [⟨1, [0]⟩] = [⟨1, [0]⟩] := rfl
theorem al3_eq : [(⟨1, [0]⟩ : NodeE), ⟨1, [1]⟩] ++ [⟨1, [2]⟩] = al3 := rfl
attribute [local irreducible] addV addN exTell setS addS remS memS okN laS3 al3 al4 al5 al6 al7 al8 al9 al10 al11 al12 al13 al14 al15 al16 al17 al18 al19 al20 al21 al22
theorem so3 {w : World} {w1 w2 w3 : World} {T0 T1 T2 : Nat} {S0 S1 S2 : List Nat} {L M K : List As} (h0 : St w1 (HSet T0 S0 :: L) w) (h1 : St w2 (HSet T1 S1 :: M) w) (h2 : St w3 (HSet T2 S2 :: K) w) : SetsOk w [ptr T0, ptr T1, ptr T2] (laS3 S0 S1 S2) := by
  have e0 : laS3 S0 S1 S2 0 = S0 := by unfold laS3; rfl
  have e1 : laS3 S0 S1 S2 1 = S1 := by unfold laS3; rfl
  have e2 : laS3 S0 S1 S2 2 = S2 := by unfold laS3; rfl
  exact ((SetsOk.nil.snoc (show SetW w (ptr T0) (laS3 S0 S1 S2 0) from e0.symm ▸ SetW.here h0)).snoc (show SetW w (ptr T1) (laS3 S0 S1 S2 1) from e1.symm ▸ SetW.here h1)).snoc (show SetW w (ptr T2) (laS3 S0 S1 S2 2) from e2.symm ▸ SetW.here h2)
set_option maxHeartbeats 4000000 in
theorem ealgebra_c {w0 : World} {va vb vc : Value} {za zb zc : List Int} (hva : IntArg w0 va za) (hvb : IntArg w0 vb zb) (hvc : IntArg w0 vc zc) (i : Int) : Calls Try.prog 4 #[va, vb, vc, .int .i64 i] w0 (LawPost w0) := by
  obtain ⟨A, na, ca, rfl, hlena, hnca, hcma, hra, hba⟩ := hva
  obtain ⟨B, nb, cb, rfl, hlenb, hncb, hcmb, hrb, hbb⟩ := hvb
  obtain ⟨C, nc, cc, rfl, hlenc, hncc, hcmc, hrc, hbc⟩ := hvc
  have HLa := Lib.hid hlena
  have HLb := Lib.hid hlenb
  have HLc := Lib.hid hlenc
  unfold maxLen at hcma hcmb hcmc
  have hs := St.start w0
  clear hba hbb hbc hlena hlenb hlenc
  by_cases h40 : 40 < na ∨ 40 < nb ∨ 40 < nc
  · have hd : (decide (40 < (na : Int)) = true) ∨ (decide (40 < (na : Int)) = false ∧ decide (40 < (nb : Int)) = true) ∨ (decide (40 < (na : Int)) = false ∧ decide (40 < (nb : Int)) = false ∧ decide (40 < (nc : Int)) = true) := by
      simp only [decide_eq_true_eq, decide_eq_false_iff_not]
      omega
    clear h40
    rcases hd with h1 | ⟨h1, h2⟩ | ⟨h1, h2, h3⟩
    all_goals
      go_enter Try.func4, Try.ntmps4
      go_wp2_with (first
        | (go_at_call 11; refine (awake3 _).mono ?_; rintro e w' ⟨rfl, hg⟩; replace hs := hs.grew hg; clear hg))
      go_ret
      exact ⟨rfl, hs⟩
  · have h1 : decide (40 < (na : Int)) = false := decide_eq_false (by omega)
    have h2 : decide (40 < (nb : Int)) = false := decide_eq_false (by omega)
    have h3 : decide (40 < (nc : Int)) = false := decide_eq_false (by omega)
    have a1 : na ≤ 40 := by omega
    have a2 : nb ≤ 40 := by omega
    have a3 : nc ≤ 40 := by omega
    clear h40 hnca hncb hncc
    go_enter Try.func4, Try.ntmps4
    have tka : True := trivial
    have tkb : True := trivial
    have tkc : True := trivial
    go_upto_region 7 with (first
      | (go_at_call 12; refine (exnew_c hs).mono ?_; clear hs; rintro e w' ⟨D, rfl, hs⟩)
      | (clear tka; go_at_call 13; refine (new_v hs (hra.any _) HLa (by unfold maxLen; omega) (Lib.hid rfl)).mono ?_; clear hs; rintro e w' ⟨T0, rfl, hs⟩; replace hs := hs.rot)
      | (go_at_call 14; refine (exset_v (v := 0) (l' := [⟨1, [0]⟩]) (ss' := [ptr T0]) hs _ (Lib.hid rfl) (Lib.hid al1_eq) (Lib.hid rfl) (by decide) (by decide)).mono ?_; clear hs; rintro e w' ⟨rfl, hs⟩)
      | (clear tkb; go_at_call 13; refine (new_v hs (hrb.any _) HLb (by unfold maxLen; omega) (Lib.hid rfl)).mono ?_; clear hs; rintro e w' ⟨T1, rfl, hs⟩; replace hs := hs.rot)
      | (go_at_call 14; refine (exset_v (v := 1) (l' := [⟨1, [0]⟩, ⟨1, [1]⟩]) (ss' := [ptr T0, ptr T1]) hs _ (Lib.hid rfl) (Lib.hid rfl) (Lib.hid rfl) (show 1 < 1000 by decide) (show 1 ≤ 1000000 by decide)).mono ?_; clear hs; rintro e w' ⟨rfl, hs⟩)
      | (clear tkc; go_at_call 13; refine (new_v hs (hrc.any _) HLc (by unfold maxLen; omega) (Lib.hid rfl)).mono ?_; clear hs; rintro e w' ⟨T2, rfl, hs⟩; replace hs := hs.rot)
      | (go_at_call 14; refine (exset_v (v := 2) (l' := al3) (ss' := [ptr T0, ptr T1, ptr T2]) hs _ (Lib.hid rfl) (Lib.hid al3_eq) (Lib.hid rfl) (show 2 < 1000 by decide) (show 2 ≤ 1000000 by decide)).mono ?_; clear hs; rintro e w' ⟨rfl, hs⟩))
    obtain ⟨v1, v2, v3, v4, v6, HA⟩ := alg_facts (laS3 (setS za) (setS zb) (setS zc)) i
    have HF := Lib.hid HA
    clear HA hra hrb hrc HLa HLb HLc a1 a2 a3 h1 h2 h3
    generalize setS za = S0 at *
    generalize setS zb = S1 at *
    generalize setS zc = S2 at *
    have tk3 : True := trivial
    have tk8 : True := trivial
    have tk9 : True := trivial
    have tk10 : True := trivial
    have tk11 : True := trivial
    have tk13 : True := trivial
    have tk14 : True := trivial
    have tk15 : True := trivial
    have tk16 : True := trivial
    go_upto_region 8 with (first
      | (clear tk3; refine wpl_buildN (vs := [.int .i64 0, .int .i64 1, .int .i64 2]) elem24 rfl rfl (by decide) (by decide) (by simp <;> (repeat' apply And.intro) <;> rfl) hs ?_; clear hs; intro gb3 w3 hs; replace hs := hs.rot)
      | (go_at_call 16; refine (and_c (kids := [0, 1, 2]) (A := some ⟨gb3, 0, none⟩) (m := 3) hs (fun h => nomatch h) (Lib.hid rfl) (by decide) (RdS.blk.tail) (Lib.hid al3_v) (Lib.hid al3_n)).mono ?_; clear hs; rintro e w' ⟨rfl, hs⟩; replace hs := hs.rot.drop)
      | (go_at_call 15; refine (not_c hs 3 (Lib.hid al4_v) (Lib.hid al4_n)).mono ?_; clear hs; rintro e w' ⟨rfl, hs⟩)
      | (go_at_call 15; refine (not_c hs 0 (Lib.hid al5_v) (Lib.hid al5_n)).mono ?_; clear hs; rintro e w' ⟨rfl, hs⟩)
      | (go_at_call 15; refine (not_c hs 1 (Lib.hid al6_v) (Lib.hid al6_n)).mono ?_; clear hs; rintro e w' ⟨rfl, hs⟩)
      | (go_at_call 15; refine (not_c hs 2 (Lib.hid al7_v) (Lib.hid al7_n)).mono ?_; clear hs; rintro e w' ⟨rfl, hs⟩)
      | (clear tk8; refine wpl_buildN (vs := [.int .i64 5, .int .i64 6, .int .i64 7]) elem24 rfl rfl (by decide) (by decide) (by simp <;> (repeat' apply And.intro) <;> rfl) hs ?_; clear hs; intro gb8 w3 hs; replace hs := hs.rot)
      | (go_at_call 19; refine (or_c (kids := [5, 6, 7]) (A := some ⟨gb8, 0, none⟩) (m := 3) hs (fun h => nomatch h) (Lib.hid rfl) (by decide) (RdS.blk.tail) (Lib.hid al8_v) (Lib.hid al8_n)).mono ?_; clear hs; rintro e w' ⟨rfl, hs⟩; replace hs := hs.rot.drop))
    go_upto_region 9 with (first
      | (clear tk9; refine wpl_buildN (vs := [.int .i64 0, .int .i64 1]) elem24 rfl rfl (by decide) (by decide) (by simp <;> (repeat' apply And.intro) <;> rfl) hs ?_; clear hs; intro gb9 w3 hs; replace hs := hs.rot)
      | (go_at_call 20; refine (xor_c (kids := [0, 1]) (A := some ⟨gb9, 0, none⟩) (m := 2) hs (fun h => nomatch h) (Lib.hid rfl) (by decide) (RdS.blk.tail) (Lib.hid al9_v) (Lib.hid al9_n)).mono ?_; clear hs; rintro e w' ⟨rfl, hs⟩; replace hs := hs.rot.drop)
      | (clear tk10; refine wpl_buildN (vs := [.int .i64 0, .int .i64 1]) elem24 rfl rfl (by decide) (by decide) (by simp <;> (repeat' apply And.intro) <;> rfl) hs ?_; clear hs; intro gb10 w3 hs; replace hs := hs.rot)
      | (go_at_call 19; refine (or_c (kids := [0, 1]) (A := some ⟨gb10, 0, none⟩) (m := 2) hs (fun h => nomatch h) (Lib.hid rfl) (by decide) (RdS.blk.tail) (Lib.hid al10_v) (Lib.hid al10_n)).mono ?_; clear hs; rintro e w' ⟨rfl, hs⟩; replace hs := hs.rot.drop)
      | (clear tk11; refine wpl_buildN (vs := [.int .i64 0, .int .i64 1]) elem24 rfl rfl (by decide) (by decide) (by simp <;> (repeat' apply And.intro) <;> rfl) hs ?_; clear hs; intro gb11 w3 hs; replace hs := hs.rot)
      | (go_at_call 16; refine (and_c (kids := [0, 1]) (A := some ⟨gb11, 0, none⟩) (m := 2) hs (fun h => nomatch h) (Lib.hid rfl) (by decide) (RdS.blk.tail) (Lib.hid al11_v) (Lib.hid al11_n)).mono ?_; clear hs; rintro e w' ⟨rfl, hs⟩; replace hs := hs.rot.drop)
      | (go_at_call 15; refine (not_c hs 11 (Lib.hid al12_v) (Lib.hid al12_n)).mono ?_; clear hs; rintro e w' ⟨rfl, hs⟩)
      | (clear tk13; refine wpl_buildN (vs := [.int .i64 10, .int .i64 12]) elem24 rfl rfl (by decide) (by decide) (by simp <;> (repeat' apply And.intro) <;> rfl) hs ?_; clear hs; intro gb13 w3 hs; replace hs := hs.rot)
      | (go_at_call 16; refine (and_c (kids := [10, 12]) (A := some ⟨gb13, 0, none⟩) (m := 2) hs (fun h => nomatch h) (Lib.hid rfl) (by decide) (RdS.blk.tail) (Lib.hid al13_v) (Lib.hid al13_n)).mono ?_; clear hs; rintro e w' ⟨rfl, hs⟩; replace hs := hs.rot.drop))
    go_upto_region 10 with (first
      | (clear tk14; refine wpl_buildN (vs := [.int .i64 2, .int .i64 1, .int .i64 0]) elem24 rfl rfl (by decide) (by decide) (by simp <;> (repeat' apply And.intro) <;> rfl) hs ?_; clear hs; intro gb14 w3 hs; replace hs := hs.rot)
      | (go_at_call 16; refine (and_c (kids := [2, 1, 0]) (A := some ⟨gb14, 0, none⟩) (m := 3) hs (fun h => nomatch h) (Lib.hid rfl) (by decide) (RdS.blk.tail) (Lib.hid al14_v) (Lib.hid al14_n)).mono ?_; clear hs; rintro e w' ⟨rfl, hs⟩; replace hs := hs.rot.drop)
      | (clear tk15; refine wpl_buildN (vs := [.int .i64 0, .int .i64 0, .int .i64 1, .int .i64 1, .int .i64 2]) elem24 rfl rfl (by decide) (by decide) (by simp <;> (repeat' apply And.intro) <;> rfl) hs ?_; clear hs; intro gb15 w3 hs; replace hs := hs.rot)
      | (go_at_call 16; refine (and_c (kids := [0, 0, 1, 1, 2]) (A := some ⟨gb15, 0, none⟩) (m := 5) hs (fun h => nomatch h) (Lib.hid rfl) (by decide) (RdS.blk.tail) (Lib.hid al15_v) (Lib.hid al15_n)).mono ?_; clear hs; rintro e w' ⟨rfl, hs⟩; replace hs := hs.rot.drop))
    go_upto_region 12 with (first
      | (clear tk16; refine wpl_buildN (vs := [.int .i64 0, .int .i64 1, .int .i64 0]) elem24 rfl rfl (by decide) (by decide) (by simp <;> (repeat' apply And.intro) <;> rfl) hs ?_; clear hs; intro gb16 w3 hs; replace hs := hs.rot)
      | (go_at_call 20; refine (xor_c (kids := [0, 1, 0]) (A := some ⟨gb16, 0, none⟩) (m := 3) hs (fun h => nomatch h) (Lib.hid rfl) (by decide) (RdS.blk.tail) (Lib.hid al16_v) (Lib.hid al16_n)).mono ?_; clear hs; rintro e w' ⟨rfl, hs⟩; replace hs := hs.rot.drop)
      | (go_at_call 16; refine (and_c (kids := []) (A := none) (m := 0) hs (fun _ => ⟨rfl, rfl⟩) (Lib.hid rfl) (by decide) RdS.nil (Lib.hid al17_v) (Lib.hid al17_n)).mono ?_; clear hs; rintro e w' ⟨rfl, hs⟩)
      | (go_at_call 19; refine (or_c (kids := []) (A := none) (m := 0) hs (fun _ => ⟨rfl, rfl⟩) (Lib.hid rfl) (by decide) RdS.nil (Lib.hid al18_v) (Lib.hid al18_n)).mono ?_; clear hs; rintro e w' ⟨rfl, hs⟩))
    have hso : SetsOk w' [ptr T0, ptr T1, ptr T2] (laS3 S0 S1 S2) := so3 hs.up3 hs.up2 hs.rot
    by_cases h0 : 0 ≤ i
    · have i1 : decide ((0 : Int) ≤ i) = true := decide_eq_true h0
      have e : decide (0 ≤ i ∧ i < 16777216) = decide (i < (16777216 : Int)) := by rw [decide_eq_decide]; omega
      rw [e] at HF
      clear e h0
      obtain ⟨q, i2⟩ : ∃ q, decide (i < (16777216 : Int)) = q := ⟨_, rfl⟩
      rw [i2] at HF
      go_wp2_with (first
        | (go_at_call 17; refine (exhas_v hs al19_ok hso (Lib.hid HF.out.a1)).mono ?_; rintro e w' ⟨rfl, hg⟩; replace hs := hs.grew hg; replace hso := hso.grew hg; clear hg)
        | (go_at_call 17; refine (exhas_v hs al19_ok hso (Lib.hid HF.out.b1)).mono ?_; rintro e w' ⟨rfl, hg⟩; replace hs := hs.grew hg; replace hso := hso.grew hg; clear hg)
        | (go_at_call 17; refine (exhas_v hs al19_ok hso (Lib.hid HF.out.a2)).mono ?_; rintro e w' ⟨rfl, hg⟩; replace hs := hs.grew hg; replace hso := hso.grew hg; clear hg)
        | (go_at_call 17; refine (exhas_v hs al19_ok hso (Lib.hid HF.out.b2)).mono ?_; rintro e w' ⟨rfl, hg⟩; replace hs := hs.grew hg; replace hso := hso.grew hg; clear hg)
        | (go_at_call 17; refine (exhas_v hs al19_ok hso (Lib.hid HF.out.a3)).mono ?_; rintro e w' ⟨rfl, hg⟩; replace hs := hs.grew hg; replace hso := hso.grew hg; clear hg)
        | (go_at_call 17; refine (exhas_v hs al19_ok hso (Lib.hid HF.out.b3)).mono ?_; rintro e w' ⟨rfl, hg⟩; replace hs := hs.grew hg; replace hso := hso.grew hg; clear hg)
        | (go_at_call 17; refine (exhas_v hs al19_ok hso (Lib.hid HF.out.a4)).mono ?_; rintro e w' ⟨rfl, hg⟩; replace hs := hs.grew hg; replace hso := hso.grew hg; clear hg)
        | (go_at_call 17; refine (exhas_v hs al19_ok hso (Lib.hid HF.out.b4)).mono ?_; rintro e w' ⟨rfl, hg⟩; replace hs := hs.grew hg; replace hso := hso.grew hg; clear hg)
        | (go_at_call 17; refine (exhas_v hs al19_ok hso (Lib.hid HF.out.a5)).mono ?_; rintro e w' ⟨rfl, hg⟩; replace hs := hs.grew hg; replace hso := hso.grew hg; clear hg)
        | (go_at_call 17; refine (exhas_v hs al19_ok hso (Lib.hid HF.out.a6)).mono ?_; rintro e w' ⟨rfl, hg⟩; replace hs := hs.grew hg; replace hso := hso.grew hg; clear hg)
        | (go_at_call 15; refine (not_c hs 0 (Lib.hid al19_v) (Lib.hid al19_n)).mono ?_; clear hs; rintro e w' ⟨rfl, hs⟩)
        | (go_at_call 15; refine (not_c hs 19 (Lib.hid al20_v) (Lib.hid al20_n)).mono ?_; clear hs; rintro e w' ⟨rfl, hs⟩; clear hso; have hso : SetsOk w' [ptr T0, ptr T1, ptr T2] (laS3 S0 S1 S2) := so3 hs.up3 hs.up2 hs.rot)
        | (go_at_call 17; refine (exhas_v hs al21_ok hso (Lib.hid HF.out.a7)).mono ?_; rintro e w' ⟨rfl, hg⟩; replace hs := hs.grew hg; replace hso := hso.grew hg; clear hg)
        | (go_at_call 17; refine (exhas_v hs al21_ok hso (Lib.hid HF.out.b7)).mono ?_; rintro e w' ⟨rfl, hg⟩; replace hs := hs.grew hg; replace hso := hso.grew hg; clear hg)
        | (go_at_call 20; refine (xor_c (kids := []) (A := none) (m := 0) hs (fun _ => ⟨rfl, rfl⟩) (Lib.hid rfl) (by decide) RdS.nil (Lib.hid al21_v) (Lib.hid al21_n)).mono ?_; clear hs; rintro e w' ⟨rfl, hs⟩; clear hso; have hso : SetsOk w' [ptr T0, ptr T1, ptr T2] (laS3 S0 S1 S2) := so3 hs.up3 hs.up2 hs.rot)
        | (go_at_call 17; refine (exhas_v hs al22_ok hso (Lib.hid HF.out.a8)).mono ?_; rintro e w' ⟨rfl, hg⟩; replace hs := hs.grew hg; replace hso := hso.grew hg; clear hg)
        | (go_at_call 11; refine (awake3 _).mono ?_; rintro e w' ⟨rfl, hg⟩; replace hs := hs.grew hg; clear hg))
      go_ret
      exact ⟨rfl, hs.nothing⟩
    · have i1 : decide ((0 : Int) ≤ i) = false := decide_eq_false h0
      rw [decide_eq_false (fun h => h0 h.1)] at HF
      clear h0
      go_wp2_with (first
        | (go_at_call 17; refine (exhas_v hs al19_ok hso (Lib.hid HF.out.a1)).mono ?_; rintro e w' ⟨rfl, hg⟩; replace hs := hs.grew hg; replace hso := hso.grew hg; clear hg)
        | (go_at_call 17; refine (exhas_v hs al19_ok hso (Lib.hid HF.out.b1)).mono ?_; rintro e w' ⟨rfl, hg⟩; replace hs := hs.grew hg; replace hso := hso.grew hg; clear hg)
        | (go_at_call 17; refine (exhas_v hs al19_ok hso (Lib.hid HF.out.a2)).mono ?_; rintro e w' ⟨rfl, hg⟩; replace hs := hs.grew hg; replace hso := hso.grew hg; clear hg)
        | (go_at_call 17; refine (exhas_v hs al19_ok hso (Lib.hid HF.out.b2)).mono ?_; rintro e w' ⟨rfl, hg⟩; replace hs := hs.grew hg; replace hso := hso.grew hg; clear hg)
        | (go_at_call 17; refine (exhas_v hs al19_ok hso (Lib.hid HF.out.a3)).mono ?_; rintro e w' ⟨rfl, hg⟩; replace hs := hs.grew hg; replace hso := hso.grew hg; clear hg)
        | (go_at_call 17; refine (exhas_v hs al19_ok hso (Lib.hid HF.out.b3)).mono ?_; rintro e w' ⟨rfl, hg⟩; replace hs := hs.grew hg; replace hso := hso.grew hg; clear hg)
        | (go_at_call 17; refine (exhas_v hs al19_ok hso (Lib.hid HF.out.a4)).mono ?_; rintro e w' ⟨rfl, hg⟩; replace hs := hs.grew hg; replace hso := hso.grew hg; clear hg)
        | (go_at_call 17; refine (exhas_v hs al19_ok hso (Lib.hid HF.out.b4)).mono ?_; rintro e w' ⟨rfl, hg⟩; replace hs := hs.grew hg; replace hso := hso.grew hg; clear hg)
        | (go_at_call 17; refine (exhas_v hs al19_ok hso (Lib.hid HF.out.a5)).mono ?_; rintro e w' ⟨rfl, hg⟩; replace hs := hs.grew hg; replace hso := hso.grew hg; clear hg)
        | (go_at_call 17; refine (exhas_v hs al19_ok hso (Lib.hid HF.out.a6)).mono ?_; rintro e w' ⟨rfl, hg⟩; replace hs := hs.grew hg; replace hso := hso.grew hg; clear hg)
        | (go_at_call 15; refine (not_c hs 0 (Lib.hid al19_v) (Lib.hid al19_n)).mono ?_; clear hs; rintro e w' ⟨rfl, hs⟩)
        | (go_at_call 15; refine (not_c hs 19 (Lib.hid al20_v) (Lib.hid al20_n)).mono ?_; clear hs; rintro e w' ⟨rfl, hs⟩; clear hso; have hso : SetsOk w' [ptr T0, ptr T1, ptr T2] (laS3 S0 S1 S2) := so3 hs.up3 hs.up2 hs.rot)
        | (go_at_call 17; refine (exhas_v hs al21_ok hso (Lib.hid HF.out.a7)).mono ?_; rintro e w' ⟨rfl, hg⟩; replace hs := hs.grew hg; replace hso := hso.grew hg; clear hg)
        | (go_at_call 17; refine (exhas_v hs al21_ok hso (Lib.hid HF.out.b7)).mono ?_; rintro e w' ⟨rfl, hg⟩; replace hs := hs.grew hg; replace hso := hso.grew hg; clear hg)
        | (go_at_call 20; refine (xor_c (kids := []) (A := none) (m := 0) hs (fun _ => ⟨rfl, rfl⟩) (Lib.hid rfl) (by decide) RdS.nil (Lib.hid al21_v) (Lib.hid al21_n)).mono ?_; clear hs; rintro e w' ⟨rfl, hs⟩; clear hso; have hso : SetsOk w' [ptr T0, ptr T1, ptr T2] (laS3 S0 S1 S2) := so3 hs.up3 hs.up2 hs.rot)
        | (go_at_call 17; refine (exhas_v hs al22_ok hso (Lib.hid HF.out.a8)).mono ?_; rintro e w' ⟨rfl, hg⟩; replace hs := hs.grew hg; replace hso := hso.grew hg; clear hg)
        | (go_at_call 11; refine (awake3 _).mono ?_; rintro e w' ⟨rfl, hg⟩; replace hs := hs.grew hg; clear hg))
      go_ret
      exact ⟨rfl, hs.nothing⟩
end Go.Proofs.Ytkcbjkadalebjaa
