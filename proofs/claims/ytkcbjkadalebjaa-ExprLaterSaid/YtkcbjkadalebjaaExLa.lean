/-
  ExprLater: the walk.
-/
import Derived.Test.YtkcbjkadalebjaaExLw
set_option maxRecDepth 100000
namespace Go.Proofs.Ytkcbjkadalebjaa
open Go Go.RowKit
attribute [local irreducible] wpList Calls Code.wp

def la1 : List NodeE := [⟨1, [0]⟩]
def la2 : List NodeE := [⟨1, [0]⟩, ⟨5, [0]⟩]
def la3 : List NodeE := [⟨1, [0]⟩, ⟨5, [0]⟩, ⟨1, [1]⟩]
def laS (S : List Nat) (s : Nat) : List Nat := if s = 0 then S else []
theorem la_has {S : List Nat} {m : Nat} (hm : m < 16777216) : exTell la2 (laS S) 0 m = memS S m ∧ exTell la2 (laS S) 1 m = !memS S m ∧ exTell la3 (laS S) 2 m = false := by
  have h : ∀ (n : Int) (k : Nat), 0 ≤ n → n < k → decide (0 ≤ n ∧ n < k ∧ 0 ≤ (m : Int) ∧ (m : Int) < 16777216) = true := fun n k h1 h2 => decide_eq_true ⟨h1, h2, by omega, by omega⟩
  refine ⟨?_, ?_, ?_⟩
  · unfold exTell
    rw [h 0 la2.length (by decide) (by decide)]
    rfl
  · unfold exTell
    rw [h 1 la2.length (by decide) (by decide)]
    rfl
  · unfold exTell
    rw [h 2 la3.length (by decide) (by decide)]
    rfl
theorem la1_ok : ArOk la1 1 := (ArOk.nil 0).addset (by decide)
theorem la2_ok : ArOk la2 1 := la1_ok.addop (k := 5) (kids := [0]) (by decide) (by decide)
theorem la3_ok : ArOk la3 2 := la2_ok.addset (by decide)
theorem la_v : addV la1 5 [0] = 1 := by decide +kernel
theorem la_n : addN la1 5 [0] = la2 := rfl
theorem la1_eq : ([] : List NodeE) ++ [⟨1, [0]⟩] = la1 := rfl
theorem la3_eq : la2 ++ [⟨1, [1]⟩] = la3 := rfl
theorem la2_len : ((la2.length : Nat) : Int) = 2 := rfl
theorem la2_lt : la2.length < 1000 := by decide
theorem mem_add {S : List Nat} {m : Nat} (h : m < 16777216) : memS (addS S m) m = true := by
  unfold addS okN
  rw [if_pos (decide_eq_true ⟨by omega, by omega⟩), Int.toNat_natCast]
  exact memS_nat.2 (mem_insS.2 (.inl rfl))
theorem mem_rem {S : List Nat} {m : Nat} (h : m < 16777216) : memS (remS S m) m = false := by
  unfold remS okN
  rw [if_pos (decide_eq_true ⟨by omega, by omega⟩), Int.toNat_natCast]
  cases hb : memS (delS m S) m with
  | false => rfl
  | true => exact absurd rfl (mem_delS.1 (memS_nat.1 hb)).2
theorem laso {w0 w : World} {T : Nat} {S : List Nat} {L : List As} (hs : St w0 (HSet T S :: L) w) : SetsOk w [ptr T] (laS S) := SetsOk.nil.snoc (SetW.here hs)
attribute [local irreducible] addV addN exTell setS la1 la2 la3 addS remS memS okN
set_option maxHeartbeats 2000000 in
theorem elater_c {w0 : World} {va : Value} {za : List Int} (hva : IntArg w0 va za) (z : Int) : Calls Try.prog 6 #[va, .int .i64 z] w0 (LawPost w0) := by
  obtain ⟨A, na, ca, rfl, hlen, hnc, hcm, hra, hba⟩ := hva
  have HL := Lib.hid hlen
  unfold maxLen at hcm
  have hs := St.start w0
  have hand := and_ffffff z
  have hm := kk24_lt z
  generalize kk24 z = m at hand hm
  clear hba hlen
  by_cases h40 : 40 < na
  · go_enter Try.func6, Try.ntmps6
    go_wp2_with (first
      | (go_at_call 11; refine (awake3 _).mono ?_; rintro e w' ⟨rfl, hg⟩; replace hs := hs.grew hg; clear hg))
    go_ret
    exact ⟨rfl, hs⟩
  · obtain ⟨S, HS⟩ : ∃ S, Hid (setS za = S) := ⟨_, rfl⟩
    obtain ⟨S2, HS2⟩ : ∃ S, Hid (addS (setS za) m = S) := ⟨_, rfl⟩
    obtain ⟨S3, HS3⟩ : ∃ S, Hid (remS S2 m = S) := ⟨_, rfl⟩
    obtain ⟨E0, E1, _⟩ := la_has (S := S) hm
    obtain ⟨F0, F1, _⟩ := la_has (S := S2) hm
    obtain ⟨G0, G1, G2⟩ := la_has (S := S3) hm
    have hA := mem_add (S := setS za) hm
    rw [HS2.out] at hA
    have hR := mem_rem (S := S2) hm
    rw [HS3.out] at hR
    rw [HS.out] at HS2
    rw [hA] at F0 F1
    rw [hR] at G0 G1
    replace F1 : exTell la2 (laS S2) 1 m = false := F1
    replace G1 : exTell la2 (laS S3) 1 m = true := G1
    replace F0 := Lib.hid F0
    replace F1 := Lib.hid F1
    replace G0 := Lib.hid G0
    replace G1 := Lib.hid G1
    replace G2 := Lib.hid G2
    have HM := Lib.hid hm
    clear hA hR hm
    obtain ⟨b, hb⟩ : ∃ b, memS S m = b := ⟨_, rfl⟩
    rw [hb] at E0 E1
    replace E0 := Lib.hid E0
    have HB := Lib.hid hb
    clear hb
    have HV := Lib.hid la_v
    have HN := Lib.hid la_n
    cases b
    all_goals
      replace E1 := Lib.hid (E1.trans (by rfl : _ = (_ : Bool)))
      simp only [Bool.not_true, Bool.not_false] at E1
      go_enter Try.func6, Try.ntmps6
      go_upto_region 11 with (first
        | (go_at_call 12; refine (exnew_c hs).mono ?_; clear hs; rintro e w' ⟨D, rfl, hs⟩)
        | (go_at_call 13; refine (new_v hs (hra.any _) HL (by unfold maxLen; omega) HS).mono ?_; clear hs; rintro e w' ⟨T1, rfl, hs⟩; replace hs := hs.rot)
        | (go_at_call 14; refine (exset_v (v := 0) (l' := la1) (ss' := [ptr T1]) hs _ (Lib.hid rfl) (Lib.hid la1_eq) (Lib.hid rfl) (by decide) (by decide)).mono ?_; clear hs; rintro e w' ⟨rfl, hs⟩)
        | (go_at_call 15; refine (not_c hs 0 HV HN).mono ?_; clear hs; rintro e w' ⟨rfl, hs⟩)
        | (go_at_call 18; refine (hhas_v hs.rot HB).mono ?_; rintro e w' ⟨rfl, hg⟩; replace hs := hs.grew hg; clear hg; have hso := laso hs.rot))
      go_upto_region 14 with (first
        | (go_at_call 17; refine (exhas_v hs la2_ok hso E0).mono ?_; rintro e w' ⟨rfl, hg⟩; replace hs := hs.grew hg; replace hso := hso.grew hg; clear hg)
        | (go_at_call 17; refine (exhas_v hs la2_ok hso E1).mono ?_; rintro e w' ⟨rfl, hg⟩; replace hs := hs.grew hg; clear hg hso)
        | (go_at_call 24; refine (hadd_v hs.rot HS2).mono ?_; clear hs; rintro e w' ⟨b1, x1, rfl, hs⟩; have hso := laso hs; replace hs := hs.rot))
      go_upto_region 17 with (first
        | (go_at_call 17; refine (exhas_v hs la2_ok hso F0).mono ?_; rintro e w' ⟨rfl, hg⟩; replace hs := hs.grew hg; replace hso := hso.grew hg; clear hg)
        | (go_at_call 17; refine (exhas_v hs la2_ok hso F1).mono ?_; rintro e w' ⟨rfl, hg⟩; replace hs := hs.grew hg; clear hg hso)
        | (go_at_call 25; refine (hremove_v hs.rot HS3).mono ?_; clear hs; rintro e w' ⟨b2, x2, rfl, hs⟩; have hso := laso hs; replace hs := hs.rot))
      go_wp2_with (first
        | (go_at_call 17; refine (exhas_v hs la2_ok hso G0).mono ?_; rintro e w' ⟨rfl, hg⟩; replace hs := hs.grew hg; replace hso := hso.grew hg; clear hg)
        | (go_at_call 17; refine (exhas_v hs la2_ok hso G1).mono ?_; rintro e w' ⟨rfl, hg⟩; replace hs := hs.grew hg; clear hg hso)
        | (go_at_call 14; refine (exset_v (v := 2) (l' := la3) (ss' := [ptr T1, .pointer none]) hs none (Lib.hid la2_len) (Lib.hid la3_eq) (Lib.hid rfl) la2_lt (show 1 ≤ 1000000 by decide)).mono ?_; clear hs; rintro e w' ⟨rfl, hs⟩; have hso : SetsOk w' [ptr T1, .pointer none] (laS S3) := (laso hs.rot).snoc SetW.none)
        | (go_at_call 17; refine (exhas_v hs la3_ok hso G2).mono ?_; rintro e w' ⟨rfl, hg⟩; replace hs := hs.grew hg; clear hg hso)
        | (go_at_call 11; refine (awake3 _).mono ?_; rintro e w' ⟨rfl, hg⟩; replace hs := hs.grew hg; clear hg))
      go_ret
      exact ⟨rfl, hs.nothing⟩
end Go.Proofs.Ytkcbjkadalebjaa
