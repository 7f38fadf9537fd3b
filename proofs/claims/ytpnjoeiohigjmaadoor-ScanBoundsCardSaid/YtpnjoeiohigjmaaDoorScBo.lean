/-
  ScanBounds: the walk.
-/
import Derived.Test.YtpnjoeiohigjmaaDoorScLw
import Derived.Test.YtpnjoeiohigjmaaDoorJF
set_option maxRecDepth 100000
namespace Go.Proofs.YtpnjoeiohigjmaaDoor
open Go Go.RowKit
attribute [local irreducible] wpList Calls Code.wp

def sb0 : Nat → List Nat := fun _ => []
def lb1 : List NodeE := [⟨2, []⟩]
theorem sb_v : addV [] 2 [] = 0 := by decide +kernel
theorem sb_l : addN [] 2 [] = lb1 := by rfl
theorem lb1_len : lb1.length = 1 := rfl
theorem lb1_ok : ArOk lb1 0 := by
  have := (ArOk.nil 0).addop (k := 2) (kids := []) (by decide) (by decide)
  exact this
theorem sb_tel {i : Nat} (hi : i < 16777216) : tel lb1 sb0 0 i = true := by
  have h : exTell lb1 sb0 0 (i : Int) = (tellsE (fun s => memS (sb0 s) (i : Int)) lb1).getD 0 false := by
    unfold exTell
    rw [lb1_len, decide_eq_true ⟨by omega, by omega, by omega, by omega⟩, Bool.true_and]
    rfl
  unfold tel
  rw [h]
  rfl
theorem sb_cnt {f t : Int} {a b : Nat} (ha : cutN f = a) (hb : cutN t = b) (hw : (b : Int) - a ≤ 262144) : cntV lb1 sb0 0 f t = b - a ∧ cntE lb1 0 f t = 0 := by
  have hb2 := cutN_le t
  unfold cntV cntE
  rw [lb1_len, ha, hb, if_pos ⟨by decide, by decide, hw⟩, if_pos ⟨by decide, by decide⟩, if_pos hw, sel_all fun i _ hi => sb_tel (by omega)]
  exact ⟨rfl, rfl⟩
theorem sb_many {f t : Int} (hw : 262144 < (cutN t : Int) - cutN f) : cntV lb1 sb0 0 f t = 0 ∧ cntE lb1 0 f t = 2 := by
  unfold cntV cntE
  rw [lb1_len, if_neg (by omega), if_pos ⟨by decide, by decide⟩, if_neg (by omega)]
  exact ⟨rfl, rfl⟩
theorem sb_next9 : nxt (tel lb1 sb0 0) (-9 : Int).toNat 16777216 = 0 := (Nx.eq (.inr ⟨0, rfl, by decide, by decide, sb_tel (by decide), fun i _ h => by omega⟩)).symm
theorem sb_nextE : nxt (tel lb1 sb0 0) (16777216 : Int).toNat 16777216 = -1 := (Nx.eq (.inl ⟨rfl, fun i h1 h2 => by
  have : (16777216 : Int).toNat = 16777216 := rfl
  omega⟩)).symm
/-- Of a node that is none nothing is told. -/
structure OutN (l : List NodeE) (Ss : Nat → List Nat) (n : Int) : Prop where
  cnt : ∀ f t, cntV l Ss n f t = 0
  err : ∀ f t, cntE l n f t = 1
  next : ∀ lo, nxt (tel l Ss n) lo 16777216 = -1
  list : ∀ lo m, lst (tel l Ss n) lo 16777216 m = []
  may : ∀ level a, scMay l Ss n level a = 0
theorem outN {l : List NodeE} {Ss : Nat → List Nat} {n : Int} (hn : n < 0 ∨ (l.length : Int) ≤ n) : OutN l Ss n :=
  ⟨fun f t => if_neg (by omega), fun f t => if_neg (by omega), fun lo => nxt_out (tel_out hn) _ _, fun lo m => by
    unfold lst
    rw [sel_none fun i _ _ => tel_out hn i, List.take_nil], fun level a => if_neg (by omega)⟩
attribute [local irreducible] lb1 sb0 cntV cntE nxt tel lst scMay addV addN cutN
set_option maxHeartbeats 1000000 in
theorem scbounds_c {w0 : World} (hT : Tab w0) (k n : Int) : Calls Tryd.prog 3 #[.int .i64 k, .int .i64 n] w0 (LawPost w0) := by
  have hs := St.start w0
  have HT := Lib.hid hT
  have HV := Lib.hid sb_v
  have HL := Lib.hid sb_l
  obtain ⟨q, hq, ha⟩ := mask_small k 3 (by decide)
  replace ha : bits .and .i64 k 7 = (q : Nat) := ha
  replace hq : q < 8 := hq
  obtain ⟨kk, hkk⟩ : ∃ kk : Int, (q : Int) - 3 = kk := ⟨_, rfl⟩
  have hk1 : -3 ≤ kk := by omega
  have hk2 : kk ≤ 4 := by omega
  have hc1 : cutN 1000 = 1000 := by unfold cutN; rfl
  have hc2 : cutN (263144 + kk) = (263144 + kk).toNat := by unfold cutN; omega
  have hc3 : cutN 16777211 = 16777211 := by unfold cutN; rfl
  have hc4 : cutN 4611686018427387904 = 16777216 := by unfold cutN; rfl
  have h5 := sb_cnt hc3 hc4 (by decide)
  have HC5 : Hid (cntV lb1 sb0 0 16777211 4611686018427387904 = 5) := h5.1
  have HE5 := Lib.hid h5.2
  clear h5 hc3 hc4 hq hT
  by_cases h0 : kk ≤ 0
  · have h1 := sb_cnt hc1 hc2 (by omega)
    obtain ⟨c, hc⟩ : ∃ c : Nat, (c : Int) = 262144 + kk := ⟨(262144 + kk).toNat, by omega⟩
    have HC1 : Hid (cntV lb1 sb0 0 1000 (263144 + kk) = c) := by rw [Hid, h1.1]; omega
    have HE1 := Lib.hid h1.2
    clear h1 hc1 hc2
    go_enter Tryd.func3, Tryd.ntmps3
    go_upto_region 6 with (first
      | (go_at_call 10; refine (exnew_c hs).mono ?_; clear hs; rintro e w' ⟨D, rfl, hs⟩)
      | (go_at_call 11; refine (and_c (kids := []) (A := none) (m := 0) hs (fun _ => ⟨rfl, rfl⟩) (Lib.hid rfl) (by decide) RdS.nil HV HL).mono ?_; clear hs; rintro e w' ⟨rfl, hs⟩))
    have hsc : ScV w' D lb1 [] sb0 := hs.scv lb1_ok SetsOk.nil HT.out
    go_upto_region 9 with (first
      | (go_at_call 12; refine (sccount_c hsc 0 1000 (263144 + kk) HC1 HE1).mono ?_; rintro e w' ⟨rfl, hg⟩; replace hs := hs.grew hg; replace hsc := hsc.grew hg; clear hg))
    clear hk1 hk2 ha hkk hc h0
    by_cases hn0 : n = 0
    · subst hn0
      have HO : Hid (OutN lb1 sb0 1) := outN (.inr (by rw [lb1_len]; decide))
      (go_wp2_with (first
        | (go_at_call 12; refine (sccount_c hsc 0 16777211 4611686018427387904 HC5 HE5).mono ?_; rintro e w' ⟨rfl, hg⟩; replace hs := hs.grew hg; replace hsc := hsc.grew hg; clear hg)
        | (go_at_call 12; refine (sccount_c hsc 1 0 9 (Lib.hid (HO.out.cnt _ _)) (Lib.hid (HO.out.err _ _))).mono ?_; rintro e w' ⟨rfl, hg⟩; replace hs := hs.grew hg; replace hsc := hsc.grew hg; clear hg)
        | (go_at_call 13; refine (scn_c hsc 1 0 (Lib.hid (HO.out.next _))).mono ?_; rintro e w' ⟨rfl, hg⟩; replace hs := hs.grew hg; replace hsc := hsc.grew hg; clear hg)
        | (go_at_call 13; refine (scn_c hsc 0 16777216 (Lib.hid sb_nextE)).mono ?_; rintro e w' ⟨rfl, hg⟩; replace hs := hs.grew hg; replace hsc := hsc.grew hg; clear hg)
        | (go_at_call 13; refine (scn_c hsc 0 (-9) (Lib.hid sb_next9)).mono ?_; rintro e w' ⟨rfl, hg⟩; replace hs := hs.grew hg; replace hsc := hsc.grew hg; clear hg)
        | (go_at_call 14; refine (sclist_c hsc 1 0 9 (Lib.hid (HO.out.list _ _)) (Lib.hid rfl)).mono ?_; rintro e w' ⟨A, cp, rfl, hl⟩; replace hs := hs.grew hl.made_grew; replace hsc := hsc.grew hl.made_grew; clear hl)
        | (go_at_call 15; refine (scwd_c hsc 1 0 (Lib.hid (HO.out.may _ _))).mono ?_; rintro e w' ⟨rfl, hg⟩; replace hs := hs.grew hg; replace hsc := hsc.grew hg; clear hg)
        | (go_at_call 16; refine (scmay_c hsc 1 1 0 (Lib.hid (HO.out.may _ _))).mono ?_; rintro e w' ⟨rfl, hg⟩; replace hs := hs.grew hg; replace hsc := hsc.grew hg; clear hg)
        | (go_at_call 17; refine (awake4 _ hsc.tab).mono ?_; rintro e w' ⟨rfl, hg⟩; replace hs := hs.grew hg; replace hsc := hsc.grew hg; clear hg)))
      go_ret
      exact ⟨rfl, hs.nothing⟩
    · have HO : Hid (OutN lb1 sb0 n) := outN (by rw [lb1_len]; omega)
      have hnb : (n == 0) = false := by simpa using hn0
      clear hn0
      (go_wp2_with (first
        | (go_at_call 12; refine (sccount_c hsc 0 16777211 4611686018427387904 HC5 HE5).mono ?_; rintro e w' ⟨rfl, hg⟩; replace hs := hs.grew hg; replace hsc := hsc.grew hg; clear hg)
        | (go_at_call 12; refine (sccount_c hsc n 0 9 (Lib.hid (HO.out.cnt _ _)) (Lib.hid (HO.out.err _ _))).mono ?_; rintro e w' ⟨rfl, hg⟩; replace hs := hs.grew hg; replace hsc := hsc.grew hg; clear hg)
        | (go_at_call 13; refine (scn_c hsc n 0 (Lib.hid (HO.out.next _))).mono ?_; rintro e w' ⟨rfl, hg⟩; replace hs := hs.grew hg; replace hsc := hsc.grew hg; clear hg)
        | (go_at_call 13; refine (scn_c hsc 0 16777216 (Lib.hid sb_nextE)).mono ?_; rintro e w' ⟨rfl, hg⟩; replace hs := hs.grew hg; replace hsc := hsc.grew hg; clear hg)
        | (go_at_call 13; refine (scn_c hsc 0 (-9) (Lib.hid sb_next9)).mono ?_; rintro e w' ⟨rfl, hg⟩; replace hs := hs.grew hg; replace hsc := hsc.grew hg; clear hg)
        | (go_at_call 14; refine (sclist_c hsc n 0 9 (Lib.hid (HO.out.list _ _)) (Lib.hid rfl)).mono ?_; rintro e w' ⟨A, cp, rfl, hl⟩; replace hs := hs.grew hl.made_grew; replace hsc := hsc.grew hl.made_grew; clear hl)
        | (go_at_call 15; refine (scwd_c hsc n 0 (Lib.hid (HO.out.may _ _))).mono ?_; rintro e w' ⟨rfl, hg⟩; replace hs := hs.grew hg; replace hsc := hsc.grew hg; clear hg)
        | (go_at_call 16; refine (scmay_c hsc n 1 0 (Lib.hid (HO.out.may _ _))).mono ?_; rintro e w' ⟨rfl, hg⟩; replace hs := hs.grew hg; replace hsc := hsc.grew hg; clear hg)
        | (go_at_call 17; refine (awake4 _ hsc.tab).mono ?_; rintro e w' ⟨rfl, hg⟩; replace hs := hs.grew hg; replace hsc := hsc.grew hg; clear hg)))
      go_ret
      exact ⟨rfl, hs.nothing⟩
  · have h1 := sb_many (f := 1000) (t := 263144 + kk) (by rw [hc1, hc2]; omega)
    have HC1 := Lib.hid h1.1
    have HE1 := Lib.hid h1.2
    clear h1 hc1 hc2
    go_enter Tryd.func3, Tryd.ntmps3
    go_upto_region 6 with (first
      | (go_at_call 10; refine (exnew_c hs).mono ?_; clear hs; rintro e w' ⟨D, rfl, hs⟩)
      | (go_at_call 11; refine (and_c (kids := []) (A := none) (m := 0) hs (fun _ => ⟨rfl, rfl⟩) (Lib.hid rfl) (by decide) RdS.nil HV HL).mono ?_; clear hs; rintro e w' ⟨rfl, hs⟩))
    have hsc : ScV w' D lb1 [] sb0 := hs.scv lb1_ok SetsOk.nil HT.out
    go_upto_region 9 with (first
      | (go_at_call 12; refine (sccount_c hsc 0 1000 (263144 + kk) HC1 HE1).mono ?_; rintro e w' ⟨rfl, hg⟩; replace hs := hs.grew hg; replace hsc := hsc.grew hg; clear hg))
    clear hk1 hk2 ha hkk h0
    by_cases hn0 : n = 0
    · subst hn0
      have HO : Hid (OutN lb1 sb0 1) := outN (.inr (by rw [lb1_len]; decide))
      (go_wp2_with (first
        | (go_at_call 12; refine (sccount_c hsc 0 16777211 4611686018427387904 HC5 HE5).mono ?_; rintro e w' ⟨rfl, hg⟩; replace hs := hs.grew hg; replace hsc := hsc.grew hg; clear hg)
        | (go_at_call 12; refine (sccount_c hsc 1 0 9 (Lib.hid (HO.out.cnt _ _)) (Lib.hid (HO.out.err _ _))).mono ?_; rintro e w' ⟨rfl, hg⟩; replace hs := hs.grew hg; replace hsc := hsc.grew hg; clear hg)
        | (go_at_call 13; refine (scn_c hsc 1 0 (Lib.hid (HO.out.next _))).mono ?_; rintro e w' ⟨rfl, hg⟩; replace hs := hs.grew hg; replace hsc := hsc.grew hg; clear hg)
        | (go_at_call 13; refine (scn_c hsc 0 16777216 (Lib.hid sb_nextE)).mono ?_; rintro e w' ⟨rfl, hg⟩; replace hs := hs.grew hg; replace hsc := hsc.grew hg; clear hg)
        | (go_at_call 13; refine (scn_c hsc 0 (-9) (Lib.hid sb_next9)).mono ?_; rintro e w' ⟨rfl, hg⟩; replace hs := hs.grew hg; replace hsc := hsc.grew hg; clear hg)
        | (go_at_call 14; refine (sclist_c hsc 1 0 9 (Lib.hid (HO.out.list _ _)) (Lib.hid rfl)).mono ?_; rintro e w' ⟨A, cp, rfl, hl⟩; replace hs := hs.grew hl.made_grew; replace hsc := hsc.grew hl.made_grew; clear hl)
        | (go_at_call 15; refine (scwd_c hsc 1 0 (Lib.hid (HO.out.may _ _))).mono ?_; rintro e w' ⟨rfl, hg⟩; replace hs := hs.grew hg; replace hsc := hsc.grew hg; clear hg)
        | (go_at_call 16; refine (scmay_c hsc 1 1 0 (Lib.hid (HO.out.may _ _))).mono ?_; rintro e w' ⟨rfl, hg⟩; replace hs := hs.grew hg; replace hsc := hsc.grew hg; clear hg)
        | (go_at_call 17; refine (awake4 _ hsc.tab).mono ?_; rintro e w' ⟨rfl, hg⟩; replace hs := hs.grew hg; replace hsc := hsc.grew hg; clear hg)))
      go_ret
      exact ⟨rfl, hs.nothing⟩
    · have HO : Hid (OutN lb1 sb0 n) := outN (by rw [lb1_len]; omega)
      have hnb : (n == 0) = false := by simpa using hn0
      clear hn0
      (go_wp2_with (first
        | (go_at_call 12; refine (sccount_c hsc 0 16777211 4611686018427387904 HC5 HE5).mono ?_; rintro e w' ⟨rfl, hg⟩; replace hs := hs.grew hg; replace hsc := hsc.grew hg; clear hg)
        | (go_at_call 12; refine (sccount_c hsc n 0 9 (Lib.hid (HO.out.cnt _ _)) (Lib.hid (HO.out.err _ _))).mono ?_; rintro e w' ⟨rfl, hg⟩; replace hs := hs.grew hg; replace hsc := hsc.grew hg; clear hg)
        | (go_at_call 13; refine (scn_c hsc n 0 (Lib.hid (HO.out.next _))).mono ?_; rintro e w' ⟨rfl, hg⟩; replace hs := hs.grew hg; replace hsc := hsc.grew hg; clear hg)
        | (go_at_call 13; refine (scn_c hsc 0 16777216 (Lib.hid sb_nextE)).mono ?_; rintro e w' ⟨rfl, hg⟩; replace hs := hs.grew hg; replace hsc := hsc.grew hg; clear hg)
        | (go_at_call 13; refine (scn_c hsc 0 (-9) (Lib.hid sb_next9)).mono ?_; rintro e w' ⟨rfl, hg⟩; replace hs := hs.grew hg; replace hsc := hsc.grew hg; clear hg)
        | (go_at_call 14; refine (sclist_c hsc n 0 9 (Lib.hid (HO.out.list _ _)) (Lib.hid rfl)).mono ?_; rintro e w' ⟨A, cp, rfl, hl⟩; replace hs := hs.grew hl.made_grew; replace hsc := hsc.grew hl.made_grew; clear hl)
        | (go_at_call 15; refine (scwd_c hsc n 0 (Lib.hid (HO.out.may _ _))).mono ?_; rintro e w' ⟨rfl, hg⟩; replace hs := hs.grew hg; replace hsc := hsc.grew hg; clear hg)
        | (go_at_call 16; refine (scmay_c hsc n 1 0 (Lib.hid (HO.out.may _ _))).mono ?_; rintro e w' ⟨rfl, hg⟩; replace hs := hs.grew hg; replace hsc := hsc.grew hg; clear hg)
        | (go_at_call 17; refine (awake4 _ hsc.tab).mono ?_; rintro e w' ⟨rfl, hg⟩; replace hs := hs.grew hg; replace hsc := hsc.grew hg; clear hg)))
      go_ret
      exact ⟨rfl, hs.nothing⟩
end Go.Proofs.YtpnjoeiohigjmaaDoor
