/-
  ScanWords: the walk.
-/
import Derived.Test.YtpnjoeiohigjmaaDoorScCo
set_option maxRecDepth 100000
namespace Go.Proofs.YtpnjoeiohigjmaaDoor
open Go Go.RowKit
attribute [local irreducible] wpList Calls Code.wp

def lq1 : List NodeE := [⟨1, [0]⟩]
def lq2 : List NodeE := [⟨1, [0]⟩, ⟨1, [1]⟩]
def lq3 : List NodeE := [⟨1, [0]⟩, ⟨1, [1]⟩, ⟨5, [1]⟩]
def lq4 : List NodeE := [⟨1, [0]⟩, ⟨1, [1]⟩, ⟨5, [1]⟩, ⟨4, [0, 2]⟩]
theorem lq1_eq : ([] : List NodeE) ++ [⟨1, [0]⟩] = lq1 := rfl
theorem lq2_eq : lq1 ++ [⟨1, [1]⟩] = lq2 := rfl
theorem lq3_v : addV lq2 5 [1] = 2 := by decide +kernel
theorem lq3_l : addN lq2 5 [1] = lq3 := by rfl
theorem lq4_v : addV lq3 4 [0, 2] = 3 := by decide +kernel
theorem lq4_l : addN lq3 4 [0, 2] = lq4 := by rfl
theorem lq1_len : lq1.length = 1 := rfl
theorem lq4_len : lq4.length = 4 := rfl
theorem lq4_ok : ArOk lq4 2 := by
  have h := ((ArOk.nil 0).addset (by decide)).addset (by decide)
  have h2 := h.addop (k := 5) (kids := [1]) (by decide) (fun _ => rfl)
  have h3 := h2.addop (k := 4) (kids := [0, 2]) (by decide) (by decide)
  exact h3
def ss2 (S1 S2 : List Nat) (s : Nat) : List Nat := if s = 0 then S1 else S2
theorem ss2_0 (S1 S2 : List Nat) : ss2 S1 S2 0 = S1 := rfl
theorem ss2_1 (S1 S2 : List Nat) : ss2 S1 S2 1 = S2 := rfl
theorem sets2 {w0 w : World} {T1 T2 : Nat} {S1 S2 : List Nat} {L M : List As} (h1 : St w0 (HSet T1 S1 :: L) w) (h2 : St w0 (HSet T2 S2 :: M) w) : SetsOk w [ptr T1, ptr T2] (ss2 S1 S2) :=
  (SetsOk.nil.snoc (by rw [show ([] : List Value).length = 0 from rfl, ss2_0]; exact SetW.here h1)).snoc (by rw [show ([] ++ [ptr T1] : List Value).length = 1 from rfl, ss2_1]; exact SetW.here h2)
/-- A word counts its part. -/
theorem cnt_word {p : Nat → Bool} {x a : Nat} (hb : ∀ d, d < 64 → x.testBit d = p (64 * a + d)) : cntW x = (sel p (64 * a) (64 * a + 64)).length :=
  cnt_mask (p := p) (x := x) (y := x) (j := a) (lo := 0) (hi := 64) hb (fun d hd => by rw [decide_eq_true (Nat.zero_le d), decide_eq_true hd]; rfl) (by decide) (Nat.le_refl _)
theorem may_word {l : List NodeE} {Ss : Nat → List Nat} {n a x : Nat} (hn : n < l.length) (ha : a < 262144) (hx : scMay l Ss (n : Nat) 0 (a : Nat) = x) : x < 2 ^ 64 ∧ ∀ d, d < 64 → x.testBit d = tel l Ss (n : Nat) (64 * a + d) := by
  refine ⟨by rw [← hx]; exact scMay_lt _ _ _ _ _, fun d hd => ?_⟩
  rw [← hx]
  unfold scMay
  rw [if_pos ⟨by omega, by omega⟩, Int.toNat_natCast, scW_in ⟨by decide, by decide, by omega, by simp; omega⟩]
  exact mayW_tell2 hn ha hd
theorem hasW_nat {x d : Nat} (hd : d < 64) : hasW x (d : Nat) = x.testBit d := by
  unfold hasW
  rw [decide_eq_true (by omega), decide_eq_true (by omega), Int.toNat_natCast]
  rfl
attribute [local irreducible] setS lq1 lq2 lq3 lq4 ss2 addV addN exTell nxt lst tel sel cntV cntE scMay cntW hasW
theorem ints_app' (a b : List Int) : ints a ++ ints b = ints (a ++ b) := by simp [ints]
set_option maxHeartbeats 4000000 in
theorem scwords_c {w0 : World} (hT : Tab w0) {va vb : Value} {za zb : List Int} (hva : IntArg w0 va za) (hvb : IntArg w0 vb zb) (zt : Int) : Calls Tryd.prog 5 #[va, vb, .int .i64 zt] w0 (LawPost w0) := by
  obtain ⟨A0, na, ca, rfl, hlen, hnc, hcm, hra, hba⟩ := hva
  obtain ⟨B0, nb, cb, rfl, hlen2, hnc2, hcm2, hrb, hbb⟩ := hvb
  have HLz := Lib.hid hlen
  have HLb := Lib.hid hlen2
  unfold maxLen at hcm hcm2
  have HRa := Lib.hid hra
  have HRb := Lib.hid hrb
  have hs := St.start w0
  have HT := Lib.hid hT
  clear hba hbb hlen hlen2 hra hrb hT
  obtain ⟨P, hP, hPm⟩ := mask_small zt 14 (by decide)
  replace hPm : bits .and .i64 zt 16383 = (P : Nat) := hPm
  replace hP : P < 16384 := hP
  by_cases h40 : 40 < na ∨ 40 < nb
  · by_cases h1 : 40 < na
    · have d1 : decide (40 < (na : Int)) = true := decide_eq_true (by omega)
      clear h40 h1
      go_enter Tryd.func5, Tryd.ntmps5
      go_wp2_with (first
        | (go_at_call 17; refine (awake4 _ (HT.out.st hs)).mono ?_; rintro e w' ⟨rfl, hg⟩; replace hs := hs.grew hg; clear hg))
      go_ret
      exact ⟨rfl, hs⟩
    · have d1 : decide (40 < (na : Int)) = false := decide_eq_false (by omega)
      have d2 : decide (40 < (nb : Int)) = true := decide_eq_true (by omega)
      clear h40 h1
      go_enter Tryd.func5, Tryd.ntmps5
      go_wp2_with (first
        | (go_at_call 17; refine (awake4 _ (HT.out.st hs)).mono ?_; rintro e w' ⟨rfl, hg⟩; replace hs := hs.grew hg; clear hg))
      go_ret
      exact ⟨rfl, hs⟩
  · have d1 : decide (40 < (na : Int)) = false := decide_eq_false (by omega)
    have d2 : decide (40 < (nb : Int)) = false := decide_eq_false (by omega)
    have na40 : na ≤ 40 := by omega
    have nb40 : nb ≤ 40 := by omega
    clear h40
    replace hs := hs.own_nil 3 1
    go_enter Tryd.func5, Tryd.ntmps5
    go_wp2
    go_loopw [7, 9] (fun uv iv wr => ∃ (i : Nat) (U : Option Addr) (cp : Nat) (us : List Int), uv = .slice U i cp ∧ iv = .int .i64 (i : Nat) ∧ i ≤ na ∧ Hid (us.length = i) ∧ St w0 [own U i cp 3 1 (ints us)] wr) (fun _ iv _ => na - (intOf iv).toNat)
    case atStart => exact ⟨0, none, 0, [], rfl, rfl, Nat.zero_le _, rfl, hs⟩
    case round =>
      clear hs
      obtain ⟨i, U, cp, us, rfl, rfl, hi, HU, hs⟩ := hrel
      by_cases hlt : i < na
      · obtain ⟨b, o, e, rfl, hrd, _⟩ := HRa.out.int (k := i) (by rw [HLz.out]; exact hlt)
        have r1 := hs.made_grew.cell (hrd w0 (St.start w0))
        obtain ⟨Y, hY, hYm⟩ := mask_small e 9 (by decide)
        replace hYm : bits .and .i64 e 511 = (Y : Nat) := hYm
        replace hY : Y < 512 := hY
        have HU2 : Hid ((us ++ [64 * (P : Int) + (Y : Int)]).length = i + 1) := by rw [Hid, List.length_append, HU.out]; rfl
        clear hrd
        go_wp2_with (first
          | (refine wpl_build1 (v := .int .i64 (64 * (P : Int) + (Y : Int))) elem24 (by decide) rfl rfl hs ?_; clear hs; intro gb w2 hs)
          | (refine wpl_append (B := some ⟨gb, 0, none⟩) (m := 1) (news := ints [64 * (P : Int) + (Y : Int)]) elem24 rfl rfl hs (Ent.skip (Ent.refl _)) RdS.blk rfl (ints_one' _) (by unfold maxLen; omega) (by omega) ?_; clear hs; intro A2 cp2 w2 hs; replace hs := hs.rot.drop))
        rw [ints_app'] at hs
        go_roundw
        case rel => exact ⟨i + 1, A2, cp2, _, rfl, by go_num, by omega, HU2, hs⟩
        case measure => simp [intOf] <;> omega
      · have hin : na = i := by omega
        subst hin
        have HU1 := Lib.hid HU.out
        replace hs := hs.own_nil 3 1
        clear hlt HRa HU
        go_wp2
        go_loopw [8, 10] (fun uv iv wr => ∃ (i : Nat) (V : Option Addr) (cpv : Nat) (vs : List Int), uv = .slice V i cpv ∧ iv = .int .i64 (i : Nat) ∧ i ≤ nb ∧ Hid (vs.length = i) ∧ St w0 [own V i cpv 3 1 (ints vs), own U na cp 3 1 (ints us)] wr) (fun _ iv _ => nb - (intOf iv).toNat)
        case atStart => exact ⟨0, none, 0, [], rfl, rfl, Nat.zero_le _, rfl, hs⟩
        case round =>
          clear hs
          obtain ⟨i, V, cpv, vs, rfl, rfl, hi, HU, hs⟩ := hrel
          by_cases hlt : i < nb
          · obtain ⟨b, o, e, rfl, hrd, _⟩ := HRb.out.int (k := i) (by rw [HLb.out]; exact hlt)
            have r1 := hs.made_grew.cell (hrd w0 (St.start w0))
            obtain ⟨Y, hY, hYm⟩ := mask_small e 9 (by decide)
            replace hYm : bits .and .i64 e 511 = (Y : Nat) := hYm
            replace hY : Y < 512 := hY
            have HU2 : Hid ((vs ++ [64 * (P : Int) + (Y : Int)]).length = i + 1) := by rw [Hid, List.length_append, HU.out]; rfl
            clear hrd
            go_wp2_with (first
              | (refine wpl_build1 (v := .int .i64 (64 * (P : Int) + (Y : Int))) elem24 (by decide) rfl rfl hs ?_; clear hs; intro gb w2 hs)
              | (refine wpl_append (B := some ⟨gb, 0, none⟩) (m := 1) (news := ints [64 * (P : Int) + (Y : Int)]) elem24 rfl rfl hs (Ent.skip (Ent.refl _)) RdS.blk rfl (ints_one' _) (by unfold maxLen; omega) (by omega) ?_; clear hs; intro A2 cp2 w2 hs; replace hs := hs.rot.drop))
            rw [ints_app'] at hs
            go_roundw
            case rel => exact ⟨i + 1, A2, cp2, _, rfl, by go_num, by omega, HU2, hs⟩
            case measure => simp [intOf] <;> omega
          · have hin : nb = i := by omega
            subst hin
            have HU2 := Lib.hid HU.out
            obtain ⟨S1, HS1⟩ : ∃ S, Hid (setS us = S) := ⟨_, rfl⟩
            obtain ⟨S2, HS2⟩ : ∃ S, Hid (setS vs = S) := ⟨_, rfl⟩
            clear hlt HRb HU
            go_upto_region 17 with (first
              | (go_at_call 10; refine (exnew_c hs).mono ?_; clear hs; rintro e w' ⟨D, rfl, hs⟩)
              | (go_at_call 19; refine (new_v hs (RdS.own hs.drop.drop).tail.tail HU1 (by unfold maxLen; omega) HS1).mono ?_; clear hs; rintro e w' ⟨T1, rfl, hs⟩; replace hs := hs.rot)
              | (go_at_call 18; refine (exset_v (v := 0) (l' := lq1) (ss' := [ptr T1]) hs _ (Lib.hid rfl) (Lib.hid lq1_eq) (Lib.hid rfl) (by decide) (by decide)).mono ?_; clear hs; rintro e w' ⟨rfl, hs⟩)
              | (go_at_call 19; refine (new_v hs (RdS.own hs.drop.drop).tail.tail HU2 (by unfold maxLen; omega) HS2).mono ?_; clear hs; rintro e w' ⟨T2, rfl, hs⟩; replace hs := hs.rot)
              | (go_at_call 18; refine (exset_v (v := 1) (l' := lq2) (ss' := [ptr T1, ptr T2]) hs _ (Lib.hid (by rw [lq1_len]; rfl)) (Lib.hid lq2_eq) (Lib.hid rfl) (by rw [lq1_len]; decide) (show 1 ≤ 1000000 by decide)).mono ?_; clear hs; rintro e w' ⟨rfl, hs⟩)
              | (go_at_call 22; refine (not_c hs 1 (Lib.hid lq3_v) (Lib.hid lq3_l)).mono ?_; clear hs; rintro e w' ⟨rfl, hs⟩)
              | (refine wpl_buildN (vs := [.int .i64 0, .int .i64 2]) elem24 rfl rfl (by decide) (by decide) (by simp; exact ⟨rfl, rfl⟩) hs ?_; clear hs; intro g3 w3 hs; replace hs := hs.rot)
              | (go_at_call 21; refine (xor_c (kids := [0, 2]) (A := some ⟨g3, 0, none⟩) (m := 2) hs (fun h => nomatch h) (Lib.hid rfl) (by decide) (RdS.blk.tail) (Lib.hid lq4_v) (Lib.hid lq4_l)).mono ?_; clear hs; rintro e w' ⟨rfl, hs⟩))
            have hsc := hs.scv lq4_ok (sets2 hs.up3 hs.up2) HT.out
            obtain ⟨p, HPt⟩ : ∃ p, Hid (tel lq4 (ss2 S1 S2) 3 = p) := ⟨_, rfl⟩
            obtain ⟨c, HCt⟩ : ∃ c, Hid (cntV lq4 (ss2 S1 S2) 3 (64 * (P : Int)) (64 * (P : Int) + 512) = c) := ⟨_, rfl⟩
            have e1 := cnt_in (l := lq4) (Ss := ss2 S1 S2) (n := 3) (a := 64 * P) (b := 64 * P + 512) (by rw [lq4_len]; decide) (by omega) (by omega) (by omega)
            rw [show ((64 * P : Nat) : Int) = 64 * (P : Int) by omega, show ((64 * P + 512 : Nat) : Int) = 64 * (P : Int) + 512 by omega] at e1
            have HCe : Hid (cntE lq4 3 (64 * (P : Int)) (64 * (P : Int) + 512) = 0) := e1.2
            have HCc : Hid ((sel p (64 * P) (64 * P + 512)).length = c) := by
              have h1 : cntV lq4 (ss2 S1 S2) 3 (64 * (P : Int)) (64 * (P : Int) + 512) = (sel (tel lq4 (ss2 S1 S2) 3) (64 * P) (64 * P + 512)).length := e1.1
              rw [Hid, ← HCt.out, h1, HPt.out]
            have hc9 : c ≤ 512 := by rw [← HCc.out]; exact Nat.le_trans (sel_len_le _ _ _) (by omega)
            clear e1
            go_wp2_with (first
              | (go_at_call 12; refine (sccount_c hsc 3 (64 * (P : Int)) (64 * (P : Int) + 512) HCt HCe).mono ?_; rintro e w' ⟨rfl, hg⟩; replace hs := hs.grew hg; replace hsc := hsc.grew hg; clear hg))
            clear hsc HCt
            go_loopw [15, 16] (fun kv iv wr => ∃ k i : Nat, kv = .int .i64 (k : Nat) ∧ iv = .int .i64 (i : Nat) ∧ i ≤ 8 ∧ Hid ((sel p (64 * P) (64 * (P + i))).length = k) ∧ St w0 [ExB D lq4 [ptr T1, ptr T2], YtpnjoeiohigjmaaDoor.blk g3 #[.int .i64 0, .int .i64 2] 3, HSet T2 S2, HSet T1 S1, own V nb cpv 3 1 (ints vs), own U na cp 3 1 (ints us)] wr) (fun _ iv _ => 8 - (intOf iv).toNat)
            case atStart => exact ⟨0, 0, rfl, rfl, by decide, by rw [Hid, sel_empty (by omega)]; rfl, hs⟩
            case round =>
              clear hs
              obtain ⟨k, i, rfl, rfl, hi8, HK, hs⟩ := hrel
              have hsc := hs.scv lq4_ok (sets2 hs.up3 hs.up2) HT.out
              by_cases hlt : i < 8
              · have d8 : decide ((i : Int) < 8) = true := decide_eq_true (by omega)
                obtain ⟨x, HX⟩ : ∃ x, Hid (scMay lq4 (ss2 S1 S2) 3 0 ((P : Int) + (i : Int)) = x) := ⟨_, rfl⟩
                have hmw := may_word (l := lq4) (Ss := ss2 S1 S2) (n := 3) (a := P + i) (x := x) (by rw [lq4_len]; decide) (by omega) (by rw [← HX.out]; rfl)
                have HX64 := Lib.hid hmw.1
                have HB : Hid (∀ d, d < 64 → x.testBit d = p (64 * (P + i) + d)) := by rw [← HPt.out]; exact hmw.2
                have hk9 : k ≤ 512 := by rw [← HK.out]; exact Nat.le_trans (sel_len_le _ _ _) (by omega)
                clear hmw
                go_wp2_with (first
                  | (go_at_call 15; refine (scwd_c hsc 3 ((P : Int) + (i : Int)) HX).mono ?_; rintro e w' ⟨rfl, hg⟩; replace hs := hs.grew hg; replace hsc := hsc.grew hg; clear hg))
                clear hsc
                go_loopw [18] (fun jv wr => ∃ j : Nat, jv = .int .i64 (j : Nat) ∧ j ≤ 64 ∧ St w0 [ExB D lq4 [ptr T1, ptr T2], YtpnjoeiohigjmaaDoor.blk g3 #[.int .i64 0, .int .i64 2] 3, HSet T2 S2, HSet T1 S1, own V nb cpv 3 1 (ints vs), own U na cp 3 1 (ints us)] wr) (fun jv _ => 64 - (intOf jv).toNat)
                case atStart => exact ⟨0, rfl, by decide, hs⟩
                case round =>
                  clear hs
                  obtain ⟨j, rfl, hj, hs⟩ := hrel
                  have hsc := hs.scv lq4_ok (sets2 hs.up3 hs.up2) HT.out
                  by_cases hj64 : j < 64
                  · have dj : decide ((j : Int) < 64) = true := decide_eq_true (by omega)
                    obtain ⟨b, HBt⟩ : ∃ b, Hid (exTell lq4 (ss2 S1 S2) 3 (64 * ((P : Int) + (i : Int)) + (j : Int)) = b) := ⟨_, rfl⟩
                    have HBw : Hid (hasW x (j : Nat) = b) := by
                      rw [Hid, hasW_nat hj64, HB.out j hj64, ← HPt.out, ← HBt.out]
                      unfold tel
                      congr 1
                    go_wp2_with (first
                      | (go_at_call 26; refine (has_v HX64.out HBw _).mono ?_; rintro e w' ⟨rfl, rfl⟩)
                      | (go_at_call 27; refine (schas_c hsc 3 (64 * ((P : Int) + (i : Int)) + (j : Int)) HBt).mono ?_; rintro e w' ⟨rfl, hg⟩; replace hs := hs.grew hg; clear hg))
                    go_roundw
                    case rel => exact ⟨j + 1, by go_num, by omega, hs⟩
                    case measure => simp [intOf] <;> omega
                  · have hj64' : j = 64 := by omega
                    subst hj64'
                    have HK2 : Hid ((sel p (64 * P) (64 * (P + (i + 1)))).length = k + cntW x) := by
                      rw [Hid, sel_cut p (show 64 * P ≤ 64 * (P + i) by omega) (show 64 * (P + i) ≤ 64 * (P + (i + 1)) by omega), List.length_append, HK.out, cnt_word HB.out]
                      rfl
                    have HCw := cntW_le x
                    clear hj64
                    go_wp2_with (first
                      | (go_at_call 28; refine (len_c HX64.out _).mono ?_; rintro e w' ⟨rfl, rfl⟩))
                    go_roundw
                    case rel => exact ⟨k + cntW x, i + 1, by first | rfl | go_num, by go_num, by omega, HK2, hs⟩
                    case measure => simp [intOf] <;> omega
              · have hi8' : i = 8 := by omega
                subst hi8'
                have hkc : k = c := by
                  rw [← HK.out, ← HCc.out]
                  congr 2
                subst hkc
                obtain ⟨o, HOl⟩ : ∃ o, Hid (lst (tel lq4 (ss2 S1 S2) 3) (64 * (P : Int)).toNat 16777216 (min ((k : Int) + 5) 100000).toNat = o) := ⟨_, rfl⟩
                obtain ⟨z, HZ⟩ : ∃ z, Hid (o.length = z) := ⟨_, rfl⟩
                have hkz : k ≤ z := by
                  rw [← HZ.out, ← HOl.out, HPt.out]
                  unfold lst
                  rw [List.length_take, show (64 * (P : Int)).toNat = 64 * P by omega, sel_cut p (show 64 * P ≤ 64 * P + 512 by omega) (show 64 * P + 512 ≤ 16777216 by omega), List.length_append, HCc.out]
                  omega
                have dk : decide (k ≤ z) = true := decide_eq_true hkz
                clear hlt hkz
                go_wp2_with (first
                  | (go_at_call 14; refine (sclist_c hsc 3 (64 * (P : Int)) ((k : Int) + 5) HOl HZ).mono ?_; rintro e w' ⟨A2, cp2, rfl, hl⟩; replace hs := hs.grew hl.made_grew; replace hsc := hsc.grew hl.made_grew; clear hl)
                  | (go_at_call 17; refine (awake4 _ hsc.tab).mono ?_; rintro e w' ⟨rfl, hg⟩; replace hs := hs.grew hg; clear hg))
                go_ret
                exact ⟨rfl, hs.nothing⟩
end Go.Proofs.YtpnjoeiohigjmaaDoor
