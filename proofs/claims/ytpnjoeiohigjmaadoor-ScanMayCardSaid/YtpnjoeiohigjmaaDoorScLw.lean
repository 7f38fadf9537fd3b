/-
  The statements of going over: what is common.
-/
import Derived.Test.YtpnjoeiohigjmaaDoorSc5
set_option maxRecDepth 100000
namespace Go.Proofs.YtpnjoeiohigjmaaDoor
open Go Go.RowKit
attribute [local irreducible] wpList Calls Code.wp

theorem aw4a : setS [5, 8388608] = [5, 8388608] := by decide +kernel
theorem aw4b : setS [6, 8388608] = [6, 8388608] := by decide +kernel
def sw4 (s : Nat) : List Nat := if s = 0 then [5, 8388608] else [6, 8388608]
theorem aw4c : addV lw2 2 [0, 1] = 2 := by decide +kernel
theorem aw4d : addN lw2 2 [0, 1] = lw3 := by rfl
theorem aw4e : cntV lw3 sw4 2 0 100 = 0 := by decide +kernel
theorem aw4f : cntE lw3 2 0 100 = 0 := by decide +kernel
theorem aw4g : scMay lw3 sw4 0 0 0 = 32 := by decide +kernel
theorem sw4_0 : sw4 0 = [5, 8388608] := rfl
theorem sw4_1 : sw4 1 = [6, 8388608] := rfl
theorem tells4 (f : Nat → Bool) : (tellsE f lw3).getD 2 false = (f 0 && f 1) := by
  simp [tellsE, tellE, lw3, joinB]
theorem tel4 (i : Nat) (hi : i < 16777216) : tel lw3 sw4 2 i = (memS [5, 8388608] i && memS [6, 8388608] i) := by
  have h : exTell lw3 sw4 2 (i : Int) = (tellsE (fun s => memS (sw4 s) (i : Int)) lw3).getD 2 false := by
    unfold exTell
    rw [lw3_len, decide_eq_true ⟨by omega, by omega, by omega, by omega⟩, Bool.true_and]
    rfl
  unfold tel
  rw [h, tells4, sw4_0, sw4_1]
theorem mem4 {a b i : Nat} : memS [a, b] (i : Int) = (i == a || i == b) := by
  unfold memS
  rw [Bool.eq_iff_iff]
  simp
  omega
theorem aw4h : nxt (tel lw3 sw4 2) (0 : Int).toNat 16777216 = 8388608 := by
  refine (Nx.eq (.inr ⟨8388608, rfl, by decide, by decide, ?_, fun i _ hi => ?_⟩)).symm
  · rw [tel4 _ (by decide), mem4, mem4]; decide
  · rw [tel4 _ (by omega), mem4, mem4]
    have h1 : (i == 8388608) = false := by simp; omega
    rw [h1]
    cases h2 : i == 5
    · simp
    · have : (i == 6) = false := by simp at h2 ⊢; omega
      rw [this]; simp
attribute [local irreducible] addV addN exTell setS lw2 lw3 sw4 cntV cntE scMay nxt tel
set_option maxHeartbeats 1000000 in
theorem awake4 (w : World) (hT : Tab w) : Calls Tryd.prog 17 #[] w fun e w' => e = .returned (.bool true) ∧ Grew w w' := by
  have hs := St.start w
  have HA := Lib.hid aw4a
  have HB := Lib.hid aw4b
  have HC := Lib.hid aw4c
  have HD := Lib.hid aw4d
  have HE := Lib.hid aw4e
  have HF := Lib.hid aw4f
  have HG := Lib.hid aw4g
  have HH := Lib.hid aw4h
  have HT := Lib.hid hT
  have tk : True := trivial
  clear hT
  go_enter Tryd.func17, Tryd.ntmps17
  go_upto_region 5 with (first
    | (go_at_call 10; refine (exnew_c hs).mono ?_; clear hs; rintro e w' ⟨D, rfl, hs⟩)
    | (clear tk; refine wpl_buildN (vs := [.int .i64 5, .int .i64 8388608]) elem24 rfl rfl (by decide) (by decide) (by simp; exact ⟨rfl, rfl⟩) hs ?_; clear hs; intro g1 w1 hs)
    | (go_at_call 19; refine (new_v (zs := [5, 8388608]) (A := some ⟨g1, 0, none⟩) hs RdS.blk (Lib.hid rfl) (by decide) HA).mono ?_; clear hs; rintro e w' ⟨T1, rfl, hs⟩; replace hs := hs.up2)
    | (go_at_call 18; refine (exset_v (v := 0) (l' := [⟨1, [0]⟩]) (ss' := [ptr T1]) hs _ (Lib.hid rfl) (Lib.hid rfl) (Lib.hid rfl) (by decide) (by decide)).mono ?_; clear hs; rintro e w' ⟨rfl, hs⟩)
    | (refine wpl_buildN (vs := [.int .i64 6, .int .i64 8388608]) elem24 rfl rfl (by decide) (by decide) (by simp; exact ⟨rfl, rfl⟩) hs ?_; clear hs; intro g2 w2 hs)
    | (go_at_call 19; refine (new_v (zs := [6, 8388608]) (A := some ⟨g2, 0, none⟩) hs RdS.blk (Lib.hid rfl) (by decide) HB).mono ?_; clear hs; rintro e w' ⟨T2, rfl, hs⟩; replace hs := hs.up2)
    | (go_at_call 18; refine (exset_v (v := 1) (l' := lw2) (ss' := [ptr T1, ptr T2]) hs _ (Lib.hid rfl) (Lib.hid lw2_eq) (Lib.hid rfl) (by decide) (show 1 ≤ 1000000 by decide)).mono ?_; clear hs; rintro e w' ⟨rfl, hs⟩)
    | (refine wpl_buildN (vs := [.int .i64 0, .int .i64 1]) elem24 rfl rfl (by decide) (by decide) (by simp; exact ⟨rfl, rfl⟩) hs ?_; clear hs; intro g3 w3 hs; replace hs := hs.rot)
    | (go_at_call 11; refine (and_c (kids := [0, 1]) (A := some ⟨g3, 0, none⟩) (m := 2) hs (fun h => nomatch h) (Lib.hid rfl) (by decide) (RdS.blk.tail) HC HD).mono ?_; clear hs; rintro e w' ⟨rfl, hs⟩))
  have hso : SetsOk w' [ptr T1, ptr T2] sw4 := (SetsOk.nil.snoc (by rw [show ([] : List Value).length = 0 from rfl, sw4_0]; exact SetW.here hs.up4)).snoc (by rw [show ([] ++ [ptr T1] : List Value).length = 1 from rfl, sw4_1]; exact SetW.here hs.up2)
  have hsc : ScV w' D lw3 [ptr T1, ptr T2] sw4 := hs.scv lw3_ok hso HT.out
  clear hso
  go_wp2_with (first
    | (go_at_call 12; refine (sccount_c hsc 2 0 100 HE HF).mono ?_; rintro e w' ⟨rfl, hg⟩; replace hs := hs.grew hg; replace hsc := hsc.grew hg; clear hg)
    | (go_at_call 13; refine (scn_c hsc 2 0 HH).mono ?_; rintro e w' ⟨rfl, hg⟩; replace hs := hs.grew hg; replace hsc := hsc.grew hg; clear hg)
    | (go_at_call 15; refine (scwd_c hsc 0 0 HG).mono ?_; rintro e w' ⟨rfl, hg⟩; replace hs := hs.grew hg; replace hsc := hsc.grew hg; clear hg)
    | (go_at_call 13; refine (scn_nil 0 0 _).mono ?_; rintro e w' ⟨rfl, rfl⟩))
  go_ret
  exact ⟨rfl, hs.made_grew⟩
end Go.Proofs.YtpnjoeiohigjmaaDoor
