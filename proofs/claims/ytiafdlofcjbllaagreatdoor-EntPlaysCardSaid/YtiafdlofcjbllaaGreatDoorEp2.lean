/-
  EntPlays: the walk, but for a round of its loop. (Printed by gen_ep.py.)
-/
import Derived.Test.YtiafdlofcjbllaaGreatDoorEp1
set_option maxRecDepth 100000
namespace Go.Proofs.YtiafdlofcjbllaaGreatDoor
open Go Go.RowKit
theorem en_alloc_k {w : World} {E A : Nat} (k0 : w.cell? ⟨E, 0, none⟩ = some (.pointer (some ⟨A, 0, none⟩))) : Calls Tryz.prog 39 #[.pointer (some ⟨E, 0, none⟩)] w fun r w' => r = .returned (.pointer (some ⟨A, 0, none⟩)) ∧ w = w' := by
  go_enter Tryz.func39, Tryz.ntmps39
  go_wp2
  go_ret
  exact ⟨rfl, rfl⟩
theorem en_reg_k {w : World} {E A : Nat} (k0 : w.cell? ⟨E, 1, none⟩ = some (.pointer (some ⟨A, 0, none⟩))) : Calls Tryz.prog 40 #[.pointer (some ⟨E, 0, none⟩)] w fun r w' => r = .returned (.pointer (some ⟨A, 0, none⟩)) ∧ w = w' := by
  go_enter Tryz.func40, Tryz.ntmps40
  go_wp2
  go_ret
  exact ⟨rfl, rfl⟩
attribute [local irreducible] wpList Calls Code.wp stV EnS.live EnS.slot WoS.cmpD WoS.mayD mayR rgP padA okI okN pS tS memS getG pG insS delS getV pV tV okVal newSl SlS.put SlS.err SlS.putU SlS.putB descE SlS.take SlS.set SlS.errSet SlS.get SlS.has EnS.ins EnS.set EnS.rem EnS.get EnS.parts EnS.del WoS.ins WoS.rem WoS.get WoS.set WoS.del WoS.create ofN strL delA newA giveV cs3 errDs descsL mkV mergeA allH idxS hsV nsV lo8
set_option maxHeartbeats 16000000 in
theorem entplays_c {w0 : World} (hT : Tab w0) (z0 z1 : Int) {va : Value} {za : List Int} (hva : IntArg w0 va za) {vb : Value} {xs : List OpE} (hvb : RowsArg c8o (fun _ => True) w0 vb xs) :
    Calls Tryz.prog 3 #[.int .i64 z0, .int .i64 z1, va, vb] w0 (LawPost w0) := by
  obtain ⟨A, na0, ca0, rfl, hna, hnc, hcm, hra, -⟩ := hva
  obtain ⟨A2, ca2, rfl, hnc2, hcm2, hrb, -⟩ := hvb
  unfold maxLen at hcm hcm2
  have HN0 := Lib.hid hna
  have hnb0 : na0 ≤ 9223372036854775807 := by omega
  clear hna hnc hcm
  obtain ⟨nb, hxn⟩ : ∃ n, Hid (xs.length = n) := ⟨_, rfl⟩
  rw [hxn.out] at hnc2
  have hnb2 : nb ≤ 9223372036854775807 := by omega
  rw [hxn.out]
  clear hnc2 hcm2
  have hs := St.start w0
  obtain ⟨ds, hds⟩ : ∃ z, Hid (descsL za = z) := ⟨_, rfl⟩
  have HOK : Hid (∀ d ∈ ds, descE d = 0) := by rw [Hid, ← hds.out]; exact descsL_ok za
  have hl8 : ds.length ≤ 8 := by rw [← hds.out]; exact descsL_len za
  have HER : Hid (errDs 0 ds = 0) := errDs_ok HOK.out (by omega)
  have h255 : bits .and .i64 z0 255 = (lo8 z0 : Nat) := and_255 z0
  have h3b : bits .and .i64 z1 3 = ((z1 % 4).toNat : Nat) := and_m (p := 2) (by decide)
  have hq4 : (z1 % 4).toNat < 4 := by omega
  obtain ⟨q3, hq3⟩ : ∃ q, (z1 % 4).toNat = q := ⟨_, rfl⟩
  rw [hq3] at h3b hq4
  clear hq3
  obtain ⟨q8, hq8⟩ : ∃ q, lo8 z0 = q := ⟨_, rfl⟩
  rw [hq8] at h255
  clear hq8
  obtain ⟨N, hN⟩ : ∃ N : Nat, (q8 : Int) % 12 + 1 = (N : Int) := ⟨q8 % 12 + 1, by omega⟩
  have hN1 : 1 ≤ N := by omega
  have hN2 : N ≤ 65536 := by omega
  go_enter Tryz.func3, Tryz.ntmps3
  go_upto_region 2 with (first
    | (go_at_call 13; refine (descs_c hs HN0 hnb0 hra hds).mono ?_; clear hs; rintro r w ⟨B, m, cB, hm, rfl, hs⟩)
    | (refine wpl_buildS (build_cf (N : Nat) ((q3 : Nat) + 1) B m cB) rfl ?_)
    | (refine wpl_alloc zeroCf hs ?_; clear hs; intro g9 w hs; replace hs : St w0 (blk g9 (cfC 0 0 none 0 0 none 0 0).toArray 28 :: _) w := hs)
    | (refine wpl_store_agg (v := .agg (cfC (N : Nat) ((q3 : Nat) + 1) B m cB none 0 0).toArray) rfl rfl (sizeCfv _ _ _ _ _ _ _ _) hs WrA.slotCf ?_; clear hs; intro w hs))
  have hm8 : m ≤ 8 := by rw [← hm.out]; exact hl8
  clear hl8 hra hnb0 HN0 hds h255 h3b hN
  have f0 : World.cell? _ ⟨g9, 0, none⟩ = some (.int .i64 (N : Nat)) := Rd.blk (by rfl) _ hs
  have f1 : World.cell? _ ⟨g9, 1, none⟩ = some (.int .i64 ((q3 : Nat) + 1)) := Rd.blk (by rfl) _ hs
  have f2 : World.cell? _ ⟨g9, 2, none⟩ = some (.slice B m cB) := Rd.blk (by rfl) _ hs
  go_upto_region 5 with (first
    | (go_at_call 14; refine (en_new_ok (n := N) (top := (q3 : Nat) + 1) hs hN1 hN2 (by omega) (by omega) hm (by omega) (RdS.own hs.drop).tail HER).mono ?_; clear hs f0 f1 f2; rintro r w ⟨E, A1, R, l, HNL, rfl, hs⟩)
    | (go_at_call 15; refine (awake15 (hT.grew hs.below)).mono ?_; rintro r w ⟨rfl, hg⟩; replace hs := hs.grew hg; clear hg))
  have HOK1 := Lib.hid (en_oks hs)
  clear HER
  go_upto_region 6 with (first
    | (refine wpl_load_agg (cs := cfC (N : Nat) ((q3 : Nat) + 1) B m cB none 0 0) (b := g9) (o := 0) rfl aggCf (sizeCf _ _ _ _ _ _ _ _) hs ?hh ?_; case hh => exact fun j x hx => (Rd.blk (by simpa using hx)).tail)
    | (go_at_call 16; refine (dw_new (n := N) (top := (q3 : Nat) + 1) (rs := []) hs hN2 (by omega) (by omega) hm (by omega) (RdS.own hs.drop.drop).tail.tail HOK rfl (by decide) (by decide) RdS.nil).mono ?_; clear hs; rintro r w ⟨M, l2, rfl, HNL2, hs⟩))
  have HP0 : Hid (EpI ⟨(q3 : Nat) + 1, newA N, l⟩ ⟨⟨(q3 : Nat) + 1, newA N, l2⟩, [], [], false⟩ m 0) := ⟨NewL.al HNL.out HNL2.out HOK1.out (dw_oks hs), rfl, by rw [HNL.out.len]; exact hm.out, HNL.out.pt.ev⟩
  clear HNL HNL2 HOK1
  replace hs : St w0 [EnB E A1 R ⟨(q3 : Nat) + 1, newA N, l⟩, DwB M ⟨⟨(q3 : Nat) + 1, newA N, l2⟩, [], [], false⟩, own none 0 0 40 2 (hsV []), blk g9 (cfC (N : Nat) ((q3 : Nat) + 1) B m cB none 0 0).toArray 28, own B m cB 97 3 (cs3 ds)] w := by
    have h1 := St.own_nil hs 40 2
    rw [show ([] : List Value) = hsV [] by unfold hsV; rfl] at h1
    exact h1.ent (by (repeat first | exact Ent.refl _ | refine Ent.step (by repeat first | exact Ent.refl _ | apply Ent.skip) ?_))
  go_upto_region 8 with (fail)
  go_loopw [13, 14] (fun av iv wr => ∃ (i na ca : Nat) (Ba : Option Addr) (all : List Hdl) (s : EnS) (t : WoS), (i ≤ nb ∧ i ≤ 100 ∧ na ≤ i) ∧ av = .slice Ba na ca ∧ iv = .int .i64 (i : Nat) ∧ Hid (all.length = na) ∧ Hid (EpI s t m i) ∧ St w0 [EnB E A1 R s, DwB M t, own Ba na ca 40 2 (hsV all), blk g9 (cfC (N : Nat) ((q3 : Nat) + 1) B m cB none 0 0).toArray 28, own B m cB 97 3 (cs3 ds)] wr) (fun _ iv _ => nb - (intOf iv).toNat)
  case atStart => exact ⟨0, 0, 0, none, [], _, _, by omega, rfl, rfl, rfl, HP0, hs⟩
  case round =>
    clear hs HP0 l l2
    obtain ⟨i, na, ca, Ba, all, s, t, ⟨hi, hi1, hna⟩, rfl, rfl, HNA, HP, hs⟩ := hrel
    go_upto_region 8 with (fail)
    go_cut [85] from 78 to 85 (fun bv wx => ∃ bb : Bool, bv = .bool bb ∧ Hid (bb = decide (i < nb ∧ i < 100)) ∧ wr = wx)
    case first =>
      by_cases h1 : i < nb
      · by_cases h2 : i < 100
        · go_wp2
          go_meet
          exact ⟨true, congrArg Value.bool (decide_eq_true (by omega)), by simp [Hid, h1, h2], rfl⟩
        · go_wp2
          go_meet
          exact ⟨false, congrArg Value.bool (decide_eq_false (by omega)), by simp [Hid, h1, h2], rfl⟩
      · go_wp2
        go_meet
        exact ⟨false, rfl, by simp [Hid, h1], rfl⟩
    case rest =>
    obtain ⟨bb, rfl, hbc, rfl⟩ := hcut
    cases bb
    case true =>
      obtain ⟨hl1, hl2⟩ := of_decide_eq_true hbc.out.symm
      clear hbc
      go_upto_region 10 with (fail)
      refine ep_round hT hxn hrb hm8 hl1 hl2 hna HNA HP hs (by assumption) ?HN
      case HN =>
        unfold EpHN
        intros
        rename_i w na' ca' Ba' all' s' t' hna' HNA' HP' hs
        go_wp2
        go_roundw
        case rel => exact ⟨i + 1, na', ca', Ba', all', s', t', by omega, by first | rfl | go_num, by first | rfl | go_num, HNA', HP', hs⟩
        case measure => simp [intOf] <;> omega
    case false =>
      clear hbc hrb HNA
      obtain ⟨ml, HM⟩ : ∃ z, Hid ((idxS 1 s.cs).length = z) := ⟨_, rfl⟩
      have hmb : ml ≤ 65536 := by have h1 := idx_len 1 s.cs; rw [HM.out] at h1; have := en_few hs; omega
      obtain ⟨hl, HH⟩ : ∃ z, Hid (allH s.cs (idxS 1 s.cs) = z) := ⟨_, rfl⟩
      have HHL : Hid (hl.length = ml) := by rw [Hid, ← HH.out, allH_len]; exact HM.out
      have HLS : Hid (s.l.length = m) := HP.out.len
      obtain ⟨K, A3, n3, c3', R3, hK0, _, hpad, hs, hback⟩ := hs.rot.dwal
      have hf3 : c3'.length ≤ n3 := hs.rot.raopen.1.fits
      have hcs : padA n3 c3' = s.cs := hpad.trans HP.out.cs.symm
      have HM2 : Hid ((idxS 1 c3').length = ml) := by rw [Hid, ← idxS_pad hf3 (by decide), hcs]; exact HM.out
      have HH2 : Hid (allH c3' (idxS 1 c3') = hl) := by rw [Hid, ← all_pad hf3 (by decide), hcs]; exact HH.out
      have HK0 := Lib.hid hK0
      clear hK0 hpad hf3 hcs hback HP
      replace hs := hs.up3.enopen
      replace hs : St w0 (blk E (enC A1 R) 53 :: blk M K 59 :: blk g9 (cfC (N : Nat) ((q3 : Nat) + 1) B m cB none 0 0).toArray 28 :: AlB A1 s.top s.cs :: RgB R s.l :: RaB A3 n3 t.e.top c3' :: R3 :: own Ba na ca 40 2 (hsV all) :: own B m cB 97 3 (cs3 ds) :: []) _ := hs.ent (by (repeat first | exact Ent.refl _ | refine Ent.step (by repeat first | exact Ent.refl _ | apply Ent.skip) ?_))
      go_upto_region 57 with (fail)
      refine wp_mix 6 [0, 3, 4, 5] [1, 2, 6, 7, 8, 9, 10, 11, 12, 13, 14, 15, 16, 17, 18] hs.only3 (by kernel_rfl) (by kernel_rfl) fun hne => ?_
      have r0 := (show Rd w0 [blk E (enC A1 R) 53, blk M K 59, blk g9 (cfC (N : Nat) ((q3 : Nat) + 1) B m cB none 0 0).toArray 28] ⟨M, 0, none⟩ (.pointer (some ⟨A3, 0, none⟩)) from (Rd.blk HK0.out).tail).alln
      have r1 := (show Rd w0 [blk E (enC A1 R) 53, blk M K 59, blk g9 (cfC (N : Nat) ((q3 : Nat) + 1) B m cB none 0 0).toArray 28] ⟨g9, 2, none⟩ (.slice B m cB) from (Rd.blk (by rfl)).tail.tail).alln
      simp only [opsAt, List.getElem?_toArray, List.getElem?_cons_succ, List.getElem?_cons_zero]
      repeat (go_big_quiet_step (fail))
      refine wpQuiet_nil ?_
      clear hne 
      replace hs := hs.drew
      refine wpMix_next [1] (by kernel_rfl) (by simp) (fun c hc => ?_)
      simp only [List.mem_singleton] at hc
      subst hc
      refine ⟨_, rfl, ?_⟩
      go_wp2_with (first
        | (go_at_call 40; refine (en_reg_k (Rd.blk (by rfl) _ hs)).mono ?_; rintro r w9 ⟨rfl, rfl⟩))
      refine mix_quiet [] [2, 6, 7, 8, 9, 10, 11, 12, 13, 14, 15, 16, 17, 18] hs.only3 (by kernel_rfl) (by kernel_rfl) fun hne => ?_
      simp only [opsAt]
      refine wpQuiet_nil ?_
      clear hne
      refine wpMix_next [2] (by kernel_rfl) (by simp) (fun c hc => ?_)
      simp only [List.mem_singleton] at hc
      subst hc
      refine ⟨_, rfl, ?_⟩
      go_wp2_with (first
        | (go_at_call 43; refine (rg_len hs.up4 HLS).mono ?_; rintro r w9 ⟨rfl, rfl⟩))
      refine mix_quiet [6, 7, 8, 11, 12, 13, 14] [9, 10, 15, 16, 17, 18] hs.only3 (by kernel_rfl) (by kernel_rfl) fun hne => ?_
      simp only [opsAt, List.getElem?_toArray, List.getElem?_cons_succ, List.getElem?_cons_zero]
      repeat (go_big_quiet_step (fail))
      refine wpQuiet_nil ?_
      clear hne
      refine wpMix_next [9] (by kernel_rfl) (by simp) (fun c hc => ?_)
      simp only [List.mem_singleton] at hc
      subst hc
      refine ⟨_, rfl, ?_⟩
      go_wp2_with (first
        | (go_at_call 39; refine (en_alloc_k (Rd.blk (by rfl) _ hs)).mono ?_; rintro r w9 ⟨rfl, rfl⟩))
      refine mix_quiet [] [10, 15, 16, 17, 18] hs.only3 (by kernel_rfl) (by kernel_rfl) fun hne => ?_
      simp only [opsAt]
      refine wpQuiet_nil ?_
      clear hne
      refine wpMix_next [10] (by kernel_rfl) (by simp) (fun c hc => ?_)
      simp only [List.mem_singleton] at hc
      subst hc
      refine ⟨_, rfl, ?_⟩
      go_wp2_with (first
        | (go_at_call 44; refine (live_c (hT.grew hs.below) hs.up3 HM).mono ?_; rintro r w ⟨B7, c7, rfl, hm9⟩; rw [HH.out] at hm9; replace hs := hs.made hm9; clear hm9))
      replace hs : St w0 (blk E (enC A1 R) 53 :: blk M K 59 :: blk g9 (cfC (N : Nat) ((q3 : Nat) + 1) B m cB none 0 0).toArray 28 :: AlB A1 s.top s.cs :: RgB R s.l :: RaB A3 n3 t.e.top c3' :: R3 :: own Ba na ca 40 2 (hsV all) :: own B m cB 97 3 (cs3 ds) :: own B7 ml c7 40 2 (hsV hl) :: []) w := hs.ent (by (repeat first | exact Ent.refl _ | refine Ent.step (by repeat first | exact Ent.refl _ | apply Ent.skip) ?_))
      refine mix_quiet [] [15, 16, 17, 18] hs.only3 (by kernel_rfl) (by kernel_rfl) fun hne => ?_
      simp only [opsAt]
      refine wpQuiet_nil ?_
      clear hne
      refine wpMix_next [15] (by kernel_rfl) (by simp) (fun c hc => ?_)
      simp only [List.mem_singleton] at hc
      subst hc
      refine ⟨_, rfl, ?_⟩
      go_wp2_with (first
        | (go_at_call 45; refine (in_c (s := 1) hs.up5 HM2).mono ?_; rintro r w ⟨B8, c8, rfl, hm9⟩; rw [HH2.out] at hm9; replace hs := hs.made hm9; clear hm9))
      replace hs : St w0 (blk E (enC A1 R) 53 :: blk M K 59 :: blk g9 (cfC (N : Nat) ((q3 : Nat) + 1) B m cB none 0 0).toArray 28 :: AlB A1 s.top s.cs :: RgB R s.l :: RaB A3 n3 t.e.top c3' :: R3 :: own Ba na ca 40 2 (hsV all) :: own B m cB 97 3 (cs3 ds) :: own B7 ml c7 40 2 (hsV hl) :: own B8 ml c8 40 2 (hsV hl) :: []) w := hs.ent (by (repeat first | exact Ent.refl _ | refine Ent.step (by repeat first | exact Ent.refl _ | apply Ent.skip) ?_))
      refine mix_quiet [] [16, 17, 18] hs.only3 (by kernel_rfl) (by kernel_rfl) fun hne => ?_
      simp only [opsAt]
      refine wpQuiet_nil ?_
      clear hne
      refine wpMix_next [16] (by kernel_rfl) (by simp) (fun c hc => ?_)
      simp only [List.mem_singleton] at hc
      subst hc
      refine ⟨_, rfl, ?_⟩
      have hs2 : St w0 (own B7 ml c7 40 2 (hsV hl) :: own B8 ml c8 40 2 (hsV hl) :: blk E (enC A1 R) 53 :: blk M K 59 :: blk g9 (cfC (N : Nat) ((q3 : Nat) + 1) B m cB none 0 0).toArray 28 :: AlB A1 s.top s.cs :: RgB R s.l :: RaB A3 n3 t.e.top c3' :: R3 :: own Ba na ca 40 2 (hsV all) :: own B m cB 97 3 (cs3 ds) :: []) _ := hs.ent (by (repeat first | exact Ent.refl _ | refine Ent.step (by repeat first | exact Ent.refl _ | apply Ent.skip) ?_))
      go_wp2_with (first
        | (go_at_call 36; refine (sameH_c HHL.out (by omega) hs2 (RdS.own hs2) (RdS.own hs2.drop).tail).mono ?_; rintro r w9 ⟨rfl, hg⟩; replace hs := hs.grew hg; clear hg hs2))
      refine mix_quiet [17, 18] [] hs.only3 (by kernel_rfl) (by kernel_rfl) fun hne => ?_
      simp only [opsAt, List.getElem?_toArray, List.getElem?_cons_succ, List.getElem?_cons_zero]
      repeat (go_big_quiet_step (fail))
      refine wpQuiet_nil ?_
      clear hne
      refine wpMix_end ?_
      go_wp2
      go_ret
      exact ⟨rfl, hs.grew0⟩
end Go.Proofs.YtiafdlofcjbllaaGreatDoor
