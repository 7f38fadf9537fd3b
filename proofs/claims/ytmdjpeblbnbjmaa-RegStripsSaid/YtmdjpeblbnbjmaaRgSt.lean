/-
  RegStrips: the walk. (Printed by gen_strips.py.)
-/
import Derived.Test.YtmdjpeblbnbjmaaRgStL
import Derived.Deep.DeepCutAuto
import Derived.Deep.CutBlock
set_option maxRecDepth 100000
namespace Go.Proofs.Ytmdjpeblbnbjmaa
open Go Go.RowKit
attribute [local irreducible] wpList Calls Code.wp okI okN pS tS memS getG pG insS delS getV pV tV okVal newSl SlS.put SlS.err SlS.putU SlS.putB descE mkD mkV SlS.take SlS.set SlS.errSet SlS.get SlS.has kdE ofN strL rgE stNew
set_option maxHeartbeats 8000000 in
theorem rgstrips_c {w0 : World} {va : Value} {za : List Int} (hva : IntArg w0 va za) (ai bi : Int) (wi : Int) (hw1 : 0 ≤ wi) (hw2 : wi ≤ 18446744073709551615) (oi : Int) (ho1 : 0 ≤ oi) (ho2 : oi ≤ 18446744073709551615) : Calls Try.prog 8 #[va, .int .i64 ai, .int .i64 bi, .int .u64 wi, .int .u64 oi] w0 (LawPost w0) := by
  obtain ⟨A, na, ca, rfl, hlen, hnc, hcm, hra, hba⟩ := hva
  subst hlen
  unfold maxLen at hcm
  have hs := St.start w0
  have hi := and_ffff ai
  have hk := and_ffff bi
  have hxi := kx_lt ai
  have hxk := kx_lt bi
  generalize kx ai = p at hi hxi
  generalize kx bi = q at hk hxk
  go_enter Try.func8, Try.ntmps8
  go_upto_region 3 with (first
    | (go_at_call 10; refine (rg_new hs).mono ?_; clear hs; rintro r w ⟨R, rfl, hs⟩))
  go_upto_if 36 with (fail)
  go_cut [2] (fun kv wx => ∃ q : Nat, kv = .int .i64 (q : Nat) ∧ q < 65536 ∧ p ≠ q ∧ w = wx)
  case first =>
    by_cases hpq : p = q
    · subst hpq
      obtain ⟨hx, hxq, hxn⟩ := xor_one hxi
      go_wp2
      go_meet
      exact ⟨p ^^^ 1, rfl, hxq, fun e => hxn e.symm, rfl⟩
    · go_wp2
      go_meet
      exact ⟨q, rfl, hxk, hpq, rfl⟩
  case rest =>
    clear hk hxk q
    obtain ⟨q, rfl, hxq, hpq, rfl⟩ := hcut
    obtain ⟨wa, hwa⟩ : ∃ wa : Nat → Bool, ∀ c, wa c = decide (wi / 2 ^ c % 2 = 1) := ⟨_, fun _ => rfl⟩
    obtain ⟨wb, hwb⟩ : ∃ wb : Nat → Bool, ∀ c, wb c = decide (oi / 2 ^ c % 2 = 1) := ⟨_, fun _ => rfl⟩
    have HWA := Lib.hid hwa
    have HWB := Lib.hid hwb
    clear hwa hwb
    go_wp2
    go_loopw [12, 13, 14, 15] (fun rv nv mv cv wr => ∃ (k n m cR : Nat) (B : Option Addr) (l : List Cmp), k ≤ 20 ∧ rv = .slice B k cR ∧ nv = .int .i64 (n : Nat) ∧ mv = .int .i64 (m : Nat) ∧ cv = .int .i64 (k : Nat) ∧ Hid (l.length = k) ∧ Hid ((ofN l (p : Nat) l.length).length = n) ∧ Hid ((ofN l (q : Nat) l.length).length = m) ∧ n ≤ k ∧ m ≤ k ∧ Hid (StI (p : Nat) (q : Nat) wa wb l) ∧ St w0 [RgB R l, own B k cR 3 1 (nsV (List.replicate k 0))] wr) (fun _ _ _ cv _ => 20 - (intOf cv).toNat)
    case atStart => exact ⟨0, 0, 0, 0, none, [], Nat.zero_le _, rfl, rfl, rfl, rfl, rfl, by unfold ofN; rfl, by unfold ofN; rfl, Nat.le_refl _, Nat.le_refl _, fun c x h => by simp at h, (hs.own_nil 3 1).rot⟩
    case round =>
      clear hs
      obtain ⟨k, n, m, cR, B, l, hk20, rfl, rfl, rfl, rfl, hl, hn, hm, hnk, hmk, hI, hs⟩ := hrel
      by_cases hlt : 2 * k + 1 < za.length ∧ k < 20
      · obtain ⟨h1, h2⟩ := hlt
        obtain ⟨b1, o1, z1, rfl, hc1, hz1⟩ := hra.int (show 2 * k < za.length by omega)
        obtain ⟨b2, o2, z2, he2, hc2, hz2⟩ := hra.int (show 2 * k + 1 < za.length by omega)
        injection he2 with he2
        injection he2 with e1 e2
        subst e1; subst e2
        obtain ⟨d, HD⟩ : ∃ d, Hid (mkD z1 z2 0 = d) := ⟨_, rfl⟩
        have hde : Hid (descE d = 0) := by rw [Hid, ← HD.out]; exact mkD_ok _ _ _
        go_upto_region 12 with (fail)
        go_cut [16] (fun g wx => ∃ g16, g = .pointer (some ⟨g16, 0, none⟩) ∧ St w0 [RgB R l, own B k cR 3 1 (nsV (List.replicate k 0)), blk g16 (c3 d).toArray 28] wx)
        case first => as_aux_lemma =>
          refine wp_all_plain (n := 3) [false, false, false, false, false, false, false, false, false, false, false, true, true, true] hs.only (by kernel_rfl) (by kernel_rfl) (by kernel_rfl) fun hne => ?_
          have c1 := (hc1.tail (p := RgB R l)).alln
          have c2 := (hc2.tail (p := RgB R l)).alln
          simp only [pickOps]
          repeat (go_big_quiet_step (fail))
          refine wpQuiet_nil ?_
          clear hne c1 c2
          replace hs := hs.drew
          refine wpAllP_next [11, 12] (by kernel_rfl) (fun c hc => ?_)
          simp only [List.mem_cons, List.not_mem_nil, or_false] at hc
          rcases hc with rfl | rfl
          · skip
            refine ⟨_, rfl, ?_⟩
            go_wp2_with (first
              | (go_at_call 21; refine (ldesc_c _ _ _ HD).mono ?_; rintro r w ⟨rfl, hg⟩; replace hs := hs.grew hg; clear hg))
            refine ⟨hs.only, ?_⟩
            refine wpAllP_next [12] (by kernel_rfl) (fun c hc => ?_)
            simp only [List.mem_singleton] at hc
            subst hc
            refine ⟨_, rfl, ?_⟩
            refine wpl_alloc zero3D hs ?_
            clear hs
            intro g16 w hs
            replace hs : St w0 (blk g16 (c3 V3.z).toArray 28 :: _) w := hs
            replace hs : St w0 (RgB R l :: own B k cR 3 1 (nsV (List.replicate k 0)) :: blk g16 (c3 V3.z).toArray 28 :: []) w := hs.ent (by (repeat first | exact Ent.refl _ | refine Ent.step (by first | exact Ent.refl _ | exact Ent.skip (Ent.refl _) | exact Ent.skip (Ent.skip (Ent.refl _)) | exact Ent.skip (Ent.skip (Ent.skip (Ent.refl _))) | exact Ent.skip (Ent.skip (Ent.skip (Ent.skip (Ent.refl _)))) | exact Ent.skip (Ent.skip (Ent.skip (Ent.skip (Ent.skip (Ent.refl _))))) | exact Ent.skip (Ent.skip (Ent.skip (Ent.skip (Ent.skip (Ent.skip (Ent.refl _)))))) | exact Ent.skip (Ent.skip (Ent.skip (Ent.skip (Ent.skip (Ent.skip (Ent.skip (Ent.refl _))))))) | exact Ent.skip (Ent.skip (Ent.skip (Ent.skip (Ent.skip (Ent.skip (Ent.skip (Ent.skip (Ent.refl _)))))))) | exact Ent.skip (Ent.skip (Ent.skip (Ent.skip (Ent.skip (Ent.skip (Ent.skip (Ent.skip (Ent.skip (Ent.refl _)))))))))) ?_))
            refine wpList_nil ⟨rfl, hs.only, ?_⟩
            refine wpAll_last [13] (by kernel_rfl) (fun c hc => ?_)
            simp only [List.mem_singleton] at hc
            subst hc
            refine ⟨_, rfl, ?_⟩
            refine wpl_store_agg (v := val3 d) rfl rfl (size3D _) (hs.ent (M := blk g16 (c3 V3.z).toArray 28 :: RgB R l :: own B k cR 3 1 (nsV (List.replicate k 0)) :: []) (by (repeat first | exact Ent.refl _ | refine Ent.step (by first | exact Ent.refl _ | exact Ent.skip (Ent.refl _) | exact Ent.skip (Ent.skip (Ent.refl _)) | exact Ent.skip (Ent.skip (Ent.skip (Ent.refl _))) | exact Ent.skip (Ent.skip (Ent.skip (Ent.skip (Ent.refl _)))) | exact Ent.skip (Ent.skip (Ent.skip (Ent.skip (Ent.skip (Ent.refl _))))) | exact Ent.skip (Ent.skip (Ent.skip (Ent.skip (Ent.skip (Ent.skip (Ent.refl _)))))) | exact Ent.skip (Ent.skip (Ent.skip (Ent.skip (Ent.skip (Ent.skip (Ent.skip (Ent.refl _))))))) | exact Ent.skip (Ent.skip (Ent.skip (Ent.skip (Ent.skip (Ent.skip (Ent.skip (Ent.skip (Ent.refl _)))))))) | exact Ent.skip (Ent.skip (Ent.skip (Ent.skip (Ent.skip (Ent.skip (Ent.skip (Ent.skip (Ent.skip (Ent.refl _)))))))))) ?_))) WrA.slot3 ?_
            clear hs
            intro w hs
            replace hs : St w0 (RgB R l :: own B k cR 3 1 (nsV (List.replicate k 0)) :: blk g16 (c3 d).toArray 28 :: []) w := hs.ent (by (repeat first | exact Ent.refl _ | refine Ent.step (by first | exact Ent.refl _ | exact Ent.skip (Ent.refl _) | exact Ent.skip (Ent.skip (Ent.refl _)) | exact Ent.skip (Ent.skip (Ent.skip (Ent.refl _))) | exact Ent.skip (Ent.skip (Ent.skip (Ent.skip (Ent.refl _)))) | exact Ent.skip (Ent.skip (Ent.skip (Ent.skip (Ent.skip (Ent.refl _))))) | exact Ent.skip (Ent.skip (Ent.skip (Ent.skip (Ent.skip (Ent.skip (Ent.refl _)))))) | exact Ent.skip (Ent.skip (Ent.skip (Ent.skip (Ent.skip (Ent.skip (Ent.skip (Ent.refl _))))))) | exact Ent.skip (Ent.skip (Ent.skip (Ent.skip (Ent.skip (Ent.skip (Ent.skip (Ent.skip (Ent.refl _)))))))) | exact Ent.skip (Ent.skip (Ent.skip (Ent.skip (Ent.skip (Ent.skip (Ent.skip (Ent.skip (Ent.skip (Ent.refl _)))))))))) ?_))
            go_wp2
            go_meet
            exact ⟨_, rfl, hs⟩
          · skip
            refine ⟨_, rfl, ?_⟩
            refine wpl_alloc zero3D hs ?_
            clear hs
            intro g16 w hs
            replace hs : St w0 (blk g16 (c3 V3.z).toArray 28 :: _) w := hs
            replace hs : St w0 (RgB R l :: own B k cR 3 1 (nsV (List.replicate k 0)) :: blk g16 (c3 V3.z).toArray 28 :: []) w := hs.ent (by (repeat first | exact Ent.refl _ | refine Ent.step (by first | exact Ent.refl _ | exact Ent.skip (Ent.refl _) | exact Ent.skip (Ent.skip (Ent.refl _)) | exact Ent.skip (Ent.skip (Ent.skip (Ent.refl _))) | exact Ent.skip (Ent.skip (Ent.skip (Ent.skip (Ent.refl _)))) | exact Ent.skip (Ent.skip (Ent.skip (Ent.skip (Ent.skip (Ent.refl _))))) | exact Ent.skip (Ent.skip (Ent.skip (Ent.skip (Ent.skip (Ent.skip (Ent.refl _)))))) | exact Ent.skip (Ent.skip (Ent.skip (Ent.skip (Ent.skip (Ent.skip (Ent.skip (Ent.refl _))))))) | exact Ent.skip (Ent.skip (Ent.skip (Ent.skip (Ent.skip (Ent.skip (Ent.skip (Ent.skip (Ent.refl _)))))))) | exact Ent.skip (Ent.skip (Ent.skip (Ent.skip (Ent.skip (Ent.skip (Ent.skip (Ent.skip (Ent.skip (Ent.refl _)))))))))) ?_))
            refine wpList_nil ⟨rfl, hs.only, ?_⟩
            refine wpAllP_next [11] (by kernel_rfl) (fun c hc => ?_)
            simp only [List.mem_singleton] at hc
            subst hc
            refine ⟨_, rfl, ?_⟩
            go_wp2_with (first
              | (go_at_call 21; refine (ldesc_c _ _ _ HD).mono ?_; rintro r w ⟨rfl, hg⟩; replace hs := hs.grew hg; clear hg))
            refine ⟨hs.only, ?_⟩
            refine wpAll_last [13] (by kernel_rfl) (fun c hc => ?_)
            simp only [List.mem_singleton] at hc
            subst hc
            refine ⟨_, rfl, ?_⟩
            refine wpl_store_agg (v := val3 d) rfl rfl (size3D _) (hs.ent (M := blk g16 (c3 V3.z).toArray 28 :: RgB R l :: own B k cR 3 1 (nsV (List.replicate k 0)) :: []) (by (repeat first | exact Ent.refl _ | refine Ent.step (by first | exact Ent.refl _ | exact Ent.skip (Ent.refl _) | exact Ent.skip (Ent.skip (Ent.refl _)) | exact Ent.skip (Ent.skip (Ent.skip (Ent.refl _))) | exact Ent.skip (Ent.skip (Ent.skip (Ent.skip (Ent.refl _)))) | exact Ent.skip (Ent.skip (Ent.skip (Ent.skip (Ent.skip (Ent.refl _))))) | exact Ent.skip (Ent.skip (Ent.skip (Ent.skip (Ent.skip (Ent.skip (Ent.refl _)))))) | exact Ent.skip (Ent.skip (Ent.skip (Ent.skip (Ent.skip (Ent.skip (Ent.skip (Ent.refl _))))))) | exact Ent.skip (Ent.skip (Ent.skip (Ent.skip (Ent.skip (Ent.skip (Ent.skip (Ent.skip (Ent.refl _)))))))) | exact Ent.skip (Ent.skip (Ent.skip (Ent.skip (Ent.skip (Ent.skip (Ent.skip (Ent.skip (Ent.skip (Ent.refl _)))))))))) ?_))) WrA.slot3 ?_
            clear hs
            intro w hs
            replace hs : St w0 (RgB R l :: own B k cR 3 1 (nsV (List.replicate k 0)) :: blk g16 (c3 d).toArray 28 :: []) w := hs.ent (by (repeat first | exact Ent.refl _ | refine Ent.step (by first | exact Ent.refl _ | exact Ent.skip (Ent.refl _) | exact Ent.skip (Ent.skip (Ent.refl _)) | exact Ent.skip (Ent.skip (Ent.skip (Ent.refl _))) | exact Ent.skip (Ent.skip (Ent.skip (Ent.skip (Ent.refl _)))) | exact Ent.skip (Ent.skip (Ent.skip (Ent.skip (Ent.skip (Ent.refl _))))) | exact Ent.skip (Ent.skip (Ent.skip (Ent.skip (Ent.skip (Ent.skip (Ent.refl _)))))) | exact Ent.skip (Ent.skip (Ent.skip (Ent.skip (Ent.skip (Ent.skip (Ent.skip (Ent.refl _))))))) | exact Ent.skip (Ent.skip (Ent.skip (Ent.skip (Ent.skip (Ent.skip (Ent.skip (Ent.skip (Ent.refl _)))))))) | exact Ent.skip (Ent.skip (Ent.skip (Ent.skip (Ent.skip (Ent.skip (Ent.skip (Ent.skip (Ent.skip (Ent.refl _)))))))))) ?_))
            go_wp2
            go_meet
            exact ⟨_, rfl, hs⟩
        case rest =>
          clear hs hc1 hc2 hz1 hz2
          obtain ⟨g16, rfl, hs⟩ := hcut
          obtain ⟨dk, da, db⟩ := d
          obtain ⟨dd, hdd⟩ : ∃ dd : V3, dd = ⟨dk, da, 9⟩ := ⟨_, rfl⟩
          have hdk : Hid (1 ≤ dk ∧ dk ≤ 3) := by
            have := hde.out
            unfold descE at this
            split at this
            · rename_i h; exact ⟨h.1, h.2.1⟩
            · cases this
          have HDE : Hid (descE dd = 0) := by
            have := hde.out
            rw [Hid, hdd]
            unfold descE at this ⊢
            simp only at this ⊢
            split at this
            · rename_i h
              rw [if_pos (by omega)]
              exact this
            · cases this
          have HDB : Hid (dd.b = 9) := by rw [Hid, hdd]
          have HDK : Hid (dd.k = dk) := by rw [Hid, hdd]
          have HE : Hid (rgE l dd = 0) := by rw [Hid]; unfold rgE; rw [if_pos HDE.out, if_neg (by rw [hl.out]; omega)]
          obtain ⟨x, HX⟩ : ∃ x, Hid (mkV dk 1 2 = x) := ⟨_, rfl⟩
          obtain ⟨y, HY⟩ : ∃ x, Hid (mkV dk 3 4 = x) := ⟨_, rfl⟩
          have HXO : Hid (okVal x = true ∧ x.k = dd.k) := ⟨by rw [← HX.out]; exact mkV_ok hdk.out _ _, by rw [← HX.out, mkV_k, HDK.out]⟩
          have HYO : Hid (okVal y = true ∧ y.k = dd.k) := ⟨by rw [← HY.out]; exact mkV_ok hdk.out _ _, by rw [← HY.out, mkV_k, HDK.out]⟩
          have HDD := Lib.hid hdd
          clear hdd
          go_upto_region 15 with (first
            | (refine wpl_store rfl rfl rfl size_int' (hs.up2) (Wr.c32 (b' := 9)) ?_; clear hs; intro w hs; rw [← HDD.out] at hs)
            | (refine wpl_load3 (v := dd) rfl (has3_slot (t := 28)) agg3D (size3Dn (v := V3.z)) hs ?_)
            | (go_at_call 11; refine (rg_add hs.rot dd HE hl).mono ?_; clear hs; rintro r w ⟨X, v, F, rfl, hs⟩))
          have HCX : Hid ((l ++ [(X, newSl dd v F)])[k]? = some (X, newSl dd v F)) := by rw [Hid, List.getElem?_append_right (by rw [hl.out]; exact Nat.le_refl _), hl.out]; simp
          obtain ⟨f, rfl⟩ := newF_some (rg_wf hs HCX.out).ok (by rw [HDB.out]; decide)
          have HF := newSl_F dd v f
          have hfacts := Lib.hid (fun wa wb => stC_new (v := v) (f := f) (wa := wa) (wb := wb) HDB.out (a := ((p : Nat) : Int)) (b := ((q : Nat) : Int)) (by omega) (by omega) (by omega) HXO.out HYO.out)
          have hn0 : (newSl dd v (some f)).evs.length = 0 ∧ (newSl dd v (some f)).rds.length = 0 ∧ (newSl dd v (some f)).F = some f := by unfold newSl; exact ⟨rfl, rfl, rfl⟩
          have HN0 := Lib.hid hn0
          clear hn0
          go_upto_region 18 with (first
            | (go_at_call 12; refine (rg_slot hs HCX.out (X := X) rfl).mono ?_; rintro r w ⟨rfl, rfl⟩)
            | (go_at_call 17; refine (rg_flag hs HCX HF).mono ?_; rintro r w ⟨rfl, rfl⟩))
          go_upto_if 97 with (fail)
          have hbv := bit_val hw1 hw2 k
          have hbo := bit_val ho1 ho2 k
          clear hw1 hw2 ho1 ho2 hba
          obtain ⟨ta, hta⟩ : ∃ t, wa k = t := ⟨_, rfl⟩
          obtain ⟨tb, htb⟩ : ∃ t, wb k = t := ⟨_, rfl⟩
          have hbv1 : wi / 2 ^ k % 2 = if ta then 1 else 0 := by
            have h0 := HWA.out k
            rw [hta] at h0
            cases ta
            · have := of_decide_eq_false h0.symm; simp; omega
            · have := of_decide_eq_true h0.symm; simpa using this
          have hbo1 : oi / 2 ^ k % 2 = if tb then 1 else 0 := by
            have h0 := HWB.out k
            rw [htb] at h0
            cases tb
            · have := of_decide_eq_false h0.symm; simp; omega
            · have := of_decide_eq_true h0.symm; simpa using this
          rw [hbv1] at hbv
          rw [hbo1] at hbo
          have HBO := Lib.hid hbo
          have HTA := Lib.hid hta
          have HTB := Lib.hid htb
          clear hbv1 hbo1 hbo hta htb
          obtain ⟨s0, HS0⟩ : ∃ s, Hid (newSl dd v (some f) = s) := ⟨_, rfl⟩
          rw [HS0.out] at hs HCX HF hfacts HN0
          obtain ⟨s1, HS1⟩ : ∃ s, Hid ((if ta then s0.put ((p : Nat) : Int) x else s0) = s) := ⟨_, rfl⟩
          obtain ⟨s2, HS2⟩ : ∃ s, Hid ((if tb then s1.put ((q : Nat) : Int) y else s1) = s) := ⟨_, rfl⟩
          have hff := hfacts.out ta tb
          rw [HS1.out] at hff
          have HFF := Lib.hid hff
          clear hff hfacts
          have HL1 : Hid (s1.evs.length ≤ 1 ∧ s1.F = some f ∧ s1.rds.length = 0) := by
            rw [Hid, ← HS1.out]
            have := SlS.put_len s0 ((p : Nat) : Int) x
            have h0 := HN0.out
            cases ta
            · exact ⟨by show s0.evs.length ≤ 1; omega, h0.2.2, h0.2.1⟩
            · exact ⟨by show (s0.put _ _).evs.length ≤ 1; omega, (SlS.put_F _ _ _).trans h0.2.2, by show (s0.put _ _).rds.length = 0; rw [SlS.put_rds]; exact h0.2.1⟩
          have HL2 : Hid (s2.F = some f ∧ s2.rds.length = 0) := by
            rw [Hid, ← HS2.out]
            cases tb
            · exact ⟨HL1.out.2.1, HL1.out.2.2⟩
            · exact ⟨(SlS.put_F _ _ _).trans HL1.out.2.1, by show (s1.put _ _).rds.length = 0; rw [SlS.put_rds]; exact HL1.out.2.2⟩
          have HC1 : Hid ((l ++ [(X, s1)])[k]? = some (X, s1)) := get_last hl.out
          have HC2 : Hid ((l ++ [(X, s2)])[k]? = some (X, s2)) := get_last hl.out
          obtain ⟨n1, hn1⟩ : ∃ n1, n1 = n + (if ta then 1 else 0) := ⟨_, rfl⟩
          obtain ⟨m1, hm1⟩ : ∃ m1, m1 = m + (if tb then 1 else 0) := ⟨_, rfl⟩
          have HN1 := Lib.hid hn1
          have HM1 := Lib.hid hm1
          clear hn1 hm1
          go_cut [13] (fun nv wx => nv = .int .i64 (n1 : Nat) ∧ St w0 [RgB R (l ++ [(X, s1)]), blk g16 (c3 dd).toArray 28, own B k cR 3 1 (nsV (List.replicate k 0))] wx)
          case first =>
            obtain ⟨f7, _, _⟩ := Has3.facts has3_slot hs.drop
            rw [HDK.out] at f7
            cases ta
            · simp only [Bool.false_eq_true, if_false] at hbv
              go_wp2
              go_meet
              exact ⟨by rw [HN1.out]; rfl, by rw [show s1 = s0 from HS1.out.symm]; exact hs⟩
            · simp only [if_true] at hbv
              obtain ⟨u1, HU1⟩ : ∃ u, Hid (s0.putU ((p : Nat) : Int) x = u) := ⟨_, rfl⟩
              obtain ⟨b1', HB1⟩ : ∃ u, Hid (s0.putB ((p : Nat) : Int) x = u) := ⟨_, rfl⟩
              have HSET : Hid ((l ++ [(X, s0)]).set k (X, s0.put ((p : Nat) : Int) x) = l ++ [(X, s1)]) := by rw [Hid, set_last hl.out, ← HS1.out]; rfl
              go_wp2_with (first
                | (go_at_call 24; refine (lvalue_c _ _ _ HX).mono ?_; rintro r w ⟨rfl, hg⟩; replace hs := hs.grew hg; clear hg f7)
                | (go_at_call 18; refine (rg_put hs HCX (show s0.evs.length < 4611686018427387904 by have := HN0.out.1; omega) HU1 HB1 (Lib.hid HFF.out.2.1) HSET).mono ?_; clear hs; rintro r w ⟨rfl, hs⟩))
              go_meet
              exact ⟨by rw [HN1.out]; go_num, hs⟩
          case rest =>
            clear hs
            obtain ⟨rfl, hs⟩ := hcut
            go_upto_if 110 with (fail)
            go_cut [14] (fun mv wx => mv = .int .i64 (m1 : Nat) ∧ St w0 [RgB R (l ++ [(X, s2)]), blk g16 (c3 dd).toArray 28, own B k cR 3 1 (nsV (List.replicate k 0))] wx)
            case first =>
              obtain ⟨f7, _, _⟩ := Has3.facts has3_slot hs.drop
              rw [HDK.out] at f7
              have hbo := HBO.out
              cases tb
              · simp only [Bool.false_eq_true, if_false] at hbo
                go_wp2
                go_meet
                exact ⟨by rw [HM1.out]; rfl, by rw [show s2 = s1 from HS2.out.symm]; exact hs⟩
              · simp only [if_true] at hbo
                obtain ⟨u1, HU1⟩ : ∃ u, Hid (s1.putU ((q : Nat) : Int) y = u) := ⟨_, rfl⟩
                obtain ⟨b1', HB1⟩ : ∃ u, Hid (s1.putB ((q : Nat) : Int) y = u) := ⟨_, rfl⟩
                have HSET : Hid ((l ++ [(X, s1)]).set k (X, s1.put ((q : Nat) : Int) y) = l ++ [(X, s2)]) := by rw [Hid, set_last hl.out, ← HS2.out]; rfl
                go_wp2_with (first
                  | (go_at_call 24; refine (lvalue_c _ _ _ HY).mono ?_; rintro r w ⟨rfl, hg⟩; replace hs := hs.grew hg; clear hg f7)
                  | (go_at_call 18; refine (rg_put hs HC1 (show s1.evs.length < 4611686018427387904 by have := HL1.out.1; omega) HU1 HB1 (Lib.hid HFF.out.2.2) HSET).mono ?_; clear hs; rintro r w ⟨rfl, hs⟩))
                go_meet
                exact ⟨by rw [HM1.out]; go_num, hs⟩
            case rest => as_aux_lemma =>
              clear hs
              obtain ⟨rfl, hs⟩ := hcut
              obtain ⟨sN, HSN⟩ : ∃ s, Hid (stNew s0 ((p : Nat) : Int) ((q : Nat) : Int) x y ta tb = s) := ⟨_, rfl⟩
              have HST : Hid (StC (p : Nat) (q : Nat) ta tb sN) := by rw [Hid, ← HSN.out]; exact HFF.out.1
              have HSET : Hid ((l ++ [(X, s2)]).set k (X, { s2 with rds := s2.rds ++ [s2.evs.length] }) = l ++ [(X, sN)]) := by
                rw [Hid, set_last hl.out, ← HSN.out]
                unfold stNew
                simp only [HS1.out, HS2.out]
              have HF2 : Hid (fpV s2.F = .pointer (some ⟨f, 0, none⟩)) := by rw [Hid, HL2.out.1]; rfl
              go_wp2_with (first
                | (go_at_call 17; refine (rg_flag hs HC2 HF2).mono ?_; rintro r w ⟨rfl, rfl⟩)
                | (go_at_call 32; refine (rg_reader hs HC2 HL2.out.1 (by rw [HL2.out.2]; decide) (n := 0) HL2.out.2 HSET).mono ?_; clear hs; rintro r w ⟨rfl, hs⟩)
                | (refine wpl_build1 (v := .int .i64 0) elemN (by decide) rfl rfl hs ?_; clear hs; intro G w hs)
                | (refine wpl_append (A := B) (n := k) (cap := cR) (xs := nsV (List.replicate k 0)) (m := 1) (news := [.int .i64 0]) elemN rfl rfl hs (L' := blk G (Value.int .i64 0).cells 3 :: RgB R (l ++ [(X, sN)]) :: [blk g16 (c3 dd).toArray 28]) (by (repeat first | exact Ent.refl _ | refine Ent.step (by first | exact Ent.refl _ | exact Ent.skip (Ent.refl _) | exact Ent.skip (Ent.skip (Ent.refl _)) | exact Ent.skip (Ent.skip (Ent.skip (Ent.refl _))) | exact Ent.skip (Ent.skip (Ent.skip (Ent.skip (Ent.refl _)))) | exact Ent.skip (Ent.skip (Ent.skip (Ent.skip (Ent.skip (Ent.refl _))))) | exact Ent.skip (Ent.skip (Ent.skip (Ent.skip (Ent.skip (Ent.skip (Ent.refl _)))))) | exact Ent.skip (Ent.skip (Ent.skip (Ent.skip (Ent.skip (Ent.skip (Ent.skip (Ent.refl _))))))) | exact Ent.skip (Ent.skip (Ent.skip (Ent.skip (Ent.skip (Ent.skip (Ent.skip (Ent.skip (Ent.refl _)))))))) | exact Ent.skip (Ent.skip (Ent.skip (Ent.skip (Ent.skip (Ent.skip (Ent.skip (Ent.skip (Ent.skip (Ent.refl _)))))))))) ?_)) RdS.blk rfl (by simp; rfl) (by unfold maxLen; omega) (by omega) ?_; clear hs; intro B3 cap3 w hs; replace hs : St w0 [RgB R (l ++ [(X, sN)]), own B3 (k + 1) cap3 3 1 (nsV (List.replicate k 0) ++ [.int .i64 0])] w := (hs.rot.drop).rot.ent (Ent.cons _ (fun _ h => h)) |>.up2.drop))
              have hns : nsV (List.replicate (k + 1) 0) = nsV (List.replicate k 0) ++ [.int .i64 0] := by unfold nsV; rw [List.replicate_succ', List.map_append]; rfl
              have hlN : (l ++ [(X, sN)]).length = k + 1 := by rw [List.length_append, hl.out]; rfl
              have hnN : (ofN (l ++ [(X, sN)]) ((p : Nat) : Int) (l ++ [(X, sN)]).length).length = n1 := by rw [ofN_push, hn.out, HN1.out, show (X, sN).2.has ((p : Nat) : Int) = ta from HST.out.ha]
              have hmN : (ofN (l ++ [(X, sN)]) ((q : Nat) : Int) (l ++ [(X, sN)]).length).length = m1 := by rw [ofN_push, hm.out, HM1.out, show (X, sN).2.has ((q : Nat) : Int) = tb from HST.out.hb]
              have hIN : StI ((p : Nat) : Int) ((q : Nat) : Int) wa wb (l ++ [(X, sN)]) := hI.out.push (by rw [hl.out, HTA.out, HTB.out]; exact HST.out)
              have hn1k : n1 ≤ k + 1 := by rw [HN1.out]; split <;> omega
              have hm1k : m1 ≤ k + 1 := by rw [HM1.out]; split <;> omega
              rw [← hns] at hs
              go_roundw
              case rel => exact ⟨k + 1, n1, m1, cap3, B3, l ++ [(X, sN)], by omega, by first | rfl | go_num, rfl, rfl, by first | rfl | go_num, hlN, hnN, hmN, hn1k, hm1k, hIN, hs⟩
              case measure => simp [intOf] <;> omega
      · have hwp := wf_nat (i := p) (by omega)
        have hwq := wf_nat (i := q) (by omega)
        obtain ⟨l1, HL1⟩ : ∃ l', Hid (strL l ((p : Nat) : Int) = l') := ⟨_, rfl⟩
        have HEV : Hid (∀ x ∈ l, x.2.evs.length < 4611686018427387904) := fun x hx => by
          obtain ⟨c, hc⟩ := List.mem_iff_getElem?.1 hx
          have := (hI.out c x hc).len
          omega
        have HLL1 : Hid (l1.length = k) := by rw [Hid, ← HL1.out]; unfold strL; rw [List.length_map]; exact hl.out
        have HO1 : Hid (ofN l1 ((p : Nat) : Int) l1.length = []) := by rw [Hid, ← HL1.out]; exact ofN_strL_same
        have HO2 : Hid ((ofN l1 ((q : Nat) : Int) l1.length).length = m) := by
          rw [Hid, HLL1.out, ← HL1.out, ofN_strL_other (by omega), ← hl.out]; exact hm.out
        obtain ⟨o2, HO3⟩ : ∃ o, Hid (ofN l1 ((q : Nat) : Int) l1.length = o) := ⟨_, rfl⟩
        rw [HO3.out] at HO2
        have hn' := hn
        have HST : Hid (∀ c y, l1[c]? = some y → ∃ X s, y = (X, s.take ((p : Nat) : Int)) ∧ StC (p : Nat) (q : Nat) (wa c) (wb c) s) := fun c y hy => by
          rw [← HL1.out] at hy
          obtain ⟨x, hx, he⟩ := strL_get hy
          exact ⟨x.1, x.2, he, hI.out c x hx⟩
        have HBV : Hid (∀ c : Nat, bits .and .u64 (wi / 2 ^ c) 1 = if wa c then 1 else 0) := fun c => by
          rw [bit_val hw1 hw2 c]
          have h0 := HWA.out c
          cases hta : wa c
          · rw [hta] at h0
            have := of_decide_eq_false h0.symm; simp; omega
          · rw [hta] at h0
            have := of_decide_eq_true h0.symm; simpa using this
        clear hw1 hw2 ho1 ho2 hba
        by_cases h3 : 2 * k + 1 < za.length
        · have h4 : ¬ k < 20 := fun h => hlt ⟨h3, h⟩
          clear hlt
          go_upto_region 29 with (first
            | (go_at_call 29; refine (rg_strip hs hwp HEV.out hn' HL1).mono ?_; clear hs; rintro r w ⟨rfl, hs⟩)
            | (go_at_call 28; refine (rg_of hs hwp HO1).mono ?_; clear hs; rintro r w ⟨B4, m4, cB4, hm4, rfl, hs⟩; obtain rfl : m4 = 0 := hm4.out.symm; replace hs := hs.drop)
            | (go_at_call 28; refine (rg_of hs hwq HO3).mono ?_; clear hs; rintro r w ⟨B4, m4, cB4, hm4, rfl, hs⟩; obtain rfl : m = m4 := (by rw [← HO2.out, ← hm4.out]); replace hs := hs.drop))
          replace hs := hs.rot
          have HAG : Hid (∀ c : Nat, 0 ≤ c → l1[c]? = l1[c]?) := fun _ _ => rfl
          go_loopw [23] (fun cv wr => ∃ (j : Nat) (l2 : List Cmp), j ≤ k ∧ cv = .int .i64 (j : Nat) ∧ Hid (l2.length = k) ∧ Hid (∀ c : Nat, j ≤ c → l2[c]? = l1[c]?) ∧ St w0 [own B k cR 3 1 (nsV (List.replicate k 0)), RgB R l2] wr) (fun cv _ => k - (intOf cv).toNat)
          case atStart => exact ⟨0, l1, Nat.zero_le _, rfl, HLL1, HAG, hs⟩
          case round =>
            clear hs
            obtain ⟨j, l2, hj, rfl, hl2, hag, hs⟩ := hrel
            by_cases hjk : j < k
            · obtain ⟨y, hy⟩ : ∃ y, l1[j]? = some y := ⟨_, List.getElem?_eq_getElem (by rw [HLL1.out]; exact hjk)⟩
              obtain ⟨X, s, rfl, hst⟩ := HST.out j y hy
              have ht := hst.told
              obtain ⟨f, hF⟩ := hst.F
              obtain ⟨s', hs'⟩ : ∃ s', Hid (s.take ((p : Nat) : Int) = s') := ⟨_, rfl⟩
              obtain ⟨k0, hk0⟩ : ∃ k0, Hid (s.evs.length = k0) := ⟨_, rfl⟩
              rw [hs'.out, hk0.out] at ht
              rw [hs'.out] at hy
              have HC : Hid (l2[j]? = some (X, s')) := by rw [Hid, hag.out j (Nat.le_refl _)]; exact hy
              have HFF : Hid (s'.F = some f) := by rw [Hid, ht.2.2.2.2]; exact hF
              have HFP : Hid (fpV s'.F = .pointer (some ⟨f, 0, none⟩)) := by rw [Hid, HFF.out]; rfl
              have HR0 : Hid (s'.rds[0]? = some k0) := ht.1
              have HLL : Hid (s'.evs.length < 4611686018427387904) := ht.2.1
              have HLG : Hid (lagE s'.d.b.toNat s'.evs k0 = false) := ht.2.2.1
              obtain ⟨ev, hev⟩ : ∃ ev, Hid ((if wa j then [((3 : Int), ((p : Nat) : Int))] else []) = ev) := ⟨_, rfl⟩
              have HNE : Hid (newE s'.d.b.toNat s'.evs k0 = ev) := by rw [Hid, ← hev.out]; exact ht.2.2.2.1
              obtain ⟨l3, HL3⟩ : ∃ l3, Hid (l2.set j (X, { s' with rds := s'.rds.set 0 s'.evs.length }) = l3) := ⟨_, rfl⟩
              have hl3 : Hid (l3.length = k) := by rw [Hid, ← HL3.out, List.length_set]; exact hl2.out
              have hag3 : Hid (∀ c : Nat, j + 1 ≤ c → l3[c]? = l1[c]?) := fun c hc => by
                rw [← HL3.out, List.getElem?_set, if_neg (by omega)]
                exact hag.out c (by omega)
              have hbvj := HBV.out j
              clear hy hst ht hF hk0 hs'
              obtain ⟨gB, rfl⟩ := hs.own_at (by omega)
              have hrb := Rd.own (w0 := w0) (g := gB) (n := k) (cap := cR) (e := 3) (size := 1) (L := []) (nsV_get (show (List.replicate k 0)[j]? = some 0 by simp [hjk]))
              go_upto_region 32 with (first
                | (go_at_call 12; refine (rg_slot hs.rot HC.out (X := X) rfl).mono ?_; rintro r w ⟨rfl, rfl⟩))
              go_cut [26, 27, 28] (fun a1 a2 a3 wx => ∃ A2 cA2 m2, Hid (ev.length = m2) ∧ a1 = .slice A2 m2 cA2 ∧ a2 = .bool false ∧ a3 = .int .i64 0 ∧ St w0 [own (some ⟨gB, 0, none⟩) k cR 3 1 (nsV (List.replicate k 0)), RgB R l3, own A2 m2 cA2 80 2 (es2 ev)] wx)
              case first =>
                refine wp_all_plain (n := 9) [false, true, false, false, false, false, true, true, true, true, true, true, true, true] hs.only (by kernel_rfl) (by kernel_rfl) (by kernel_rfl) fun hne => ?_
                have c1 := hrb.alln
                simp only [pickOps]
                repeat (go_big_quiet_step (fail))
                refine wpQuiet_nil ?_
                clear hne c1
                replace hs := hs.drew
                refine wpAllP_next [1] (by kernel_rfl) (fun c hc => ?_)
                simp only [List.mem_singleton] at hc
                subst hc
                refine ⟨_, rfl, ?_⟩
                go_wp2_with (first
                  | (go_at_call 17; refine (rg_flag hs.rot HC HFP).mono ?_; rintro r w ⟨rfl, rfl⟩))
                refine ⟨hs.only, ?_⟩
                refine wpAllP_next [6] (by kernel_rfl) (fun c hc => ?_)
                simp only [List.mem_singleton] at hc
                subst hc
                refine ⟨_, rfl, ?_⟩
                go_wp2_with (first
                  | (go_at_call 33; refine (rg_read hs.rot HC HFF.out HR0.out HLL.out HLG HNE HL3).mono ?_; clear hs; rintro r w ⟨A2, cA2, m2, hm2, rfl, hs⟩))
                clear HC HFP
                replace hs : St w0 (own (some ⟨gB, 0, none⟩) k cR 3 1 (nsV (List.replicate k 0)) :: RgB R l3 :: own A2 m2 cA2 80 2 (es2 ev) :: []) w := hs.ent (by (repeat first | exact Ent.refl _ | refine Ent.step (by first | exact Ent.refl _ | exact Ent.skip (Ent.refl _) | exact Ent.skip (Ent.skip (Ent.refl _)) | exact Ent.skip (Ent.skip (Ent.skip (Ent.refl _))) | exact Ent.skip (Ent.skip (Ent.skip (Ent.skip (Ent.refl _)))) | exact Ent.skip (Ent.skip (Ent.skip (Ent.skip (Ent.skip (Ent.refl _))))) | exact Ent.skip (Ent.skip (Ent.skip (Ent.skip (Ent.skip (Ent.skip (Ent.refl _)))))) | exact Ent.skip (Ent.skip (Ent.skip (Ent.skip (Ent.skip (Ent.skip (Ent.skip (Ent.refl _))))))) | exact Ent.skip (Ent.skip (Ent.skip (Ent.skip (Ent.skip (Ent.skip (Ent.skip (Ent.skip (Ent.refl _)))))))) | exact Ent.skip (Ent.skip (Ent.skip (Ent.skip (Ent.skip (Ent.skip (Ent.skip (Ent.skip (Ent.skip (Ent.refl _)))))))))) ?_))
                refine ⟨hs.only, ?_⟩
                refine wpAllP_next [7] (by kernel_rfl) (fun c hc => ?_)
                simp only [List.mem_singleton] at hc
                subst hc
                refine ⟨_, rfl, ?_⟩
                go_wp2
                refine ⟨hs.only, ?_⟩
                refine wpAllP_next [8, 9, 10] (by kernel_rfl) (fun c hc => ?_)
                simp only [List.mem_cons, List.not_mem_nil, or_false] at hc
                rcases hc with rfl | rfl | rfl
                · skip
                  refine ⟨_, rfl, ?_⟩
                  go_wp2
                  refine ⟨hs.only, ?_⟩
                  refine wpAllP_next [9, 10, 11] (by kernel_rfl) (fun c hc => ?_)
                  simp only [List.mem_cons, List.not_mem_nil, or_false] at hc
                  rcases hc with rfl | rfl | rfl
                  · skip
                    refine ⟨_, rfl, ?_⟩
                    go_wp2
                    refine ⟨hs.only, ?_⟩
                    refine wpAllP_next [10, 11] (by kernel_rfl) (fun c hc => ?_)
                    simp only [List.mem_cons, List.not_mem_nil, or_false] at hc
                    rcases hc with rfl | rfl
                    · skip
                      refine ⟨_, rfl, ?_⟩
                      go_wp2
                      refine ⟨hs.only, ?_⟩
                      refine wpAllP_next [11] (by kernel_rfl) (fun c hc => ?_)
                      simp only [List.mem_singleton] at hc
                      subst hc
                      refine ⟨_, rfl, ?_⟩
                      go_wp2
                      refine ⟨hs.only, ?_⟩
                      refine wpAllP_next [12] (by kernel_rfl) (fun c hc => ?_)
                      simp only [List.mem_singleton] at hc
                      subst hc
                      refine ⟨_, rfl, ?_⟩
                      go_wp2
                      refine ⟨hs.only, ?_⟩
                      refine wpAll_last [13] (by kernel_rfl) (fun c hc => ?_)
                      simp only [List.mem_singleton] at hc
                      subst hc
                      refine ⟨_, rfl, ?_⟩
                      go_wp2
                      go_meet
                      exact ⟨A2, cA2, m2, hm2, rfl, rfl, rfl, hs⟩
                    · skip
                      refine ⟨_, rfl, ?_⟩
                      go_wp2
                      refine ⟨hs.only, ?_⟩
                      refine wpAllP_next [10, 12] (by kernel_rfl) (fun c hc => ?_)
                      simp only [List.mem_cons, List.not_mem_nil, or_false] at hc
                      rcases hc with rfl | rfl
                      · skip
                        refine ⟨_, rfl, ?_⟩
                        go_wp2
                        refine ⟨hs.only, ?_⟩
                        refine wpAllP_next [12] (by kernel_rfl) (fun c hc => ?_)
                        simp only [List.mem_singleton] at hc
                        subst hc
                        refine ⟨_, rfl, ?_⟩
                        go_wp2
                        refine ⟨hs.only, ?_⟩
                        refine wpAll_last [13] (by kernel_rfl) (fun c hc => ?_)
                        simp only [List.mem_singleton] at hc
                        subst hc
                        refine ⟨_, rfl, ?_⟩
                        go_wp2
                        go_meet
                        exact ⟨A2, cA2, m2, hm2, rfl, rfl, rfl, hs⟩
                      · skip
                        refine ⟨_, rfl, ?_⟩
                        go_wp2
                        refine ⟨hs.only, ?_⟩
                        refine wpAllP_next [10] (by kernel_rfl) (fun c hc => ?_)
                        simp only [List.mem_singleton] at hc
                        subst hc
                        refine ⟨_, rfl, ?_⟩
                        go_wp2
                        refine ⟨hs.only, ?_⟩
                        refine wpAll_last [13] (by kernel_rfl) (fun c hc => ?_)
                        simp only [List.mem_singleton] at hc
                        subst hc
                        refine ⟨_, rfl, ?_⟩
                        go_wp2
                        go_meet
                        exact ⟨A2, cA2, m2, hm2, rfl, rfl, rfl, hs⟩
                  · skip
                    refine ⟨_, rfl, ?_⟩
                    go_wp2
                    refine ⟨hs.only, ?_⟩
                    refine wpAllP_next [9, 11] (by kernel_rfl) (fun c hc => ?_)
                    simp only [List.mem_cons, List.not_mem_nil, or_false] at hc
                    rcases hc with rfl | rfl
                    · skip
                      refine ⟨_, rfl, ?_⟩
                      go_wp2
                      refine ⟨hs.only, ?_⟩
                      refine wpAllP_next [11] (by kernel_rfl) (fun c hc => ?_)
                      simp only [List.mem_singleton] at hc
                      subst hc
                      refine ⟨_, rfl, ?_⟩
                      go_wp2
                      refine ⟨hs.only, ?_⟩
                      refine wpAllP_next [12] (by kernel_rfl) (fun c hc => ?_)
                      simp only [List.mem_singleton] at hc
                      subst hc
                      refine ⟨_, rfl, ?_⟩
                      go_wp2
                      refine ⟨hs.only, ?_⟩
                      refine wpAll_last [13] (by kernel_rfl) (fun c hc => ?_)
                      simp only [List.mem_singleton] at hc
                      subst hc
                      refine ⟨_, rfl, ?_⟩
                      go_wp2
                      go_meet
                      exact ⟨A2, cA2, m2, hm2, rfl, rfl, rfl, hs⟩
                    · skip
                      refine ⟨_, rfl, ?_⟩
                      go_wp2
                      refine ⟨hs.only, ?_⟩
                      refine wpAllP_next [9] (by kernel_rfl) (fun c hc => ?_)
                      simp only [List.mem_singleton] at hc
                      subst hc
                      refine ⟨_, rfl, ?_⟩
                      go_wp2
                      refine ⟨hs.only, ?_⟩
                      refine wpAllP_next [12] (by kernel_rfl) (fun c hc => ?_)
                      simp only [List.mem_singleton] at hc
                      subst hc
                      refine ⟨_, rfl, ?_⟩
                      go_wp2
                      refine ⟨hs.only, ?_⟩
                      refine wpAll_last [13] (by kernel_rfl) (fun c hc => ?_)
                      simp only [List.mem_singleton] at hc
                      subst hc
                      refine ⟨_, rfl, ?_⟩
                      go_wp2
                      go_meet
                      exact ⟨A2, cA2, m2, hm2, rfl, rfl, rfl, hs⟩
                  · skip
                    refine ⟨_, rfl, ?_⟩
                    go_wp2
                    refine ⟨hs.only, ?_⟩
                    refine wpAllP_next [9, 10] (by kernel_rfl) (fun c hc => ?_)
                    simp only [List.mem_cons, List.not_mem_nil, or_false] at hc
                    rcases hc with rfl | rfl
                    · skip
                      refine ⟨_, rfl, ?_⟩
                      go_wp2
                      refine ⟨hs.only, ?_⟩
                      refine wpAllP_next [10, 12] (by kernel_rfl) (fun c hc => ?_)
                      simp only [List.mem_cons, List.not_mem_nil, or_false] at hc
                      rcases hc with rfl | rfl
                      · skip
                        refine ⟨_, rfl, ?_⟩
                        go_wp2
                        refine ⟨hs.only, ?_⟩
                        refine wpAllP_next [12] (by kernel_rfl) (fun c hc => ?_)
                        simp only [List.mem_singleton] at hc
                        subst hc
                        refine ⟨_, rfl, ?_⟩
                        go_wp2
                        refine ⟨hs.only, ?_⟩
                        refine wpAll_last [13] (by kernel_rfl) (fun c hc => ?_)
                        simp only [List.mem_singleton] at hc
                        subst hc
                        refine ⟨_, rfl, ?_⟩
                        go_wp2
                        go_meet
                        exact ⟨A2, cA2, m2, hm2, rfl, rfl, rfl, hs⟩
                      · skip
                        refine ⟨_, rfl, ?_⟩
                        go_wp2
                        refine ⟨hs.only, ?_⟩
                        refine wpAllP_next [10] (by kernel_rfl) (fun c hc => ?_)
                        simp only [List.mem_singleton] at hc
                        subst hc
                        refine ⟨_, rfl, ?_⟩
                        go_wp2
                        refine ⟨hs.only, ?_⟩
                        refine wpAll_last [13] (by kernel_rfl) (fun c hc => ?_)
                        simp only [List.mem_singleton] at hc
                        subst hc
                        refine ⟨_, rfl, ?_⟩
                        go_wp2
                        go_meet
                        exact ⟨A2, cA2, m2, hm2, rfl, rfl, rfl, hs⟩
                    · skip
                      refine ⟨_, rfl, ?_⟩
                      go_wp2
                      refine ⟨hs.only, ?_⟩
                      refine wpAllP_next [9] (by kernel_rfl) (fun c hc => ?_)
                      simp only [List.mem_singleton] at hc
                      subst hc
                      refine ⟨_, rfl, ?_⟩
                      go_wp2
                      refine ⟨hs.only, ?_⟩
                      refine wpAllP_next [12] (by kernel_rfl) (fun c hc => ?_)
                      simp only [List.mem_singleton] at hc
                      subst hc
                      refine ⟨_, rfl, ?_⟩
                      go_wp2
                      refine ⟨hs.only, ?_⟩
                      refine wpAll_last [13] (by kernel_rfl) (fun c hc => ?_)
                      simp only [List.mem_singleton] at hc
                      subst hc
                      refine ⟨_, rfl, ?_⟩
                      go_wp2
                      go_meet
                      exact ⟨A2, cA2, m2, hm2, rfl, rfl, rfl, hs⟩
                · skip
                  refine ⟨_, rfl, ?_⟩
                  go_wp2
                  refine ⟨hs.only, ?_⟩
                  refine wpAllP_next [8, 10] (by kernel_rfl) (fun c hc => ?_)
                  simp only [List.mem_cons, List.not_mem_nil, or_false] at hc
                  rcases hc with rfl | rfl
                  · skip
                    refine ⟨_, rfl, ?_⟩
                    go_wp2
                    refine ⟨hs.only, ?_⟩
                    refine wpAllP_next [10, 11] (by kernel_rfl) (fun c hc => ?_)
                    simp only [List.mem_cons, List.not_mem_nil, or_false] at hc
                    rcases hc with rfl | rfl
                    · skip
                      refine ⟨_, rfl, ?_⟩
                      go_wp2
                      refine ⟨hs.only, ?_⟩
                      refine wpAllP_next [11] (by kernel_rfl) (fun c hc => ?_)
                      simp only [List.mem_singleton] at hc
                      subst hc
                      refine ⟨_, rfl, ?_⟩
                      go_wp2
                      refine ⟨hs.only, ?_⟩
                      refine wpAllP_next [12] (by kernel_rfl) (fun c hc => ?_)
                      simp only [List.mem_singleton] at hc
                      subst hc
                      refine ⟨_, rfl, ?_⟩
                      go_wp2
                      refine ⟨hs.only, ?_⟩
                      refine wpAll_last [13] (by kernel_rfl) (fun c hc => ?_)
                      simp only [List.mem_singleton] at hc
                      subst hc
                      refine ⟨_, rfl, ?_⟩
                      go_wp2
                      go_meet
                      exact ⟨A2, cA2, m2, hm2, rfl, rfl, rfl, hs⟩
                    · skip
                      refine ⟨_, rfl, ?_⟩
                      go_wp2
                      refine ⟨hs.only, ?_⟩
                      refine wpAllP_next [10, 12] (by kernel_rfl) (fun c hc => ?_)
                      simp only [List.mem_cons, List.not_mem_nil, or_false] at hc
                      rcases hc with rfl | rfl
                      · skip
                        refine ⟨_, rfl, ?_⟩
                        go_wp2
                        refine ⟨hs.only, ?_⟩
                        refine wpAllP_next [12] (by kernel_rfl) (fun c hc => ?_)
                        simp only [List.mem_singleton] at hc
                        subst hc
                        refine ⟨_, rfl, ?_⟩
                        go_wp2
                        refine ⟨hs.only, ?_⟩
                        refine wpAll_last [13] (by kernel_rfl) (fun c hc => ?_)
                        simp only [List.mem_singleton] at hc
                        subst hc
                        refine ⟨_, rfl, ?_⟩
                        go_wp2
                        go_meet
                        exact ⟨A2, cA2, m2, hm2, rfl, rfl, rfl, hs⟩
                      · skip
                        refine ⟨_, rfl, ?_⟩
                        go_wp2
                        refine ⟨hs.only, ?_⟩
                        refine wpAllP_next [10] (by kernel_rfl) (fun c hc => ?_)
                        simp only [List.mem_singleton] at hc
                        subst hc
                        refine ⟨_, rfl, ?_⟩
                        go_wp2
                        refine ⟨hs.only, ?_⟩
                        refine wpAll_last [13] (by kernel_rfl) (fun c hc => ?_)
                        simp only [List.mem_singleton] at hc
                        subst hc
                        refine ⟨_, rfl, ?_⟩
                        go_wp2
                        go_meet
                        exact ⟨A2, cA2, m2, hm2, rfl, rfl, rfl, hs⟩
                  · skip
                    refine ⟨_, rfl, ?_⟩
                    go_wp2
                    refine ⟨hs.only, ?_⟩
                    refine wpAllP_next [8] (by kernel_rfl) (fun c hc => ?_)
                    simp only [List.mem_singleton] at hc
                    subst hc
                    refine ⟨_, rfl, ?_⟩
                    go_wp2
                    refine ⟨hs.only, ?_⟩
                    refine wpAllP_next [11] (by kernel_rfl) (fun c hc => ?_)
                    simp only [List.mem_singleton] at hc
                    subst hc
                    refine ⟨_, rfl, ?_⟩
                    go_wp2
                    refine ⟨hs.only, ?_⟩
                    refine wpAllP_next [12] (by kernel_rfl) (fun c hc => ?_)
                    simp only [List.mem_singleton] at hc
                    subst hc
                    refine ⟨_, rfl, ?_⟩
                    go_wp2
                    refine ⟨hs.only, ?_⟩
                    refine wpAll_last [13] (by kernel_rfl) (fun c hc => ?_)
                    simp only [List.mem_singleton] at hc
                    subst hc
                    refine ⟨_, rfl, ?_⟩
                    go_wp2
                    go_meet
                    exact ⟨A2, cA2, m2, hm2, rfl, rfl, rfl, hs⟩
                · skip
                  refine ⟨_, rfl, ?_⟩
                  go_wp2
                  refine ⟨hs.only, ?_⟩
                  refine wpAllP_next [8, 9] (by kernel_rfl) (fun c hc => ?_)
                  simp only [List.mem_cons, List.not_mem_nil, or_false] at hc
                  rcases hc with rfl | rfl
                  · skip
                    refine ⟨_, rfl, ?_⟩
                    go_wp2
                    refine ⟨hs.only, ?_⟩
                    refine wpAllP_next [9, 11] (by kernel_rfl) (fun c hc => ?_)
                    simp only [List.mem_cons, List.not_mem_nil, or_false] at hc
                    rcases hc with rfl | rfl
                    · skip
                      refine ⟨_, rfl, ?_⟩
                      go_wp2
                      refine ⟨hs.only, ?_⟩
                      refine wpAllP_next [11] (by kernel_rfl) (fun c hc => ?_)
                      simp only [List.mem_singleton] at hc
                      subst hc
                      refine ⟨_, rfl, ?_⟩
                      go_wp2
                      refine ⟨hs.only, ?_⟩
                      refine wpAllP_next [12] (by kernel_rfl) (fun c hc => ?_)
                      simp only [List.mem_singleton] at hc
                      subst hc
                      refine ⟨_, rfl, ?_⟩
                      go_wp2
                      refine ⟨hs.only, ?_⟩
                      refine wpAll_last [13] (by kernel_rfl) (fun c hc => ?_)
                      simp only [List.mem_singleton] at hc
                      subst hc
                      refine ⟨_, rfl, ?_⟩
                      go_wp2
                      go_meet
                      exact ⟨A2, cA2, m2, hm2, rfl, rfl, rfl, hs⟩
                    · skip
                      refine ⟨_, rfl, ?_⟩
                      go_wp2
                      refine ⟨hs.only, ?_⟩
                      refine wpAllP_next [9] (by kernel_rfl) (fun c hc => ?_)
                      simp only [List.mem_singleton] at hc
                      subst hc
                      refine ⟨_, rfl, ?_⟩
                      go_wp2
                      refine ⟨hs.only, ?_⟩
                      refine wpAllP_next [12] (by kernel_rfl) (fun c hc => ?_)
                      simp only [List.mem_singleton] at hc
                      subst hc
                      refine ⟨_, rfl, ?_⟩
                      go_wp2
                      refine ⟨hs.only, ?_⟩
                      refine wpAll_last [13] (by kernel_rfl) (fun c hc => ?_)
                      simp only [List.mem_singleton] at hc
                      subst hc
                      refine ⟨_, rfl, ?_⟩
                      go_wp2
                      go_meet
                      exact ⟨A2, cA2, m2, hm2, rfl, rfl, rfl, hs⟩
                  · skip
                    refine ⟨_, rfl, ?_⟩
                    go_wp2
                    refine ⟨hs.only, ?_⟩
                    refine wpAllP_next [8] (by kernel_rfl) (fun c hc => ?_)
                    simp only [List.mem_singleton] at hc
                    subst hc
                    refine ⟨_, rfl, ?_⟩
                    go_wp2
                    refine ⟨hs.only, ?_⟩
                    refine wpAllP_next [11] (by kernel_rfl) (fun c hc => ?_)
                    simp only [List.mem_singleton] at hc
                    subst hc
                    refine ⟨_, rfl, ?_⟩
                    go_wp2
                    refine ⟨hs.only, ?_⟩
                    refine wpAllP_next [12] (by kernel_rfl) (fun c hc => ?_)
                    simp only [List.mem_singleton] at hc
                    subst hc
                    refine ⟨_, rfl, ?_⟩
                    go_wp2
                    refine ⟨hs.only, ?_⟩
                    refine wpAll_last [13] (by kernel_rfl) (fun c hc => ?_)
                    simp only [List.mem_singleton] at hc
                    subst hc
                    refine ⟨_, rfl, ?_⟩
                    go_wp2
                    go_meet
                    exact ⟨A2, cA2, m2, hm2, rfl, rfl, rfl, hs⟩
              case rest =>
                clear hs
                obtain ⟨A2, cA2, m2, hm2, rfl, rfl, rfl, hs⟩ := hcut
                obtain ⟨ta, hta⟩ : ∃ t, wa j = t := ⟨_, rfl⟩
                rw [hta] at hbvj hev
                have HTA := Lib.hid hta
                clear hta
                cases ta
                · obtain rfl : [] = ev := hev.out
                  obtain rfl : 0 = m2 := hm2.out
                  simp only [Bool.false_eq_true, if_false] at hbvj
                  go_wp2
                  go_roundw
                  case rel => exact ⟨j + 1, l3, by omega, by go_num, hl3, hag3, hs.up2.drop⟩
                  case measure => simp [intOf] <;> omega
                · obtain rfl : [((3 : Int), ((p : Nat) : Int))] = ev := hev.out
                  obtain rfl : 1 = m2 := hm2.out
                  simp only [if_true] at hbvj
                  obtain ⟨gE, rfl⟩ := hs.up2.own_at (by omega)
                  have hq0 := Rd.own (w0 := w0) (g := gE) (n := 1) (cap := cA2) (e := 80) (size := 2) (L := own (some ⟨gB, 0, none⟩) k cR 3 1 (nsV (List.replicate k 0)) :: [RgB R l3]) (k := 0) (v := .int .i64 3) rfl _ hs.up2
                  have hq1 := Rd.own (w0 := w0) (g := gE) (n := 1) (cap := cA2) (e := 80) (size := 2) (L := own (some ⟨gB, 0, none⟩) k cR 3 1 (nsV (List.replicate k 0)) :: [RgB R l3]) (k := 1) (v := .int .i64 (p : Nat)) rfl _ hs.up2
                  go_wp2
                  go_roundw
                  case rel => exact ⟨j + 1, l3, by omega, by go_num, hl3, hag3, hs.up2.drop⟩
                  case measure => simp [intOf] <;> omega
            · obtain rfl : j = k := by omega
              go_wp2_with (first
                | (go_at_call 14; refine awake12.mono ?_; rintro r w ⟨rfl, hg⟩; replace hs := hs.grew hg; clear hg))
              go_ret
              exact ⟨rfl, hs.drop.drop⟩
        · clear hlt
          go_upto_region 29 with (first
            | (go_at_call 29; refine (rg_strip hs hwp HEV.out hn' HL1).mono ?_; clear hs; rintro r w ⟨rfl, hs⟩)
            | (go_at_call 28; refine (rg_of hs hwp HO1).mono ?_; clear hs; rintro r w ⟨B4, m4, cB4, hm4, rfl, hs⟩; obtain rfl : m4 = 0 := hm4.out.symm; replace hs := hs.drop)
            | (go_at_call 28; refine (rg_of hs hwq HO3).mono ?_; clear hs; rintro r w ⟨B4, m4, cB4, hm4, rfl, hs⟩; obtain rfl : m = m4 := (by rw [← HO2.out, ← hm4.out]); replace hs := hs.drop))
          replace hs := hs.rot
          have HAG : Hid (∀ c : Nat, 0 ≤ c → l1[c]? = l1[c]?) := fun _ _ => rfl
          go_loopw [23] (fun cv wr => ∃ (j : Nat) (l2 : List Cmp), j ≤ k ∧ cv = .int .i64 (j : Nat) ∧ Hid (l2.length = k) ∧ Hid (∀ c : Nat, j ≤ c → l2[c]? = l1[c]?) ∧ St w0 [own B k cR 3 1 (nsV (List.replicate k 0)), RgB R l2] wr) (fun cv _ => k - (intOf cv).toNat)
          case atStart => exact ⟨0, l1, Nat.zero_le _, rfl, HLL1, HAG, hs⟩
          case round =>
            clear hs
            obtain ⟨j, l2, hj, rfl, hl2, hag, hs⟩ := hrel
            by_cases hjk : j < k
            · obtain ⟨y, hy⟩ : ∃ y, l1[j]? = some y := ⟨_, List.getElem?_eq_getElem (by rw [HLL1.out]; exact hjk)⟩
              obtain ⟨X, s, rfl, hst⟩ := HST.out j y hy
              have ht := hst.told
              obtain ⟨f, hF⟩ := hst.F
              obtain ⟨s', hs'⟩ : ∃ s', Hid (s.take ((p : Nat) : Int) = s') := ⟨_, rfl⟩
              obtain ⟨k0, hk0⟩ : ∃ k0, Hid (s.evs.length = k0) := ⟨_, rfl⟩
              rw [hs'.out, hk0.out] at ht
              rw [hs'.out] at hy
              have HC : Hid (l2[j]? = some (X, s')) := by rw [Hid, hag.out j (Nat.le_refl _)]; exact hy
              have HFF : Hid (s'.F = some f) := by rw [Hid, ht.2.2.2.2]; exact hF
              have HFP : Hid (fpV s'.F = .pointer (some ⟨f, 0, none⟩)) := by rw [Hid, HFF.out]; rfl
              have HR0 : Hid (s'.rds[0]? = some k0) := ht.1
              have HLL : Hid (s'.evs.length < 4611686018427387904) := ht.2.1
              have HLG : Hid (lagE s'.d.b.toNat s'.evs k0 = false) := ht.2.2.1
              obtain ⟨ev, hev⟩ : ∃ ev, Hid ((if wa j then [((3 : Int), ((p : Nat) : Int))] else []) = ev) := ⟨_, rfl⟩
              have HNE : Hid (newE s'.d.b.toNat s'.evs k0 = ev) := by rw [Hid, ← hev.out]; exact ht.2.2.2.1
              obtain ⟨l3, HL3⟩ : ∃ l3, Hid (l2.set j (X, { s' with rds := s'.rds.set 0 s'.evs.length }) = l3) := ⟨_, rfl⟩
              have hl3 : Hid (l3.length = k) := by rw [Hid, ← HL3.out, List.length_set]; exact hl2.out
              have hag3 : Hid (∀ c : Nat, j + 1 ≤ c → l3[c]? = l1[c]?) := fun c hc => by
                rw [← HL3.out, List.getElem?_set, if_neg (by omega)]
                exact hag.out c (by omega)
              have hbvj := HBV.out j
              clear hy hst ht hF hk0 hs'
              obtain ⟨gB, rfl⟩ := hs.own_at (by omega)
              have hrb := Rd.own (w0 := w0) (g := gB) (n := k) (cap := cR) (e := 3) (size := 1) (L := []) (nsV_get (show (List.replicate k 0)[j]? = some 0 by simp [hjk]))
              go_upto_region 32 with (first
                | (go_at_call 12; refine (rg_slot hs.rot HC.out (X := X) rfl).mono ?_; rintro r w ⟨rfl, rfl⟩))
              go_cut [26, 27, 28] (fun a1 a2 a3 wx => ∃ A2 cA2 m2, Hid (ev.length = m2) ∧ a1 = .slice A2 m2 cA2 ∧ a2 = .bool false ∧ a3 = .int .i64 0 ∧ St w0 [own (some ⟨gB, 0, none⟩) k cR 3 1 (nsV (List.replicate k 0)), RgB R l3, own A2 m2 cA2 80 2 (es2 ev)] wx)
              case first =>
                refine wp_all_plain (n := 9) [false, true, false, false, false, false, true, true, true, true, true, true, true, true] hs.only (by kernel_rfl) (by kernel_rfl) (by kernel_rfl) fun hne => ?_
                have c1 := hrb.alln
                simp only [pickOps]
                repeat (go_big_quiet_step (fail))
                refine wpQuiet_nil ?_
                clear hne c1
                replace hs := hs.drew
                refine wpAllP_next [1] (by kernel_rfl) (fun c hc => ?_)
                simp only [List.mem_singleton] at hc
                subst hc
                refine ⟨_, rfl, ?_⟩
                go_wp2_with (first
                  | (go_at_call 17; refine (rg_flag hs.rot HC HFP).mono ?_; rintro r w ⟨rfl, rfl⟩))
                refine ⟨hs.only, ?_⟩
                refine wpAllP_next [6] (by kernel_rfl) (fun c hc => ?_)
                simp only [List.mem_singleton] at hc
                subst hc
                refine ⟨_, rfl, ?_⟩
                go_wp2_with (first
                  | (go_at_call 33; refine (rg_read hs.rot HC HFF.out HR0.out HLL.out HLG HNE HL3).mono ?_; clear hs; rintro r w ⟨A2, cA2, m2, hm2, rfl, hs⟩))
                clear HC HFP
                replace hs : St w0 (own (some ⟨gB, 0, none⟩) k cR 3 1 (nsV (List.replicate k 0)) :: RgB R l3 :: own A2 m2 cA2 80 2 (es2 ev) :: []) w := hs.ent (by (repeat first | exact Ent.refl _ | refine Ent.step (by first | exact Ent.refl _ | exact Ent.skip (Ent.refl _) | exact Ent.skip (Ent.skip (Ent.refl _)) | exact Ent.skip (Ent.skip (Ent.skip (Ent.refl _))) | exact Ent.skip (Ent.skip (Ent.skip (Ent.skip (Ent.refl _)))) | exact Ent.skip (Ent.skip (Ent.skip (Ent.skip (Ent.skip (Ent.refl _))))) | exact Ent.skip (Ent.skip (Ent.skip (Ent.skip (Ent.skip (Ent.skip (Ent.refl _)))))) | exact Ent.skip (Ent.skip (Ent.skip (Ent.skip (Ent.skip (Ent.skip (Ent.skip (Ent.refl _))))))) | exact Ent.skip (Ent.skip (Ent.skip (Ent.skip (Ent.skip (Ent.skip (Ent.skip (Ent.skip (Ent.refl _)))))))) | exact Ent.skip (Ent.skip (Ent.skip (Ent.skip (Ent.skip (Ent.skip (Ent.skip (Ent.skip (Ent.skip (Ent.refl _)))))))))) ?_))
                refine ⟨hs.only, ?_⟩
                refine wpAllP_next [7] (by kernel_rfl) (fun c hc => ?_)
                simp only [List.mem_singleton] at hc
                subst hc
                refine ⟨_, rfl, ?_⟩
                go_wp2
                refine ⟨hs.only, ?_⟩
                refine wpAllP_next [8, 9, 10] (by kernel_rfl) (fun c hc => ?_)
                simp only [List.mem_cons, List.not_mem_nil, or_false] at hc
                rcases hc with rfl | rfl | rfl
                · skip
                  refine ⟨_, rfl, ?_⟩
                  go_wp2
                  refine ⟨hs.only, ?_⟩
                  refine wpAllP_next [9, 10, 11] (by kernel_rfl) (fun c hc => ?_)
                  simp only [List.mem_cons, List.not_mem_nil, or_false] at hc
                  rcases hc with rfl | rfl | rfl
                  · skip
                    refine ⟨_, rfl, ?_⟩
                    go_wp2
                    refine ⟨hs.only, ?_⟩
                    refine wpAllP_next [10, 11] (by kernel_rfl) (fun c hc => ?_)
                    simp only [List.mem_cons, List.not_mem_nil, or_false] at hc
                    rcases hc with rfl | rfl
                    · skip
                      refine ⟨_, rfl, ?_⟩
                      go_wp2
                      refine ⟨hs.only, ?_⟩
                      refine wpAllP_next [11] (by kernel_rfl) (fun c hc => ?_)
                      simp only [List.mem_singleton] at hc
                      subst hc
                      refine ⟨_, rfl, ?_⟩
                      go_wp2
                      refine ⟨hs.only, ?_⟩
                      refine wpAllP_next [12] (by kernel_rfl) (fun c hc => ?_)
                      simp only [List.mem_singleton] at hc
                      subst hc
                      refine ⟨_, rfl, ?_⟩
                      go_wp2
                      refine ⟨hs.only, ?_⟩
                      refine wpAll_last [13] (by kernel_rfl) (fun c hc => ?_)
                      simp only [List.mem_singleton] at hc
                      subst hc
                      refine ⟨_, rfl, ?_⟩
                      go_wp2
                      go_meet
                      exact ⟨A2, cA2, m2, hm2, rfl, rfl, rfl, hs⟩
                    · skip
                      refine ⟨_, rfl, ?_⟩
                      go_wp2
                      refine ⟨hs.only, ?_⟩
                      refine wpAllP_next [10, 12] (by kernel_rfl) (fun c hc => ?_)
                      simp only [List.mem_cons, List.not_mem_nil, or_false] at hc
                      rcases hc with rfl | rfl
                      · skip
                        refine ⟨_, rfl, ?_⟩
                        go_wp2
                        refine ⟨hs.only, ?_⟩
                        refine wpAllP_next [12] (by kernel_rfl) (fun c hc => ?_)
                        simp only [List.mem_singleton] at hc
                        subst hc
                        refine ⟨_, rfl, ?_⟩
                        go_wp2
                        refine ⟨hs.only, ?_⟩
                        refine wpAll_last [13] (by kernel_rfl) (fun c hc => ?_)
                        simp only [List.mem_singleton] at hc
                        subst hc
                        refine ⟨_, rfl, ?_⟩
                        go_wp2
                        go_meet
                        exact ⟨A2, cA2, m2, hm2, rfl, rfl, rfl, hs⟩
                      · skip
                        refine ⟨_, rfl, ?_⟩
                        go_wp2
                        refine ⟨hs.only, ?_⟩
                        refine wpAllP_next [10] (by kernel_rfl) (fun c hc => ?_)
                        simp only [List.mem_singleton] at hc
                        subst hc
                        refine ⟨_, rfl, ?_⟩
                        go_wp2
                        refine ⟨hs.only, ?_⟩
                        refine wpAll_last [13] (by kernel_rfl) (fun c hc => ?_)
                        simp only [List.mem_singleton] at hc
                        subst hc
                        refine ⟨_, rfl, ?_⟩
                        go_wp2
                        go_meet
                        exact ⟨A2, cA2, m2, hm2, rfl, rfl, rfl, hs⟩
                  · skip
                    refine ⟨_, rfl, ?_⟩
                    go_wp2
                    refine ⟨hs.only, ?_⟩
                    refine wpAllP_next [9, 11] (by kernel_rfl) (fun c hc => ?_)
                    simp only [List.mem_cons, List.not_mem_nil, or_false] at hc
                    rcases hc with rfl | rfl
                    · skip
                      refine ⟨_, rfl, ?_⟩
                      go_wp2
                      refine ⟨hs.only, ?_⟩
                      refine wpAllP_next [11] (by kernel_rfl) (fun c hc => ?_)
                      simp only [List.mem_singleton] at hc
                      subst hc
                      refine ⟨_, rfl, ?_⟩
                      go_wp2
                      refine ⟨hs.only, ?_⟩
                      refine wpAllP_next [12] (by kernel_rfl) (fun c hc => ?_)
                      simp only [List.mem_singleton] at hc
                      subst hc
                      refine ⟨_, rfl, ?_⟩
                      go_wp2
                      refine ⟨hs.only, ?_⟩
                      refine wpAll_last [13] (by kernel_rfl) (fun c hc => ?_)
                      simp only [List.mem_singleton] at hc
                      subst hc
                      refine ⟨_, rfl, ?_⟩
                      go_wp2
                      go_meet
                      exact ⟨A2, cA2, m2, hm2, rfl, rfl, rfl, hs⟩
                    · skip
                      refine ⟨_, rfl, ?_⟩
                      go_wp2
                      refine ⟨hs.only, ?_⟩
                      refine wpAllP_next [9] (by kernel_rfl) (fun c hc => ?_)
                      simp only [List.mem_singleton] at hc
                      subst hc
                      refine ⟨_, rfl, ?_⟩
                      go_wp2
                      refine ⟨hs.only, ?_⟩
                      refine wpAllP_next [12] (by kernel_rfl) (fun c hc => ?_)
                      simp only [List.mem_singleton] at hc
                      subst hc
                      refine ⟨_, rfl, ?_⟩
                      go_wp2
                      refine ⟨hs.only, ?_⟩
                      refine wpAll_last [13] (by kernel_rfl) (fun c hc => ?_)
                      simp only [List.mem_singleton] at hc
                      subst hc
                      refine ⟨_, rfl, ?_⟩
                      go_wp2
                      go_meet
                      exact ⟨A2, cA2, m2, hm2, rfl, rfl, rfl, hs⟩
                  · skip
                    refine ⟨_, rfl, ?_⟩
                    go_wp2
                    refine ⟨hs.only, ?_⟩
                    refine wpAllP_next [9, 10] (by kernel_rfl) (fun c hc => ?_)
                    simp only [List.mem_cons, List.not_mem_nil, or_false] at hc
                    rcases hc with rfl | rfl
                    · skip
                      refine ⟨_, rfl, ?_⟩
                      go_wp2
                      refine ⟨hs.only, ?_⟩
                      refine wpAllP_next [10, 12] (by kernel_rfl) (fun c hc => ?_)
                      simp only [List.mem_cons, List.not_mem_nil, or_false] at hc
                      rcases hc with rfl | rfl
                      · skip
                        refine ⟨_, rfl, ?_⟩
                        go_wp2
                        refine ⟨hs.only, ?_⟩
                        refine wpAllP_next [12] (by kernel_rfl) (fun c hc => ?_)
                        simp only [List.mem_singleton] at hc
                        subst hc
                        refine ⟨_, rfl, ?_⟩
                        go_wp2
                        refine ⟨hs.only, ?_⟩
                        refine wpAll_last [13] (by kernel_rfl) (fun c hc => ?_)
                        simp only [List.mem_singleton] at hc
                        subst hc
                        refine ⟨_, rfl, ?_⟩
                        go_wp2
                        go_meet
                        exact ⟨A2, cA2, m2, hm2, rfl, rfl, rfl, hs⟩
                      · skip
                        refine ⟨_, rfl, ?_⟩
                        go_wp2
                        refine ⟨hs.only, ?_⟩
                        refine wpAllP_next [10] (by kernel_rfl) (fun c hc => ?_)
                        simp only [List.mem_singleton] at hc
                        subst hc
                        refine ⟨_, rfl, ?_⟩
                        go_wp2
                        refine ⟨hs.only, ?_⟩
                        refine wpAll_last [13] (by kernel_rfl) (fun c hc => ?_)
                        simp only [List.mem_singleton] at hc
                        subst hc
                        refine ⟨_, rfl, ?_⟩
                        go_wp2
                        go_meet
                        exact ⟨A2, cA2, m2, hm2, rfl, rfl, rfl, hs⟩
                    · skip
                      refine ⟨_, rfl, ?_⟩
                      go_wp2
                      refine ⟨hs.only, ?_⟩
                      refine wpAllP_next [9] (by kernel_rfl) (fun c hc => ?_)
                      simp only [List.mem_singleton] at hc
                      subst hc
                      refine ⟨_, rfl, ?_⟩
                      go_wp2
                      refine ⟨hs.only, ?_⟩
                      refine wpAllP_next [12] (by kernel_rfl) (fun c hc => ?_)
                      simp only [List.mem_singleton] at hc
                      subst hc
                      refine ⟨_, rfl, ?_⟩
                      go_wp2
                      refine ⟨hs.only, ?_⟩
                      refine wpAll_last [13] (by kernel_rfl) (fun c hc => ?_)
                      simp only [List.mem_singleton] at hc
                      subst hc
                      refine ⟨_, rfl, ?_⟩
                      go_wp2
                      go_meet
                      exact ⟨A2, cA2, m2, hm2, rfl, rfl, rfl, hs⟩
                · skip
                  refine ⟨_, rfl, ?_⟩
                  go_wp2
                  refine ⟨hs.only, ?_⟩
                  refine wpAllP_next [8, 10] (by kernel_rfl) (fun c hc => ?_)
                  simp only [List.mem_cons, List.not_mem_nil, or_false] at hc
                  rcases hc with rfl | rfl
                  · skip
                    refine ⟨_, rfl, ?_⟩
                    go_wp2
                    refine ⟨hs.only, ?_⟩
                    refine wpAllP_next [10, 11] (by kernel_rfl) (fun c hc => ?_)
                    simp only [List.mem_cons, List.not_mem_nil, or_false] at hc
                    rcases hc with rfl | rfl
                    · skip
                      refine ⟨_, rfl, ?_⟩
                      go_wp2
                      refine ⟨hs.only, ?_⟩
                      refine wpAllP_next [11] (by kernel_rfl) (fun c hc => ?_)
                      simp only [List.mem_singleton] at hc
                      subst hc
                      refine ⟨_, rfl, ?_⟩
                      go_wp2
                      refine ⟨hs.only, ?_⟩
                      refine wpAllP_next [12] (by kernel_rfl) (fun c hc => ?_)
                      simp only [List.mem_singleton] at hc
                      subst hc
                      refine ⟨_, rfl, ?_⟩
                      go_wp2
                      refine ⟨hs.only, ?_⟩
                      refine wpAll_last [13] (by kernel_rfl) (fun c hc => ?_)
                      simp only [List.mem_singleton] at hc
                      subst hc
                      refine ⟨_, rfl, ?_⟩
                      go_wp2
                      go_meet
                      exact ⟨A2, cA2, m2, hm2, rfl, rfl, rfl, hs⟩
                    · skip
                      refine ⟨_, rfl, ?_⟩
                      go_wp2
                      refine ⟨hs.only, ?_⟩
                      refine wpAllP_next [10, 12] (by kernel_rfl) (fun c hc => ?_)
                      simp only [List.mem_cons, List.not_mem_nil, or_false] at hc
                      rcases hc with rfl | rfl
                      · skip
                        refine ⟨_, rfl, ?_⟩
                        go_wp2
                        refine ⟨hs.only, ?_⟩
                        refine wpAllP_next [12] (by kernel_rfl) (fun c hc => ?_)
                        simp only [List.mem_singleton] at hc
                        subst hc
                        refine ⟨_, rfl, ?_⟩
                        go_wp2
                        refine ⟨hs.only, ?_⟩
                        refine wpAll_last [13] (by kernel_rfl) (fun c hc => ?_)
                        simp only [List.mem_singleton] at hc
                        subst hc
                        refine ⟨_, rfl, ?_⟩
                        go_wp2
                        go_meet
                        exact ⟨A2, cA2, m2, hm2, rfl, rfl, rfl, hs⟩
                      · skip
                        refine ⟨_, rfl, ?_⟩
                        go_wp2
                        refine ⟨hs.only, ?_⟩
                        refine wpAllP_next [10] (by kernel_rfl) (fun c hc => ?_)
                        simp only [List.mem_singleton] at hc
                        subst hc
                        refine ⟨_, rfl, ?_⟩
                        go_wp2
                        refine ⟨hs.only, ?_⟩
                        refine wpAll_last [13] (by kernel_rfl) (fun c hc => ?_)
                        simp only [List.mem_singleton] at hc
                        subst hc
                        refine ⟨_, rfl, ?_⟩
                        go_wp2
                        go_meet
                        exact ⟨A2, cA2, m2, hm2, rfl, rfl, rfl, hs⟩
                  · skip
                    refine ⟨_, rfl, ?_⟩
                    go_wp2
                    refine ⟨hs.only, ?_⟩
                    refine wpAllP_next [8] (by kernel_rfl) (fun c hc => ?_)
                    simp only [List.mem_singleton] at hc
                    subst hc
                    refine ⟨_, rfl, ?_⟩
                    go_wp2
                    refine ⟨hs.only, ?_⟩
                    refine wpAllP_next [11] (by kernel_rfl) (fun c hc => ?_)
                    simp only [List.mem_singleton] at hc
                    subst hc
                    refine ⟨_, rfl, ?_⟩
                    go_wp2
                    refine ⟨hs.only, ?_⟩
                    refine wpAllP_next [12] (by kernel_rfl) (fun c hc => ?_)
                    simp only [List.mem_singleton] at hc
                    subst hc
                    refine ⟨_, rfl, ?_⟩
                    go_wp2
                    refine ⟨hs.only, ?_⟩
                    refine wpAll_last [13] (by kernel_rfl) (fun c hc => ?_)
                    simp only [List.mem_singleton] at hc
                    subst hc
                    refine ⟨_, rfl, ?_⟩
                    go_wp2
                    go_meet
                    exact ⟨A2, cA2, m2, hm2, rfl, rfl, rfl, hs⟩
                · skip
                  refine ⟨_, rfl, ?_⟩
                  go_wp2
                  refine ⟨hs.only, ?_⟩
                  refine wpAllP_next [8, 9] (by kernel_rfl) (fun c hc => ?_)
                  simp only [List.mem_cons, List.not_mem_nil, or_false] at hc
                  rcases hc with rfl | rfl
                  · skip
                    refine ⟨_, rfl, ?_⟩
                    go_wp2
                    refine ⟨hs.only, ?_⟩
                    refine wpAllP_next [9, 11] (by kernel_rfl) (fun c hc => ?_)
                    simp only [List.mem_cons, List.not_mem_nil, or_false] at hc
                    rcases hc with rfl | rfl
                    · skip
                      refine ⟨_, rfl, ?_⟩
                      go_wp2
                      refine ⟨hs.only, ?_⟩
                      refine wpAllP_next [11] (by kernel_rfl) (fun c hc => ?_)
                      simp only [List.mem_singleton] at hc
                      subst hc
                      refine ⟨_, rfl, ?_⟩
                      go_wp2
                      refine ⟨hs.only, ?_⟩
                      refine wpAllP_next [12] (by kernel_rfl) (fun c hc => ?_)
                      simp only [List.mem_singleton] at hc
                      subst hc
                      refine ⟨_, rfl, ?_⟩
                      go_wp2
                      refine ⟨hs.only, ?_⟩
                      refine wpAll_last [13] (by kernel_rfl) (fun c hc => ?_)
                      simp only [List.mem_singleton] at hc
                      subst hc
                      refine ⟨_, rfl, ?_⟩
                      go_wp2
                      go_meet
                      exact ⟨A2, cA2, m2, hm2, rfl, rfl, rfl, hs⟩
                    · skip
                      refine ⟨_, rfl, ?_⟩
                      go_wp2
                      refine ⟨hs.only, ?_⟩
                      refine wpAllP_next [9] (by kernel_rfl) (fun c hc => ?_)
                      simp only [List.mem_singleton] at hc
                      subst hc
                      refine ⟨_, rfl, ?_⟩
                      go_wp2
                      refine ⟨hs.only, ?_⟩
                      refine wpAllP_next [12] (by kernel_rfl) (fun c hc => ?_)
                      simp only [List.mem_singleton] at hc
                      subst hc
                      refine ⟨_, rfl, ?_⟩
                      go_wp2
                      refine ⟨hs.only, ?_⟩
                      refine wpAll_last [13] (by kernel_rfl) (fun c hc => ?_)
                      simp only [List.mem_singleton] at hc
                      subst hc
                      refine ⟨_, rfl, ?_⟩
                      go_wp2
                      go_meet
                      exact ⟨A2, cA2, m2, hm2, rfl, rfl, rfl, hs⟩
                  · skip
                    refine ⟨_, rfl, ?_⟩
                    go_wp2
                    refine ⟨hs.only, ?_⟩
                    refine wpAllP_next [8] (by kernel_rfl) (fun c hc => ?_)
                    simp only [List.mem_singleton] at hc
                    subst hc
                    refine ⟨_, rfl, ?_⟩
                    go_wp2
                    refine ⟨hs.only, ?_⟩
                    refine wpAllP_next [11] (by kernel_rfl) (fun c hc => ?_)
                    simp only [List.mem_singleton] at hc
                    subst hc
                    refine ⟨_, rfl, ?_⟩
                    go_wp2
                    refine ⟨hs.only, ?_⟩
                    refine wpAllP_next [12] (by kernel_rfl) (fun c hc => ?_)
                    simp only [List.mem_singleton] at hc
                    subst hc
                    refine ⟨_, rfl, ?_⟩
                    go_wp2
                    refine ⟨hs.only, ?_⟩
                    refine wpAll_last [13] (by kernel_rfl) (fun c hc => ?_)
                    simp only [List.mem_singleton] at hc
                    subst hc
                    refine ⟨_, rfl, ?_⟩
                    go_wp2
                    go_meet
                    exact ⟨A2, cA2, m2, hm2, rfl, rfl, rfl, hs⟩
              case rest =>
                clear hs
                obtain ⟨A2, cA2, m2, hm2, rfl, rfl, rfl, hs⟩ := hcut
                obtain ⟨ta, hta⟩ : ∃ t, wa j = t := ⟨_, rfl⟩
                rw [hta] at hbvj hev
                have HTA := Lib.hid hta
                clear hta
                cases ta
                · obtain rfl : [] = ev := hev.out
                  obtain rfl : 0 = m2 := hm2.out
                  simp only [Bool.false_eq_true, if_false] at hbvj
                  go_wp2
                  go_roundw
                  case rel => exact ⟨j + 1, l3, by omega, by go_num, hl3, hag3, hs.up2.drop⟩
                  case measure => simp [intOf] <;> omega
                · obtain rfl : [((3 : Int), ((p : Nat) : Int))] = ev := hev.out
                  obtain rfl : 1 = m2 := hm2.out
                  simp only [if_true] at hbvj
                  obtain ⟨gE, rfl⟩ := hs.up2.own_at (by omega)
                  have hq0 := Rd.own (w0 := w0) (g := gE) (n := 1) (cap := cA2) (e := 80) (size := 2) (L := own (some ⟨gB, 0, none⟩) k cR 3 1 (nsV (List.replicate k 0)) :: [RgB R l3]) (k := 0) (v := .int .i64 3) rfl _ hs.up2
                  have hq1 := Rd.own (w0 := w0) (g := gE) (n := 1) (cap := cA2) (e := 80) (size := 2) (L := own (some ⟨gB, 0, none⟩) k cR 3 1 (nsV (List.replicate k 0)) :: [RgB R l3]) (k := 1) (v := .int .i64 (p : Nat)) rfl _ hs.up2
                  go_wp2
                  go_roundw
                  case rel => exact ⟨j + 1, l3, by omega, by go_num, hl3, hag3, hs.up2.drop⟩
                  case measure => simp [intOf] <;> omega
            · obtain rfl : j = k := by omega
              go_wp2_with (first
                | (go_at_call 14; refine awake12.mono ?_; rintro r w ⟨rfl, hg⟩; replace hs := hs.grew hg; clear hg))
              go_ret
              exact ⟨rfl, hs.drop.drop⟩
end Go.Proofs.Ytmdjpeblbnbjmaa
