/-
  ScanTells: the walk.
-/
import Derived.Test.YtpnjoeiohigjmaaDoorScDo4
set_option maxRecDepth 100000
namespace Go.Proofs.YtpnjoeiohigjmaaDoor
open Go Go.RowKit
attribute [local irreducible] wpList Calls Code.wp wordS exTell

theorem intv_ints2 (S : List Nat) : ints (natI S) = intv S := by
  unfold intv ints natI
  rw [List.map_map]
  rfl
theorem wcell_own {w0 w : World} {b n c i x : Nat} {e : TypeId} {W : List Nat} {L : List As} (hs : St w0 (own (some ⟨b, 0, none⟩) n c e 1 (u64s W) :: L) w) (h : W[i]? = some x) : w.cell? ⟨b, i, none⟩ = some (.int .u64 (x : Nat)) := by
  refine Rd.own ?_ _ hs
  unfold u64s
  rw [List.getElem?_map, h]
  rfl
theorem may_words {l : List NodeE} {Ss : Nat → List Nat} {n : Nat} {at_ : Int} (hn : n < l.length) (ha : 0 ≤ at_ ∧ at_ < 262144) : (wordsE (fun s => wordS (Ss s) 0 at_) l)[n]? = some (scMay l Ss (n : Nat) 0 at_) := by
  have h1 : scMay l Ss (n : Nat) 0 at_ = (wordsE (fun s => wordS (Ss s) 0 at_) l).getD n 0 := by
    unfold scMay
    rw [if_pos ⟨by omega, by omega⟩, Int.toNat_natCast, scW_in ⟨by decide, by decide, ha.1, by simpa using ha.2⟩, ← mays_words]
    rfl
  rw [h1, List.getD_eq_getElem?_getD, List.getElem?_eq_getElem (by rw [words_len]; exact hn), Option.getD_some]
theorem may_words_no {l : List NodeE} {Ss : Nat → List Nat} {n at_ : Int} (h : ¬ (0 ≤ at_ ∧ at_ < 262144 ∧ 0 ≤ n ∧ n < l.length)) : scMay l Ss n 0 at_ = 0 := by
  unfold scMay
  split
  · rename_i h2
    exact scW_out fun h3 => h ⟨h3.2.2.1, by have := h3.2.2.2; simpa using this, h2.1, h2.2⟩
  · rfl
attribute [local irreducible] checkV sameNd setS fewB ksS nxt lst tel sel cntV cntE scMay wordsE
set_option maxHeartbeats 8000000 in
theorem sctells_c {w0 : World} (hT : Tab w0) {va vb : Value} {rs : List IRow} {za : List Int} (hva : RowsArg encI (QI w0) w0 va rs) (hvb : IntArg w0 vb za) (zn zf zm zx zt : Int) : Calls Tryd.prog 8 #[va, vb, .int .i64 zn, .int .i64 zf, .int .i64 zm, .int .i64 zx, .int .i64 zt] w0 (LawPost w0) := by
  obtain ⟨A, ca, rfl, hle, hcap, hrow⟩ := rows_v hva
  obtain ⟨B0, na, cb, rfl, hlen, hnc, hcm, hra, hba⟩ := hvb
  have HLz := Lib.hid hlen
  unfold maxLen at hcap hcm
  have HRw := Lib.hid hrow
  have HKz : Hid (KidsR w0 B0 za) := fun j y hy => by
    obtain ⟨b, o, h1, h2⟩ := hra.get (ints_get hy)
    exact ⟨b, o, h1, h2 _ (St.start w0)⟩
  have hs := St.start w0
  have HT := Lib.hid hT
  obtain ⟨n, HN⟩ : ∃ n, Hid (rs.length = n) := ⟨_, rfl⟩
  rw [HN.out] at hle ⊢
  have hn9 : n ≤ 9223372036854775807 := by omega
  clear hrow hva hba hlen hra hT
  obtain ⟨fb, HF⟩ : ∃ b, Hid (fewB rs = b) := ⟨_, rfl⟩
  by_cases hno : fb = false ∨ 40 < na
  · by_cases hfb : fb = false
    · subst hfb
      clear hno
      go_enter Tryd.func8, Tryd.ntmps8
      go_wp2_with (first
        | (go_at_call 29; refine (few_c HN hn9 HRw.out HF).mono ?_; rintro e w' ⟨rfl, hg⟩; replace hs := hs.grew hg; clear hg)
        | (go_at_call 17; refine (awake4 _ (HT.out.st hs)).mono ?_; rintro e w' ⟨rfl, hg⟩; replace hs := hs.grew hg; clear hg))
      go_ret
      exact ⟨rfl, hs.nothing⟩
    · have hft : fb = true := by cases fb with
        | true => rfl
        | false => exact absurd rfl hfb
      subst hft
      have d40 : decide (40 < (na : Int)) = true := decide_eq_true (by
        rcases hno with h | h
        · cases h
        · omega)
      clear hno hfb
      go_enter Tryd.func8, Tryd.ntmps8
      go_wp2_with (first
        | (go_at_call 29; refine (few_c HN hn9 HRw.out HF).mono ?_; rintro e w' ⟨rfl, hg⟩; replace hs := hs.grew hg; clear hg)
        | (go_at_call 17; refine (awake4 _ (HT.out.st hs)).mono ?_; rintro e w' ⟨rfl, hg⟩; replace hs := hs.grew hg; clear hg))
      go_ret
      exact ⟨rfl, hs.nothing⟩
  · have hft : fb = true := by cases fb with
      | true => rfl
      | false => exact absurd (.inl rfl) hno
    subst hft
    have d40 : decide (40 < (na : Int)) = false := decide_eq_false (by omega)
    have na40 : na ≤ 40 := by omega
    obtain ⟨hf40, hn10⟩ := few_all HF.out
    rw [HN.out] at hn10
    have HF4 := Lib.hid hf40
    clear hno hf40
    go_enter Tryd.func8, Tryd.ntmps8
    go_upto_region 8 with (first
      | (go_at_call 29; refine (few_c HN hn9 HRw.out HF).mono ?_; rintro e w' ⟨rfl, hg⟩; replace hs := hs.grew hg; clear hg)
      | (go_at_call 30; refine (sets_c HN (HRw.out.grew hs.made_grew) HF4.out).mono ?_; rintro e w' ⟨B, c, C, c2, ks, m, rfl, HKl, hm6, hko, hl⟩; replace hs := hs.made hl; clear hl; have HKo := Lib.hid hko; clear hko; have HSl : Hid ((ks.map fun k => ptr k.T).length = m) := by rw [Hid, List.length_map, HKl.out])
      | (go_at_call 31; refine (tame_c HLz hm6 (HKz.out.grew hs.made_grew)).mono ?_; rintro e w' ⟨E, ce, l, q, rfl, HLl, hok, hl18, hl⟩; replace hs := hs.made hl; clear hl; have HO := Lib.hid hok; clear hok; rw [HLl.out] at hl18; have HXl : Hid ((l.map toR).length = q) := (by rw [Hid, List.length_map, HLl.out]); have HCk := Lib.hid HO.out.check)
      | (go_at_call 32; refine (load_c HXl (by omega) (hs.ndview HO.out.kids64) HCk hs.rot.ksview.ptrs HSl (by omega) (ptrs_one ks)).mono ?_; rintro e w' ⟨D1, rfl, hl⟩; replace hs := hs.made hl; clear hl; rw [maps_back] at hs))
    have HOs : Hid (ArOk l (ks.map fun k => ptr k.T).length) := by rw [Hid, HSl.out]; exact HO.out
    have hsc := hs.scv HOs.out hs.up2.ksview.sets HT.out
    clear hsc
    obtain ⟨fw, hfw⟩ : ∃ fw : Int, min (max zm (-1)) 25 = fw := ⟨_, rfl⟩
    have hfw25 : fw ≤ 25 := by omega
    have hfw1 : min fw 100000 = fw := by omega
    go_wp2
    go_loopw [2, 3, 5, 6, 20] (fun nv fv av tv jv wr => ∃ (j : Nat) (n f a t : Int), jv = .int .i64 (j : Nat) ∧ nv = .int .i64 n ∧ fv = .int .i64 f ∧ av = .int .i64 a ∧ tv = .int .i64 t ∧ j ≤ 2 ∧ St w0 [ExB D1 l (ks.map fun k => ptr k.T), NdsB E ce l, SrB B c C c2 ks] wr) (fun _ _ _ _ jv _ => 2 - (intOf jv).toNat)
    case atStart => exact ⟨0, zn, zf, zx, zt, rfl, rfl, rfl, rfl, rfl, by decide, hs⟩
    case round =>
      clear hs
      obtain ⟨j, n, f, a, t, rfl, rfl, rfl, rfl, rfl, hj, hs⟩ := hrel
      have hsc := hs.scv HOs.out hs.up2.ksview.sets HT.out
      have hrf : RfV wr E B C l ks q m := ⟨HLl.out, HO.out, hs.rot.ndview HO.out.kids64, hs.up2.ksview, HKl.out, hm6, HKo.out⟩
      by_cases hj2 : j < 2
      · have dj : decide ((j : Int) < 2) = true := decide_eq_true (by omega)
        obtain ⟨r, HR⟩ : ∃ r, Hid (nxt (tel l (ksS ks) n) f.toNat 16777216 = r) := ⟨_, rfl⟩
        obtain ⟨o, HOl⟩ : ∃ o, Hid (lst (tel l (ksS ks) n) f.toNat 16777216 fw.toNat = o) := ⟨_, rfl⟩
        have HOl2 : Hid (lst (tel l (ksS ks) n) f.toNat 16777216 (min fw 100000).toNat = o) := by rw [hfw1]; exact HOl
        obtain ⟨z, HZ⟩ : ∃ z, Hid (o.length = z) := ⟨_, rfl⟩
        have hz25 : z ≤ 25 := by
          rw [← HZ.out, ← HOl.out]
          unfold lst
          exact Nat.le_trans (List.length_take_le _ _) (by omega)
        obtain ⟨x, HX⟩ : ∃ x, Hid (scMay l (ksS ks) n 0 a = x) := ⟨_, rfl⟩
        obtain ⟨cv, HCv⟩ : ∃ x, Hid (cntV l (ksS ks) n f t = x) := ⟨_, rfl⟩
        obtain ⟨cr, HCe⟩ : ∃ x, Hid (cntE l n f t = x) := ⟨_, rfl⟩
        go_upto_region 15 with (first
          | (go_at_call 13; refine (scn_c hsc n f HR).mono ?_; rintro e w' ⟨rfl, hg⟩; replace hs := hs.grew hg; replace hsc := hsc.grew hg; replace hrf := hrf.grew hg; clear hg)
          | (go_at_call 34; refine (rnextof_c hrf n f HR).mono ?_; rintro e w' ⟨rfl, hg⟩; replace hs := hs.grew hg; replace hsc := hsc.grew hg; replace hrf := hrf.grew hg; clear hg)
          | (go_at_call 14; refine (sclist_c hsc n f fw HOl2 HZ).mono ?_; rintro e w' ⟨A2, cp2, rfl, hl⟩; rw [intv_ints2] at hl; replace hs := hs.made hl; replace hsc := hsc.grew hl.made_grew; replace hrf := hrf.grew hl.made_grew; clear hl)
          | (go_at_call 35; refine (rlistof_c hrf n f fw (by omega) HOl HZ).mono ?_; rintro e w' ⟨A3, cp3, rfl, hl⟩; replace hs := hs.made hl; replace hsc := hsc.grew hl.made_grew; replace hrf := hrf.grew hl.made_grew; clear hl)
          | (go_at_call 25; refine (rsame_c (S1 := o) (S2 := o) (b := true) HZ.out HZ.out (by omega) hs (RdS.own hs.drop).tail (RdS.own hs) (by simp)).mono ?_; rintro e w' ⟨rfl, hg⟩; replace hs := hs.grew hg; replace hsc := hsc.grew hg; replace hrf := hrf.grew hg; clear hg; replace hs := hs.drop.drop))
        by_cases hin : 0 ≤ a ∧ a < 262144 ∧ 0 ≤ n ∧ n < q
        · obtain ⟨n, rfl⟩ := Int.eq_ofNat_of_zero_le hin.2.2.1
          have hnq : n < q := by omega
          have hW : (wordsE (fun s => wordS (ksS ks s) 0 a) l)[n]? = some x := by
            rw [may_words (by rw [HLl.out]; exact hnq) ⟨hin.1, hin.2.1⟩, HX.out]
          have HW := Lib.hid hW
          have e1 : decide (0 ≤ a) = true := decide_eq_true hin.1
          have e2 : decide (a < 262144) = true := decide_eq_true hin.2.1
          have e3 : decide (n < q) = true := decide_eq_true hnq
          have e5 : ¬ n < 0 := by omega
          clear hin hW
          go_upto_region 17 with (first
            | (go_at_call 36; refine (refwords_c HLl HO.out hrf.nd hrf.kv HKl HKo.out (Lib.hid rfl)).mono ?_; rintro e w' ⟨A4, cp4, rfl, hl⟩; obtain ⟨b9, rfl⟩ := hl.own_at (by omega); have hcw := wcell_own hl HW.out; replace hs := hs.grew hl.made_grew; replace hsc := hsc.grew hl.made_grew; replace hrf := hrf.grew hl.made_grew; clear hl))
          clear hcw hnq e1 e2 e3 e5 HW
          by_cases hq0 : q = 0
          · subst hq0
            go_wp2_with (first
              | (go_at_call 12; refine (sccount_c hsc n f t HCv HCe).mono ?_; rintro e w' ⟨rfl, hg⟩; replace hs := hs.grew hg; replace hsc := hsc.grew hg; replace hrf := hrf.grew hg; clear hg)
              | (go_at_call 37; refine (rcountof_c hrf n f t HCv HCe).mono ?_; rintro e w' ⟨rfl, hg⟩; replace hs := hs.grew hg; replace hsc := hsc.grew hg; replace hrf := hrf.grew hg; clear hg)
              | (go_at_call 15; refine (scwd_c hsc n a HX).mono ?_; rintro e w' ⟨rfl, hg⟩; replace hs := hs.grew hg; replace hsc := hsc.grew hg; replace hrf := hrf.grew hg; clear hg)
              | (go_at_call 17; refine (awake4 _ hsc.tab).mono ?_; rintro e w' ⟨rfl, hg⟩; replace hs := hs.grew hg; clear hg))
            go_ret
            exact ⟨rfl, hs.nothing⟩
          · have hq0' : decide (q = 0) = false := decide_eq_false hq0
            obtain ⟨y, hy, ha⟩ := mask_small n 8 (by decide)
            replace ha : bits .and .i64 n 255 = (y : Nat) := ha
            obtain ⟨N, hN, hNq⟩ : ∃ N : Nat, ((y : Int)).tmod (q : Int) = (N : Int) ∧ N < q := ⟨y % q, by rw [Int.ofNat_tmod], Nat.mod_lt _ (by omega)⟩
            have hfm := and_ffffff f
            have hf24 := kk24_lt f
            generalize kk24 f = F at hfm hf24
            obtain ⟨P, hP, hPm⟩ := mask_small a 18 (by decide)
            replace hPm : bits .and .i64 a 262143 = (P : Nat) := hPm
            obtain ⟨G, hG, hgm⟩ := mask_small t 16 (by decide)
            replace hgm : bits .and .i64 t 65535 = (G : Nat) := hgm
            replace hG : G < 65536 := hG
            clear hq0 hy hP
            by_cases hm0 : m = 0
            · have dm : decide (m = 0) = true := decide_eq_true hm0
              have dm2 : decide (0 < m) = false := decide_eq_false (by omega)
              clear hm0
              go_wp2_with (first
                | (go_at_call 12; refine (sccount_c hsc n f t HCv HCe).mono ?_; rintro e w' ⟨rfl, hg⟩; replace hs := hs.grew hg; replace hsc := hsc.grew hg; replace hrf := hrf.grew hg; clear hg)
                | (go_at_call 37; refine (rcountof_c hrf n f t HCv HCe).mono ?_; rintro e w' ⟨rfl, hg⟩; replace hs := hs.grew hg; replace hsc := hsc.grew hg; replace hrf := hrf.grew hg; clear hg)
                | (go_at_call 15; refine (scwd_c hsc n a HX).mono ?_; rintro e w' ⟨rfl, hg⟩; replace hs := hs.grew hg; replace hsc := hsc.grew hg; replace hrf := hrf.grew hg; clear hg))
              go_roundw
              case rel => exact ⟨j + 1, _, _, _, _, by first | rfl | go_num, rfl, rfl, rfl, rfl, by omega, hs⟩
              case measure => simp [intOf] <;> omega
            · have dm2 : decide (0 < m) = true := decide_eq_true (by omega)
              have hmp : 0 < m := by omega
              obtain ⟨kk, hkk⟩ : ∃ kk, ks[0]? = some kk := ⟨_, List.getElem?_eq_getElem (by rw [HKl.out]; omega)⟩
              obtain ⟨b, o3, hC0, r2, r3⟩ := hs.up2.ksview.row 0 kk hkk
              rw [Nat.add_zero] at r2
              obtain ⟨s0, HTl⟩ : ∃ t, Hid (kk.S.length = t) := ⟨_, rfl⟩
              have hS40 := HKo.out.few kk (List.mem_of_getElem? hkk)
              rw [HTl.out] at r2 hS40
              by_cases hs0 : s0 = 0
              · have ds : decide (0 < s0) = false := decide_eq_false (by omega)
                clear hm0 r3 hkk hs0
                subst hC0
                go_wp2_with (first
                  | (go_at_call 12; refine (sccount_c hsc n f t HCv HCe).mono ?_; rintro e w' ⟨rfl, hg⟩; replace hs := hs.grew hg; replace hsc := hsc.grew hg; replace hrf := hrf.grew hg; replace r2 := hg.cell r2; clear hg)
                  | (go_at_call 37; refine (rcountof_c hrf n f t HCv HCe).mono ?_; rintro e w' ⟨rfl, hg⟩; replace hs := hs.grew hg; replace hsc := hsc.grew hg; replace hrf := hrf.grew hg; replace r2 := hg.cell r2; clear hg)
                  | (go_at_call 15; refine (scwd_c hsc n a HX).mono ?_; rintro e w' ⟨rfl, hg⟩; replace hs := hs.grew hg; replace hsc := hsc.grew hg; replace hrf := hrf.grew hg; replace r2 := hg.cell r2; clear hg))
                go_roundw
                case rel => exact ⟨j + 1, _, _, _, _, by first | rfl | go_num, rfl, rfl, rfl, rfl, by omega, hs⟩
                case measure => simp [intOf] <;> omega
              · have ds : decide (0 < s0) = true := decide_eq_true (by omega)
                have hsp : 0 < s0 := by omega
                obtain ⟨x0, hx0⟩ : ∃ x, kk.S[0]? = some x := ⟨_, List.getElem?_eq_getElem (by rw [HTl.out]; omega)⟩
                obtain ⟨b2, o2, hR0, r4⟩ := r3 0 (x0 : Int) (by unfold natI; rw [List.getElem?_map, hx0]; rfl)
                rw [Nat.add_zero] at r4
                rw [hR0] at r2
                have hx24 := HKo.out.small kk (List.mem_of_getElem? hkk) x0 (List.mem_of_getElem? hx0)
                clear hm0 r3 hkk hs0 hx0 hR0
                subst hC0
                go_wp2_with (first
                  | (go_at_call 12; refine (sccount_c hsc n f t HCv HCe).mono ?_; rintro e w' ⟨rfl, hg⟩; replace hs := hs.grew hg; replace hsc := hsc.grew hg; replace hrf := hrf.grew hg; replace r2 := hg.cell r2; replace r4 := hg.cell r4; clear hg)
                  | (go_at_call 37; refine (rcountof_c hrf n f t HCv HCe).mono ?_; rintro e w' ⟨rfl, hg⟩; replace hs := hs.grew hg; replace hsc := hsc.grew hg; replace hrf := hrf.grew hg; replace r2 := hg.cell r2; replace r4 := hg.cell r4; clear hg)
                  | (go_at_call 15; refine (scwd_c hsc n a HX).mono ?_; rintro e w' ⟨rfl, hg⟩; replace hs := hs.grew hg; replace hsc := hsc.grew hg; replace hrf := hrf.grew hg; replace r2 := hg.cell r2; replace r4 := hg.cell r4; clear hg))
                go_roundw
                case rel => exact ⟨j + 1, _, _, _, _, by first | rfl | go_num, rfl, rfl, rfl, rfl, by omega, hs⟩
                case measure => simp [intOf] <;> omega
        · have hx0 : x = 0 := by
            rw [← HX.out]
            exact may_words_no (by rw [HLl.out]; exact hin)
          subst hx0
          by_cases h1 : 0 ≤ a
          · have e1 : decide (0 ≤ a) = true := decide_eq_true h1
            by_cases h2 : a < 262144
            · have e2 : decide (a < 262144) = true := decide_eq_true h2
              by_cases h3 : 0 ≤ n
              · have e3 : decide (0 ≤ n) = true := decide_eq_true h3
                have e4 : decide (n < (q : Int)) = false := decide_eq_false (by omega)
                clear h1 h2 h3 hin
                go_upto_region 17 with (fail)
                clear e1 e2 e3 e4
                by_cases hq0 : q = 0
                · subst hq0
                  go_wp2_with (first
                    | (go_at_call 12; refine (sccount_c hsc n f t HCv HCe).mono ?_; rintro e w' ⟨rfl, hg⟩; replace hs := hs.grew hg; replace hsc := hsc.grew hg; replace hrf := hrf.grew hg; clear hg)
                    | (go_at_call 37; refine (rcountof_c hrf n f t HCv HCe).mono ?_; rintro e w' ⟨rfl, hg⟩; replace hs := hs.grew hg; replace hsc := hsc.grew hg; replace hrf := hrf.grew hg; clear hg)
                    | (go_at_call 15; refine (scwd_c hsc n a HX).mono ?_; rintro e w' ⟨rfl, hg⟩; replace hs := hs.grew hg; replace hsc := hsc.grew hg; replace hrf := hrf.grew hg; clear hg)
                    | (go_at_call 17; refine (awake4 _ hsc.tab).mono ?_; rintro e w' ⟨rfl, hg⟩; replace hs := hs.grew hg; clear hg))
                  go_ret
                  exact ⟨rfl, hs.nothing⟩
                · have hq0' : decide (q = 0) = false := decide_eq_false hq0
                  obtain ⟨y, hy, ha⟩ := mask_small n 8 (by decide)
                  replace ha : bits .and .i64 n 255 = (y : Nat) := ha
                  obtain ⟨N, hN, hNq⟩ : ∃ N : Nat, ((y : Int)).tmod (q : Int) = (N : Int) ∧ N < q := ⟨y % q, by rw [Int.ofNat_tmod], Nat.mod_lt _ (by omega)⟩
                  have hfm := and_ffffff f
                  have hf24 := kk24_lt f
                  generalize kk24 f = F at hfm hf24
                  obtain ⟨P, hP, hPm⟩ := mask_small a 18 (by decide)
                  replace hPm : bits .and .i64 a 262143 = (P : Nat) := hPm
                  obtain ⟨G, hG, hgm⟩ := mask_small t 16 (by decide)
                  replace hgm : bits .and .i64 t 65535 = (G : Nat) := hgm
                  replace hG : G < 65536 := hG
                  clear hq0 hy hP
                  by_cases hm0 : m = 0
                  · have dm : decide (m = 0) = true := decide_eq_true hm0
                    have dm2 : decide (0 < m) = false := decide_eq_false (by omega)
                    clear hm0
                    go_wp2_with (first
                      | (go_at_call 12; refine (sccount_c hsc n f t HCv HCe).mono ?_; rintro e w' ⟨rfl, hg⟩; replace hs := hs.grew hg; replace hsc := hsc.grew hg; replace hrf := hrf.grew hg; clear hg)
                      | (go_at_call 37; refine (rcountof_c hrf n f t HCv HCe).mono ?_; rintro e w' ⟨rfl, hg⟩; replace hs := hs.grew hg; replace hsc := hsc.grew hg; replace hrf := hrf.grew hg; clear hg)
                      | (go_at_call 15; refine (scwd_c hsc n a HX).mono ?_; rintro e w' ⟨rfl, hg⟩; replace hs := hs.grew hg; replace hsc := hsc.grew hg; replace hrf := hrf.grew hg; clear hg))
                    go_roundw
                    case rel => exact ⟨j + 1, _, _, _, _, by first | rfl | go_num, rfl, rfl, rfl, rfl, by omega, hs⟩
                    case measure => simp [intOf] <;> omega
                  · have dm2 : decide (0 < m) = true := decide_eq_true (by omega)
                    have hmp : 0 < m := by omega
                    obtain ⟨kk, hkk⟩ : ∃ kk, ks[0]? = some kk := ⟨_, List.getElem?_eq_getElem (by rw [HKl.out]; omega)⟩
                    obtain ⟨b, o3, hC0, r2, r3⟩ := hs.up2.ksview.row 0 kk hkk
                    rw [Nat.add_zero] at r2
                    obtain ⟨s0, HTl⟩ : ∃ t, Hid (kk.S.length = t) := ⟨_, rfl⟩
                    have hS40 := HKo.out.few kk (List.mem_of_getElem? hkk)
                    rw [HTl.out] at r2 hS40
                    by_cases hs0 : s0 = 0
                    · have ds : decide (0 < s0) = false := decide_eq_false (by omega)
                      clear hm0 r3 hkk hs0
                      subst hC0
                      go_wp2_with (first
                        | (go_at_call 12; refine (sccount_c hsc n f t HCv HCe).mono ?_; rintro e w' ⟨rfl, hg⟩; replace hs := hs.grew hg; replace hsc := hsc.grew hg; replace hrf := hrf.grew hg; replace r2 := hg.cell r2; clear hg)
                        | (go_at_call 37; refine (rcountof_c hrf n f t HCv HCe).mono ?_; rintro e w' ⟨rfl, hg⟩; replace hs := hs.grew hg; replace hsc := hsc.grew hg; replace hrf := hrf.grew hg; replace r2 := hg.cell r2; clear hg)
                        | (go_at_call 15; refine (scwd_c hsc n a HX).mono ?_; rintro e w' ⟨rfl, hg⟩; replace hs := hs.grew hg; replace hsc := hsc.grew hg; replace hrf := hrf.grew hg; replace r2 := hg.cell r2; clear hg))
                      go_roundw
                      case rel => exact ⟨j + 1, _, _, _, _, by first | rfl | go_num, rfl, rfl, rfl, rfl, by omega, hs⟩
                      case measure => simp [intOf] <;> omega
                    · have ds : decide (0 < s0) = true := decide_eq_true (by omega)
                      have hsp : 0 < s0 := by omega
                      obtain ⟨x0, hx0⟩ : ∃ x, kk.S[0]? = some x := ⟨_, List.getElem?_eq_getElem (by rw [HTl.out]; omega)⟩
                      obtain ⟨b2, o2, hR0, r4⟩ := r3 0 (x0 : Int) (by unfold natI; rw [List.getElem?_map, hx0]; rfl)
                      rw [Nat.add_zero] at r4
                      rw [hR0] at r2
                      have hx24 := HKo.out.small kk (List.mem_of_getElem? hkk) x0 (List.mem_of_getElem? hx0)
                      clear hm0 r3 hkk hs0 hx0 hR0
                      subst hC0
                      go_wp2_with (first
                        | (go_at_call 12; refine (sccount_c hsc n f t HCv HCe).mono ?_; rintro e w' ⟨rfl, hg⟩; replace hs := hs.grew hg; replace hsc := hsc.grew hg; replace hrf := hrf.grew hg; replace r2 := hg.cell r2; replace r4 := hg.cell r4; clear hg)
                        | (go_at_call 37; refine (rcountof_c hrf n f t HCv HCe).mono ?_; rintro e w' ⟨rfl, hg⟩; replace hs := hs.grew hg; replace hsc := hsc.grew hg; replace hrf := hrf.grew hg; replace r2 := hg.cell r2; replace r4 := hg.cell r4; clear hg)
                        | (go_at_call 15; refine (scwd_c hsc n a HX).mono ?_; rintro e w' ⟨rfl, hg⟩; replace hs := hs.grew hg; replace hsc := hsc.grew hg; replace hrf := hrf.grew hg; replace r2 := hg.cell r2; replace r4 := hg.cell r4; clear hg))
                      go_roundw
                      case rel => exact ⟨j + 1, _, _, _, _, by first | rfl | go_num, rfl, rfl, rfl, rfl, by omega, hs⟩
                      case measure => simp [intOf] <;> omega
              · have e3 : decide (0 ≤ n) = false := decide_eq_false h3
                clear h1 h2 h3 hin
                go_upto_region 17 with (fail)
                clear e1 e2 e3
                by_cases hq0 : q = 0
                · subst hq0
                  go_wp2_with (first
                    | (go_at_call 12; refine (sccount_c hsc n f t HCv HCe).mono ?_; rintro e w' ⟨rfl, hg⟩; replace hs := hs.grew hg; replace hsc := hsc.grew hg; replace hrf := hrf.grew hg; clear hg)
                    | (go_at_call 37; refine (rcountof_c hrf n f t HCv HCe).mono ?_; rintro e w' ⟨rfl, hg⟩; replace hs := hs.grew hg; replace hsc := hsc.grew hg; replace hrf := hrf.grew hg; clear hg)
                    | (go_at_call 15; refine (scwd_c hsc n a HX).mono ?_; rintro e w' ⟨rfl, hg⟩; replace hs := hs.grew hg; replace hsc := hsc.grew hg; replace hrf := hrf.grew hg; clear hg)
                    | (go_at_call 17; refine (awake4 _ hsc.tab).mono ?_; rintro e w' ⟨rfl, hg⟩; replace hs := hs.grew hg; clear hg))
                  go_ret
                  exact ⟨rfl, hs.nothing⟩
                · have hq0' : decide (q = 0) = false := decide_eq_false hq0
                  obtain ⟨y, hy, ha⟩ := mask_small n 8 (by decide)
                  replace ha : bits .and .i64 n 255 = (y : Nat) := ha
                  obtain ⟨N, hN, hNq⟩ : ∃ N : Nat, ((y : Int)).tmod (q : Int) = (N : Int) ∧ N < q := ⟨y % q, by rw [Int.ofNat_tmod], Nat.mod_lt _ (by omega)⟩
                  have hfm := and_ffffff f
                  have hf24 := kk24_lt f
                  generalize kk24 f = F at hfm hf24
                  obtain ⟨P, hP, hPm⟩ := mask_small a 18 (by decide)
                  replace hPm : bits .and .i64 a 262143 = (P : Nat) := hPm
                  obtain ⟨G, hG, hgm⟩ := mask_small t 16 (by decide)
                  replace hgm : bits .and .i64 t 65535 = (G : Nat) := hgm
                  replace hG : G < 65536 := hG
                  clear hq0 hy hP
                  by_cases hm0 : m = 0
                  · have dm : decide (m = 0) = true := decide_eq_true hm0
                    have dm2 : decide (0 < m) = false := decide_eq_false (by omega)
                    clear hm0
                    go_wp2_with (first
                      | (go_at_call 12; refine (sccount_c hsc n f t HCv HCe).mono ?_; rintro e w' ⟨rfl, hg⟩; replace hs := hs.grew hg; replace hsc := hsc.grew hg; replace hrf := hrf.grew hg; clear hg)
                      | (go_at_call 37; refine (rcountof_c hrf n f t HCv HCe).mono ?_; rintro e w' ⟨rfl, hg⟩; replace hs := hs.grew hg; replace hsc := hsc.grew hg; replace hrf := hrf.grew hg; clear hg)
                      | (go_at_call 15; refine (scwd_c hsc n a HX).mono ?_; rintro e w' ⟨rfl, hg⟩; replace hs := hs.grew hg; replace hsc := hsc.grew hg; replace hrf := hrf.grew hg; clear hg))
                    go_roundw
                    case rel => exact ⟨j + 1, _, _, _, _, by first | rfl | go_num, rfl, rfl, rfl, rfl, by omega, hs⟩
                    case measure => simp [intOf] <;> omega
                  · have dm2 : decide (0 < m) = true := decide_eq_true (by omega)
                    have hmp : 0 < m := by omega
                    obtain ⟨kk, hkk⟩ : ∃ kk, ks[0]? = some kk := ⟨_, List.getElem?_eq_getElem (by rw [HKl.out]; omega)⟩
                    obtain ⟨b, o3, hC0, r2, r3⟩ := hs.up2.ksview.row 0 kk hkk
                    rw [Nat.add_zero] at r2
                    obtain ⟨s0, HTl⟩ : ∃ t, Hid (kk.S.length = t) := ⟨_, rfl⟩
                    have hS40 := HKo.out.few kk (List.mem_of_getElem? hkk)
                    rw [HTl.out] at r2 hS40
                    by_cases hs0 : s0 = 0
                    · have ds : decide (0 < s0) = false := decide_eq_false (by omega)
                      clear hm0 r3 hkk hs0
                      subst hC0
                      go_wp2_with (first
                        | (go_at_call 12; refine (sccount_c hsc n f t HCv HCe).mono ?_; rintro e w' ⟨rfl, hg⟩; replace hs := hs.grew hg; replace hsc := hsc.grew hg; replace hrf := hrf.grew hg; replace r2 := hg.cell r2; clear hg)
                        | (go_at_call 37; refine (rcountof_c hrf n f t HCv HCe).mono ?_; rintro e w' ⟨rfl, hg⟩; replace hs := hs.grew hg; replace hsc := hsc.grew hg; replace hrf := hrf.grew hg; replace r2 := hg.cell r2; clear hg)
                        | (go_at_call 15; refine (scwd_c hsc n a HX).mono ?_; rintro e w' ⟨rfl, hg⟩; replace hs := hs.grew hg; replace hsc := hsc.grew hg; replace hrf := hrf.grew hg; replace r2 := hg.cell r2; clear hg))
                      go_roundw
                      case rel => exact ⟨j + 1, _, _, _, _, by first | rfl | go_num, rfl, rfl, rfl, rfl, by omega, hs⟩
                      case measure => simp [intOf] <;> omega
                    · have ds : decide (0 < s0) = true := decide_eq_true (by omega)
                      have hsp : 0 < s0 := by omega
                      obtain ⟨x0, hx0⟩ : ∃ x, kk.S[0]? = some x := ⟨_, List.getElem?_eq_getElem (by rw [HTl.out]; omega)⟩
                      obtain ⟨b2, o2, hR0, r4⟩ := r3 0 (x0 : Int) (by unfold natI; rw [List.getElem?_map, hx0]; rfl)
                      rw [Nat.add_zero] at r4
                      rw [hR0] at r2
                      have hx24 := HKo.out.small kk (List.mem_of_getElem? hkk) x0 (List.mem_of_getElem? hx0)
                      clear hm0 r3 hkk hs0 hx0 hR0
                      subst hC0
                      go_wp2_with (first
                        | (go_at_call 12; refine (sccount_c hsc n f t HCv HCe).mono ?_; rintro e w' ⟨rfl, hg⟩; replace hs := hs.grew hg; replace hsc := hsc.grew hg; replace hrf := hrf.grew hg; replace r2 := hg.cell r2; replace r4 := hg.cell r4; clear hg)
                        | (go_at_call 37; refine (rcountof_c hrf n f t HCv HCe).mono ?_; rintro e w' ⟨rfl, hg⟩; replace hs := hs.grew hg; replace hsc := hsc.grew hg; replace hrf := hrf.grew hg; replace r2 := hg.cell r2; replace r4 := hg.cell r4; clear hg)
                        | (go_at_call 15; refine (scwd_c hsc n a HX).mono ?_; rintro e w' ⟨rfl, hg⟩; replace hs := hs.grew hg; replace hsc := hsc.grew hg; replace hrf := hrf.grew hg; replace r2 := hg.cell r2; replace r4 := hg.cell r4; clear hg))
                      go_roundw
                      case rel => exact ⟨j + 1, _, _, _, _, by first | rfl | go_num, rfl, rfl, rfl, rfl, by omega, hs⟩
                      case measure => simp [intOf] <;> omega
            · have e2 : decide (a < 262144) = false := decide_eq_false h2
              clear h1 h2 hin
              go_upto_region 17 with (fail)
              clear e1 e2
              by_cases hq0 : q = 0
              · subst hq0
                go_wp2_with (first
                  | (go_at_call 12; refine (sccount_c hsc n f t HCv HCe).mono ?_; rintro e w' ⟨rfl, hg⟩; replace hs := hs.grew hg; replace hsc := hsc.grew hg; replace hrf := hrf.grew hg; clear hg)
                  | (go_at_call 37; refine (rcountof_c hrf n f t HCv HCe).mono ?_; rintro e w' ⟨rfl, hg⟩; replace hs := hs.grew hg; replace hsc := hsc.grew hg; replace hrf := hrf.grew hg; clear hg)
                  | (go_at_call 15; refine (scwd_c hsc n a HX).mono ?_; rintro e w' ⟨rfl, hg⟩; replace hs := hs.grew hg; replace hsc := hsc.grew hg; replace hrf := hrf.grew hg; clear hg)
                  | (go_at_call 17; refine (awake4 _ hsc.tab).mono ?_; rintro e w' ⟨rfl, hg⟩; replace hs := hs.grew hg; clear hg))
                go_ret
                exact ⟨rfl, hs.nothing⟩
              · have hq0' : decide (q = 0) = false := decide_eq_false hq0
                obtain ⟨y, hy, ha⟩ := mask_small n 8 (by decide)
                replace ha : bits .and .i64 n 255 = (y : Nat) := ha
                obtain ⟨N, hN, hNq⟩ : ∃ N : Nat, ((y : Int)).tmod (q : Int) = (N : Int) ∧ N < q := ⟨y % q, by rw [Int.ofNat_tmod], Nat.mod_lt _ (by omega)⟩
                have hfm := and_ffffff f
                have hf24 := kk24_lt f
                generalize kk24 f = F at hfm hf24
                obtain ⟨P, hP, hPm⟩ := mask_small a 18 (by decide)
                replace hPm : bits .and .i64 a 262143 = (P : Nat) := hPm
                obtain ⟨G, hG, hgm⟩ := mask_small t 16 (by decide)
                replace hgm : bits .and .i64 t 65535 = (G : Nat) := hgm
                replace hG : G < 65536 := hG
                clear hq0 hy hP
                by_cases hm0 : m = 0
                · have dm : decide (m = 0) = true := decide_eq_true hm0
                  have dm2 : decide (0 < m) = false := decide_eq_false (by omega)
                  clear hm0
                  go_wp2_with (first
                    | (go_at_call 12; refine (sccount_c hsc n f t HCv HCe).mono ?_; rintro e w' ⟨rfl, hg⟩; replace hs := hs.grew hg; replace hsc := hsc.grew hg; replace hrf := hrf.grew hg; clear hg)
                    | (go_at_call 37; refine (rcountof_c hrf n f t HCv HCe).mono ?_; rintro e w' ⟨rfl, hg⟩; replace hs := hs.grew hg; replace hsc := hsc.grew hg; replace hrf := hrf.grew hg; clear hg)
                    | (go_at_call 15; refine (scwd_c hsc n a HX).mono ?_; rintro e w' ⟨rfl, hg⟩; replace hs := hs.grew hg; replace hsc := hsc.grew hg; replace hrf := hrf.grew hg; clear hg))
                  go_roundw
                  case rel => exact ⟨j + 1, _, _, _, _, by first | rfl | go_num, rfl, rfl, rfl, rfl, by omega, hs⟩
                  case measure => simp [intOf] <;> omega
                · have dm2 : decide (0 < m) = true := decide_eq_true (by omega)
                  have hmp : 0 < m := by omega
                  obtain ⟨kk, hkk⟩ : ∃ kk, ks[0]? = some kk := ⟨_, List.getElem?_eq_getElem (by rw [HKl.out]; omega)⟩
                  obtain ⟨b, o3, hC0, r2, r3⟩ := hs.up2.ksview.row 0 kk hkk
                  rw [Nat.add_zero] at r2
                  obtain ⟨s0, HTl⟩ : ∃ t, Hid (kk.S.length = t) := ⟨_, rfl⟩
                  have hS40 := HKo.out.few kk (List.mem_of_getElem? hkk)
                  rw [HTl.out] at r2 hS40
                  by_cases hs0 : s0 = 0
                  · have ds : decide (0 < s0) = false := decide_eq_false (by omega)
                    clear hm0 r3 hkk hs0
                    subst hC0
                    go_wp2_with (first
                      | (go_at_call 12; refine (sccount_c hsc n f t HCv HCe).mono ?_; rintro e w' ⟨rfl, hg⟩; replace hs := hs.grew hg; replace hsc := hsc.grew hg; replace hrf := hrf.grew hg; replace r2 := hg.cell r2; clear hg)
                      | (go_at_call 37; refine (rcountof_c hrf n f t HCv HCe).mono ?_; rintro e w' ⟨rfl, hg⟩; replace hs := hs.grew hg; replace hsc := hsc.grew hg; replace hrf := hrf.grew hg; replace r2 := hg.cell r2; clear hg)
                      | (go_at_call 15; refine (scwd_c hsc n a HX).mono ?_; rintro e w' ⟨rfl, hg⟩; replace hs := hs.grew hg; replace hsc := hsc.grew hg; replace hrf := hrf.grew hg; replace r2 := hg.cell r2; clear hg))
                    go_roundw
                    case rel => exact ⟨j + 1, _, _, _, _, by first | rfl | go_num, rfl, rfl, rfl, rfl, by omega, hs⟩
                    case measure => simp [intOf] <;> omega
                  · have ds : decide (0 < s0) = true := decide_eq_true (by omega)
                    have hsp : 0 < s0 := by omega
                    obtain ⟨x0, hx0⟩ : ∃ x, kk.S[0]? = some x := ⟨_, List.getElem?_eq_getElem (by rw [HTl.out]; omega)⟩
                    obtain ⟨b2, o2, hR0, r4⟩ := r3 0 (x0 : Int) (by unfold natI; rw [List.getElem?_map, hx0]; rfl)
                    rw [Nat.add_zero] at r4
                    rw [hR0] at r2
                    have hx24 := HKo.out.small kk (List.mem_of_getElem? hkk) x0 (List.mem_of_getElem? hx0)
                    clear hm0 r3 hkk hs0 hx0 hR0
                    subst hC0
                    go_wp2_with (first
                      | (go_at_call 12; refine (sccount_c hsc n f t HCv HCe).mono ?_; rintro e w' ⟨rfl, hg⟩; replace hs := hs.grew hg; replace hsc := hsc.grew hg; replace hrf := hrf.grew hg; replace r2 := hg.cell r2; replace r4 := hg.cell r4; clear hg)
                      | (go_at_call 37; refine (rcountof_c hrf n f t HCv HCe).mono ?_; rintro e w' ⟨rfl, hg⟩; replace hs := hs.grew hg; replace hsc := hsc.grew hg; replace hrf := hrf.grew hg; replace r2 := hg.cell r2; replace r4 := hg.cell r4; clear hg)
                      | (go_at_call 15; refine (scwd_c hsc n a HX).mono ?_; rintro e w' ⟨rfl, hg⟩; replace hs := hs.grew hg; replace hsc := hsc.grew hg; replace hrf := hrf.grew hg; replace r2 := hg.cell r2; replace r4 := hg.cell r4; clear hg))
                    go_roundw
                    case rel => exact ⟨j + 1, _, _, _, _, by first | rfl | go_num, rfl, rfl, rfl, rfl, by omega, hs⟩
                    case measure => simp [intOf] <;> omega
          · have e1 : decide (0 ≤ a) = false := decide_eq_false h1
            clear h1 hin
            go_upto_region 17 with (fail)
            clear e1
            by_cases hq0 : q = 0
            · subst hq0
              go_wp2_with (first
                | (go_at_call 12; refine (sccount_c hsc n f t HCv HCe).mono ?_; rintro e w' ⟨rfl, hg⟩; replace hs := hs.grew hg; replace hsc := hsc.grew hg; replace hrf := hrf.grew hg; clear hg)
                | (go_at_call 37; refine (rcountof_c hrf n f t HCv HCe).mono ?_; rintro e w' ⟨rfl, hg⟩; replace hs := hs.grew hg; replace hsc := hsc.grew hg; replace hrf := hrf.grew hg; clear hg)
                | (go_at_call 15; refine (scwd_c hsc n a HX).mono ?_; rintro e w' ⟨rfl, hg⟩; replace hs := hs.grew hg; replace hsc := hsc.grew hg; replace hrf := hrf.grew hg; clear hg)
                | (go_at_call 17; refine (awake4 _ hsc.tab).mono ?_; rintro e w' ⟨rfl, hg⟩; replace hs := hs.grew hg; clear hg))
              go_ret
              exact ⟨rfl, hs.nothing⟩
            · have hq0' : decide (q = 0) = false := decide_eq_false hq0
              obtain ⟨y, hy, ha⟩ := mask_small n 8 (by decide)
              replace ha : bits .and .i64 n 255 = (y : Nat) := ha
              obtain ⟨N, hN, hNq⟩ : ∃ N : Nat, ((y : Int)).tmod (q : Int) = (N : Int) ∧ N < q := ⟨y % q, by rw [Int.ofNat_tmod], Nat.mod_lt _ (by omega)⟩
              have hfm := and_ffffff f
              have hf24 := kk24_lt f
              generalize kk24 f = F at hfm hf24
              obtain ⟨P, hP, hPm⟩ := mask_small a 18 (by decide)
              replace hPm : bits .and .i64 a 262143 = (P : Nat) := hPm
              obtain ⟨G, hG, hgm⟩ := mask_small t 16 (by decide)
              replace hgm : bits .and .i64 t 65535 = (G : Nat) := hgm
              replace hG : G < 65536 := hG
              clear hq0 hy hP
              by_cases hm0 : m = 0
              · have dm : decide (m = 0) = true := decide_eq_true hm0
                have dm2 : decide (0 < m) = false := decide_eq_false (by omega)
                clear hm0
                go_wp2_with (first
                  | (go_at_call 12; refine (sccount_c hsc n f t HCv HCe).mono ?_; rintro e w' ⟨rfl, hg⟩; replace hs := hs.grew hg; replace hsc := hsc.grew hg; replace hrf := hrf.grew hg; clear hg)
                  | (go_at_call 37; refine (rcountof_c hrf n f t HCv HCe).mono ?_; rintro e w' ⟨rfl, hg⟩; replace hs := hs.grew hg; replace hsc := hsc.grew hg; replace hrf := hrf.grew hg; clear hg)
                  | (go_at_call 15; refine (scwd_c hsc n a HX).mono ?_; rintro e w' ⟨rfl, hg⟩; replace hs := hs.grew hg; replace hsc := hsc.grew hg; replace hrf := hrf.grew hg; clear hg))
                go_roundw
                case rel => exact ⟨j + 1, _, _, _, _, by first | rfl | go_num, rfl, rfl, rfl, rfl, by omega, hs⟩
                case measure => simp [intOf] <;> omega
              · have dm2 : decide (0 < m) = true := decide_eq_true (by omega)
                have hmp : 0 < m := by omega
                obtain ⟨kk, hkk⟩ : ∃ kk, ks[0]? = some kk := ⟨_, List.getElem?_eq_getElem (by rw [HKl.out]; omega)⟩
                obtain ⟨b, o3, hC0, r2, r3⟩ := hs.up2.ksview.row 0 kk hkk
                rw [Nat.add_zero] at r2
                obtain ⟨s0, HTl⟩ : ∃ t, Hid (kk.S.length = t) := ⟨_, rfl⟩
                have hS40 := HKo.out.few kk (List.mem_of_getElem? hkk)
                rw [HTl.out] at r2 hS40
                by_cases hs0 : s0 = 0
                · have ds : decide (0 < s0) = false := decide_eq_false (by omega)
                  clear hm0 r3 hkk hs0
                  subst hC0
                  go_wp2_with (first
                    | (go_at_call 12; refine (sccount_c hsc n f t HCv HCe).mono ?_; rintro e w' ⟨rfl, hg⟩; replace hs := hs.grew hg; replace hsc := hsc.grew hg; replace hrf := hrf.grew hg; replace r2 := hg.cell r2; clear hg)
                    | (go_at_call 37; refine (rcountof_c hrf n f t HCv HCe).mono ?_; rintro e w' ⟨rfl, hg⟩; replace hs := hs.grew hg; replace hsc := hsc.grew hg; replace hrf := hrf.grew hg; replace r2 := hg.cell r2; clear hg)
                    | (go_at_call 15; refine (scwd_c hsc n a HX).mono ?_; rintro e w' ⟨rfl, hg⟩; replace hs := hs.grew hg; replace hsc := hsc.grew hg; replace hrf := hrf.grew hg; replace r2 := hg.cell r2; clear hg))
                  go_roundw
                  case rel => exact ⟨j + 1, _, _, _, _, by first | rfl | go_num, rfl, rfl, rfl, rfl, by omega, hs⟩
                  case measure => simp [intOf] <;> omega
                · have ds : decide (0 < s0) = true := decide_eq_true (by omega)
                  have hsp : 0 < s0 := by omega
                  obtain ⟨x0, hx0⟩ : ∃ x, kk.S[0]? = some x := ⟨_, List.getElem?_eq_getElem (by rw [HTl.out]; omega)⟩
                  obtain ⟨b2, o2, hR0, r4⟩ := r3 0 (x0 : Int) (by unfold natI; rw [List.getElem?_map, hx0]; rfl)
                  rw [Nat.add_zero] at r4
                  rw [hR0] at r2
                  have hx24 := HKo.out.small kk (List.mem_of_getElem? hkk) x0 (List.mem_of_getElem? hx0)
                  clear hm0 r3 hkk hs0 hx0 hR0
                  subst hC0
                  go_wp2_with (first
                    | (go_at_call 12; refine (sccount_c hsc n f t HCv HCe).mono ?_; rintro e w' ⟨rfl, hg⟩; replace hs := hs.grew hg; replace hsc := hsc.grew hg; replace hrf := hrf.grew hg; replace r2 := hg.cell r2; replace r4 := hg.cell r4; clear hg)
                    | (go_at_call 37; refine (rcountof_c hrf n f t HCv HCe).mono ?_; rintro e w' ⟨rfl, hg⟩; replace hs := hs.grew hg; replace hsc := hsc.grew hg; replace hrf := hrf.grew hg; replace r2 := hg.cell r2; replace r4 := hg.cell r4; clear hg)
                    | (go_at_call 15; refine (scwd_c hsc n a HX).mono ?_; rintro e w' ⟨rfl, hg⟩; replace hs := hs.grew hg; replace hsc := hsc.grew hg; replace hrf := hrf.grew hg; replace r2 := hg.cell r2; replace r4 := hg.cell r4; clear hg))
                  go_roundw
                  case rel => exact ⟨j + 1, _, _, _, _, by first | rfl | go_num, rfl, rfl, rfl, rfl, by omega, hs⟩
                  case measure => simp [intOf] <;> omega
      · have dj : decide ((j : Int) < 2) = false := decide_eq_false (by omega)
        clear hj2
        go_wp2_with (first
          | (go_at_call 17; refine (awake4 _ hsc.tab).mono ?_; rintro e w' ⟨rfl, hg⟩; replace hs := hs.grew hg; clear hg))
        go_ret
        exact ⟨rfl, hs.nothing⟩
end Go.Proofs.YtpnjoeiohigjmaaDoor
