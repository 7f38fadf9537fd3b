/-
  ScanMay: the walk.
-/
import Derived.Test.YtpnjoeiohigjmaaDoorScTe
set_option maxRecDepth 100000
namespace Go.Proofs.YtpnjoeiohigjmaaDoor
open Go Go.RowKit
attribute [local irreducible] wpList Calls Code.wp wordS exTell

theorem refmays_v {w : World} {E B C : Option Addr} {l : List NodeE} {ks : List KS} {q m ce c2 : Nat} {level at_ : Int} (h0 : 0 ≤ level) (h : RfV w E B C l ks q m) :
    Calls Tryd.prog 33 #[.slice E q ce, .slice C m c2, .int .i64 level, .int .i64 at_] w fun e w' => ∃ A c, e = .returned (.slice A q c) ∧ St w [own A q c 31 1 (u64s (maysE (decide (0 < level)) (fun s => wordS (ksS ks s) level at_) l))] w' := by
  by_cases h1 : level = 0
  · subst h1
    rw [show decide ((0 : Int) < 0) = false by decide, mays_words]
    have HV := Lib.hid h
    clear h h0
    generalize HG : wordsE (fun s => wordS (ksS ks s) 0 at_) l = W
    go_enter Tryd.func33, Tryd.ntmps33
    go_wp2_with (first
      | (go_at_call 36; refine (refwords_c (Lib.hid HV.out.len) HV.out.ok HV.out.nd HV.out.kv (Lib.hid HV.out.kl) HV.out.kok (Lib.hid rfl)).mono ?_; rintro e w' ⟨A4, cp4, rfl, hl⟩))
    go_ret
    rw [HG] at hl
    exact ⟨A4, cp4, rfl, hl⟩
  · rw [decide_eq_true (show 0 < level by omega)]
    exact refmays_c (by omega) (Lib.hid h.len) h.ok h.nd h.kv (Lib.hid h.kl) h.kok (Lib.hid rfl)
theorem may_mays {l : List NodeE} {Ss : Nat → List Nat} {n : Nat} {level at_ : Int} (hn : n < l.length) (h : inPl level at_) : (maysE (decide (0 < level)) (fun s => wordS (Ss s) level at_) l)[n]? = some (scMay l Ss (n : Nat) level at_) := by
  have h1 : scMay l Ss (n : Nat) level at_ = (maysE (decide (0 < level)) (fun s => wordS (Ss s) level at_) l).getD n 0 := by
    unfold scMay
    rw [if_pos ⟨by omega, by omega⟩, Int.toNat_natCast, scW_in h]
    rfl
  rw [h1, List.getD_eq_getElem?_getD, List.getElem?_eq_getElem (by rw [mays_len]; exact hn), Option.getD_some]
theorem may_no {l : List NodeE} {Ss : Nat → List Nat} {n level at_ : Int} (h : ¬ (0 ≤ n ∧ n < l.length ∧ inPl level at_)) : scMay l Ss n level at_ = 0 := by
  unfold scMay
  split
  · rename_i h2
    exact scW_out fun h3 => h ⟨h2.1, h2.2, h3⟩
  · rfl
/-- Where a word is not nought, above it may be. -/
theorem may_up {l : List NodeE} {m : Nat} (hok : ArOk l m) {Ss : Nat → List Nat} {n p up x y : Nat} (hn : n < l.length) (hp : p < 262144) (hu : 0 < up) (hu4 : up < 4) (hx : scMay l Ss (n : Nat) 0 (p : Nat) = x) (h0 : x ≠ 0) (hy : scMay l Ss (n : Nat) (up : Nat) ((p / 64 ^ up : Nat) : Int) = y) : y < 2 ^ 64 ∧ y.testBit (p / 64 ^ (up - 1) % 64) = true := by
  obtain ⟨h64, hb⟩ := may_word hn hp hx
  obtain ⟨d, hd, h1⟩ := (word_zero h64).1 h0
  rw [hb d hd] at h1
  have hi24 : 64 * p + d < 16777216 := by omega
  have ht : (mayW l Ss n 0 (((64 * p + d) / 64 : Nat) : Int)).testBit ((64 * p + d) % 64) = true := by rw [mayW_tell hn hi24]; exact h1
  have h2 := mayW_over hok hi24 hu4 hu n hn ht
  have e1 : (64 * p + d) / 64 ^ (up + 1) = p / 64 ^ up := by
    rw [Nat.pow_succ', ← Nat.div_div_eq_div_mul, show (64 * p + d) / 64 = p by omega]
  have e2 : (64 * p + d) / 64 ^ up = p / 64 ^ (up - 1) := by
    obtain ⟨v, rfl⟩ : ∃ v, up = v + 1 := ⟨up - 1, by omega⟩
    rw [Nat.add_sub_cancel, Nat.pow_succ', ← Nat.div_div_eq_div_mul, show (64 * p + d) / 64 = p by omega]
  rw [e1, e2] at h2
  refine ⟨by rw [← hy]; exact scMay_lt _ _ _ _ _, ?_⟩
  rw [← hy]
  unfold scMay
  rw [if_pos ⟨by omega, by omega⟩, Int.toNat_natCast, scW_in ⟨by omega, by omega, Int.natCast_nonneg _, ?_⟩]
  · exact h2
  · rw [Int.toNat_natCast]
    have := plc_lt hi24 hu4
    rw [e1] at this
    exact pw_cast.2 this
attribute [local irreducible] checkV sameNd setS fewB ksS nxt lst tel sel cntV cntE scMay wordsE maysE
set_option maxHeartbeats 8000000 in
theorem scmays_c {w0 : World} (hT : Tab w0) {va vb : Value} {rs : List IRow} {za : List Int} (hva : RowsArg encI (QI w0) w0 va rs) (hvb : IntArg w0 vb za) (zn zv zx : Int) : Calls Tryd.prog 6 #[va, vb, .int .i64 zn, .int .i64 zv, .int .i64 zx] w0 (LawPost w0) := by
  obtain ⟨A, ca, rfl, hle, hcap, hrow⟩ := rows_v hva
  obtain ⟨B0, na, cb, rfl, hlen, hnc, hcm, hra, hba⟩ := hvb
  have HLz := Lib.hid hlen
  unfold maxLen at hcap hcm
  have HRw := Lib.hid hrow
  have HKz : Hid (KidsR w0 B0 za) := fun j y hy => by
    obtain ⟨b, o, h1, h2⟩ := hra.get (ints_get hy)
    exact ⟨b, o, h1, h2 _ (St.start w0)⟩
  have hs := St.start w0
  have HT := Lib.hid hT
  obtain ⟨n, HN⟩ : ∃ n, Hid (rs.length = n) := ⟨_, rfl⟩
  rw [HN.out] at hle ⊢
  have hn9 : n ≤ 9223372036854775807 := by omega
  clear hrow hva hba hlen hra hT
  obtain ⟨fb, HF⟩ : ∃ b, Hid (fewB rs = b) := ⟨_, rfl⟩
  by_cases hno : fb = false ∨ 40 < na
  · by_cases hfb : fb = false
    · subst hfb
      clear hno
      go_enter Tryd.func6, Tryd.ntmps6
      go_wp2_with (first
        | (go_at_call 29; refine (few_c HN hn9 HRw.out HF).mono ?_; rintro e w' ⟨rfl, hg⟩; replace hs := hs.grew hg; clear hg)
        | (go_at_call 17; refine (awake4 _ (HT.out.st hs)).mono ?_; rintro e w' ⟨rfl, hg⟩; replace hs := hs.grew hg; clear hg))
      go_ret
      exact ⟨rfl, hs.nothing⟩
    · have hft : fb = true := by cases fb with
        | true => rfl
        | false => exact absurd rfl hfb
      subst hft
      have d40 : decide (40 < (na : Int)) = true := decide_eq_true (by
        rcases hno with h | h
        · cases h
        · omega)
      clear hno hfb
      go_enter Tryd.func6, Tryd.ntmps6
      go_wp2_with (first
        | (go_at_call 29; refine (few_c HN hn9 HRw.out HF).mono ?_; rintro e w' ⟨rfl, hg⟩; replace hs := hs.grew hg; clear hg)
        | (go_at_call 17; refine (awake4 _ (HT.out.st hs)).mono ?_; rintro e w' ⟨rfl, hg⟩; replace hs := hs.grew hg; clear hg))
      go_ret
      exact ⟨rfl, hs.nothing⟩
  · have hft : fb = true := by cases fb with
      | true => rfl
      | false => exact absurd (.inl rfl) hno
    subst hft
    have d40 : decide (40 < (na : Int)) = false := decide_eq_false (by omega)
    have na40 : na ≤ 40 := by omega
    obtain ⟨hf40, hn10⟩ := few_all HF.out
    rw [HN.out] at hn10
    have HF4 := Lib.hid hf40
    clear hno hf40
    go_enter Tryd.func6, Tryd.ntmps6
    go_upto_region 8 with (first
      | (go_at_call 29; refine (few_c HN hn9 HRw.out HF).mono ?_; rintro e w' ⟨rfl, hg⟩; replace hs := hs.grew hg; clear hg)
      | (go_at_call 30; refine (sets_c HN (HRw.out.grew hs.made_grew) HF4.out).mono ?_; rintro e w' ⟨B, c, C, c2, ks, m, rfl, HKl, hm6, hko, hl⟩; replace hs := hs.made hl; clear hl; have HKo := Lib.hid hko; clear hko; have HSl : Hid ((ks.map fun k => ptr k.T).length = m) := by rw [Hid, List.length_map, HKl.out])
      | (go_at_call 31; refine (tame_c HLz hm6 (HKz.out.grew hs.made_grew)).mono ?_; rintro e w' ⟨E, ce, l, q, rfl, HLl, hok, hl18, hl⟩; replace hs := hs.made hl; clear hl; have HO := Lib.hid hok; clear hok; rw [HLl.out] at hl18; have HXl : Hid ((l.map toR).length = q) := (by rw [Hid, List.length_map, HLl.out]); have HCk := Lib.hid HO.out.check)
      | (go_at_call 32; refine (load_c HXl (by omega) (hs.ndview HO.out.kids64) HCk hs.rot.ksview.ptrs HSl (by omega) (ptrs_one ks)).mono ?_; rintro e w' ⟨D1, rfl, hl⟩; replace hs := hs.made hl; clear hl; rw [maps_back] at hs))
    have HOs : Hid (ArOk l (ks.map fun k => ptr k.T).length) := by rw [Hid, HSl.out]; exact HO.out
    have hsc := hs.scv HOs.out hs.up2.ksview.sets HT.out
    clear hsc
    go_wp2
    go_loopw [2, 3, 4, 16] (fun nv lv av jv wr => ∃ (j : Nat) (n v a : Int), jv = .int .i64 (j : Nat) ∧ nv = .int .i64 n ∧ lv = .int .i64 v ∧ av = .int .i64 a ∧ j ≤ 2 ∧ (j = 0 ∨ ∃ N : Nat, n = N ∧ N < q) ∧ St w0 [ExB D1 l (ks.map fun k => ptr k.T), NdsB E ce l, SrB B c C c2 ks] wr) (fun _ _ _ jv _ => 2 - (intOf jv).toNat)
    case atStart => exact ⟨0, zn, zv, zx, rfl, rfl, rfl, rfl, by decide, .inl rfl, hs⟩
    case round =>
      clear hs
      obtain ⟨j, n, v, a, rfl, rfl, rfl, rfl, hj, hjn, hs⟩ := hrel
      have hsc := hs.scv HOs.out hs.up2.ksview.sets HT.out
      by_cases hj2 : j < 2
      · have hrf : RfV wr E B C l ks q m := ⟨HLl.out, HO.out, hs.rot.ndview HO.out.kids64, hs.up2.ksview, HKl.out, hm6, HKo.out⟩
        have dj : decide ((j : Int) < 2) = true := decide_eq_true (by omega)
        obtain ⟨x, HX⟩ : ∃ x, Hid (scMay l (ksS ks) n v a = x) := ⟨_, rfl⟩
        clear hjn
        by_cases h1 : 0 ≤ n
        · have e1 : decide (0 ≤ n) = true := decide_eq_true h1
          by_cases h2 : n < (q : Int)
          · have e2 : decide (n < (q : Int)) = true := decide_eq_true h2
            by_cases h3 : 0 ≤ v ∧ v < 4
            · obtain ⟨n, rfl⟩ := Int.eq_ofNat_of_zero_le h1
              have hnq : n < q := by omega
              have e0 : decide (n < q) = true := decide_eq_true hnq
              clear h1 h2
              rcases (show v = 0 ∨ v = 1 ∨ v = 2 ∨ v = 3 by omega) with rfl | rfl | rfl | rfl
              · clear h3
                have e4 : decide ((0 : Int) ≤ 0) = true := by decide
                by_cases h5 : 0 ≤ a
                · have e5 : decide (0 ≤ a) = true := decide_eq_true h5
                  by_cases h6 : a < 262144
                  · have e6 : decide (a < 262144) = true := decide_eq_true h6
                    have hpl : inPl 0 a := ⟨by decide, by decide, h5, by simpa using h6⟩
                    have HW := Lib.hid (may_mays (Ss := ksS ks) (by rw [HLl.out]; exact hnq) hpl)
                    rw [HX.out] at HW
                    clear h5 h6 hpl
                    go_upto_region 14 with (first
                      | (go_at_call 33; refine (refmays_v (by decide) hrf).mono ?_; rintro e w' ⟨A4, cp4, rfl, hl⟩; obtain ⟨b9, rfl⟩ := hl.own_at (by omega); have hcw := wcell_own hl HW.out; replace hs := hs.grew hl.made_grew; replace hsc := hsc.grew hl.made_grew; clear hl hrf))
                    clear hcw hnq e1 e2 e5 e6 HW e0 e4
                    by_cases hq0 : q = 0
                    · have hq0' : decide (q = 0) = true := decide_eq_true hq0
                      subst hq0
                      go_wp2_with (first
                        | (go_at_call 16; refine (scmay_c hsc n 0 a HX).mono ?_; rintro e w' ⟨rfl, hg⟩; replace hs := hs.grew hg; replace hsc := hsc.grew hg; clear hg)
                        | (go_at_call 17; refine (awake4 _ hsc.tab).mono ?_; rintro e w' ⟨rfl, hg⟩; replace hs := hs.grew hg; clear hg))
                      go_ret
                      exact ⟨rfl, hs.nothing⟩
                    · have hq0' : decide (q = 0) = false := decide_eq_false hq0
                      obtain ⟨y, hy, ha⟩ := mask_small n 8 (by decide)
                      replace ha : bits .and .i64 n 255 = (y : Nat) := ha
                      obtain ⟨N, hN, hNq⟩ : ∃ N : Nat, ((y : Int)).tmod (q : Int) = (N : Int) ∧ N < q := ⟨y % q, by rw [Int.ofNat_tmod], Nat.mod_lt _ (by omega)⟩
                      obtain ⟨P, hP, hPm⟩ := mask_small a 18 (by decide)
                      replace hPm : bits .and .i64 a 262143 = (P : Nat) := hPm
                      obtain ⟨L4, hL4, hLm⟩ := mask_small 0 2 (by decide)
                      replace hLm : bits .and .i64 0 3 = (L4 : Nat) := hLm
                      replace hL4 : L4 < 4 := hL4
                      clear hq0 hy hP
                      go_wp2_with (first
                        | (go_at_call 16; refine (scmay_c hsc n 0 a HX).mono ?_; rintro e w' ⟨rfl, hg⟩; replace hs := hs.grew hg; replace hsc := hsc.grew hg; clear hg))
                      go_roundw
                      case rel => exact ⟨j + 1, _, _, _, by first | rfl | go_num, rfl, rfl, rfl, by omega, .inr ⟨N, rfl, hNq⟩, hs⟩
                      case measure => simp [intOf] <;> omega
                  · have e6 : decide (a < 262144) = false := decide_eq_false h6
                    have hx0 : x = 0 := by
                      rw [← HX.out]
                      exact may_no (by rw [HLl.out]; intro h; obtain ⟨g1, g2, g3, g4, g5, g6⟩ := h; first | omega | (simp at g6; omega))
                    subst hx0
                    clear h5 h6
                    go_upto_region 14 with (fail)
                    clear e1 e2 e5 e6 hrf hnq e0 e4
                    by_cases hq0 : q = 0
                    · have hq0' : decide (q = 0) = true := decide_eq_true hq0
                      subst hq0
                      go_wp2_with (first
                        | (go_at_call 16; refine (scmay_c hsc n 0 a HX).mono ?_; rintro e w' ⟨rfl, hg⟩; replace hs := hs.grew hg; replace hsc := hsc.grew hg; clear hg)
                        | (go_at_call 17; refine (awake4 _ hsc.tab).mono ?_; rintro e w' ⟨rfl, hg⟩; replace hs := hs.grew hg; clear hg))
                      go_ret
                      exact ⟨rfl, hs.nothing⟩
                    · have hq0' : decide (q = 0) = false := decide_eq_false hq0
                      obtain ⟨y, hy, ha⟩ := mask_small n 8 (by decide)
                      replace ha : bits .and .i64 n 255 = (y : Nat) := ha
                      obtain ⟨N, hN, hNq⟩ : ∃ N : Nat, ((y : Int)).tmod (q : Int) = (N : Int) ∧ N < q := ⟨y % q, by rw [Int.ofNat_tmod], Nat.mod_lt _ (by omega)⟩
                      obtain ⟨P, hP, hPm⟩ := mask_small a 18 (by decide)
                      replace hPm : bits .and .i64 a 262143 = (P : Nat) := hPm
                      obtain ⟨L4, hL4, hLm⟩ := mask_small 0 2 (by decide)
                      replace hLm : bits .and .i64 0 3 = (L4 : Nat) := hLm
                      replace hL4 : L4 < 4 := hL4
                      clear hq0 hy hP
                      go_wp2_with (first
                        | (go_at_call 16; refine (scmay_c hsc n 0 a HX).mono ?_; rintro e w' ⟨rfl, hg⟩; replace hs := hs.grew hg; replace hsc := hsc.grew hg; clear hg))
                      go_roundw
                      case rel => exact ⟨j + 1, _, _, _, by first | rfl | go_num, rfl, rfl, rfl, by omega, .inr ⟨N, rfl, hNq⟩, hs⟩
                      case measure => simp [intOf] <;> omega
                · have e5 : decide (0 ≤ a) = false := decide_eq_false h5
                  have hx0 : x = 0 := by
                    rw [← HX.out]
                    exact may_no (by rw [HLl.out]; intro h; obtain ⟨g1, g2, g3, g4, g5, g6⟩ := h; first | omega | (simp at g6; omega))
                  subst hx0
                  clear h5
                  go_upto_region 14 with (fail)
                  clear e1 e2 e5 hrf hnq e0 e4
                  by_cases hq0 : q = 0
                  · have hq0' : decide (q = 0) = true := decide_eq_true hq0
                    subst hq0
                    go_wp2_with (first
                      | (go_at_call 16; refine (scmay_c hsc n 0 a HX).mono ?_; rintro e w' ⟨rfl, hg⟩; replace hs := hs.grew hg; replace hsc := hsc.grew hg; clear hg)
                      | (go_at_call 17; refine (awake4 _ hsc.tab).mono ?_; rintro e w' ⟨rfl, hg⟩; replace hs := hs.grew hg; clear hg))
                    go_ret
                    exact ⟨rfl, hs.nothing⟩
                  · have hq0' : decide (q = 0) = false := decide_eq_false hq0
                    obtain ⟨y, hy, ha⟩ := mask_small n 8 (by decide)
                    replace ha : bits .and .i64 n 255 = (y : Nat) := ha
                    obtain ⟨N, hN, hNq⟩ : ∃ N : Nat, ((y : Int)).tmod (q : Int) = (N : Int) ∧ N < q := ⟨y % q, by rw [Int.ofNat_tmod], Nat.mod_lt _ (by omega)⟩
                    obtain ⟨P, hP, hPm⟩ := mask_small a 18 (by decide)
                    replace hPm : bits .and .i64 a 262143 = (P : Nat) := hPm
                    obtain ⟨L4, hL4, hLm⟩ := mask_small 0 2 (by decide)
                    replace hLm : bits .and .i64 0 3 = (L4 : Nat) := hLm
                    replace hL4 : L4 < 4 := hL4
                    clear hq0 hy hP
                    go_wp2_with (first
                      | (go_at_call 16; refine (scmay_c hsc n 0 a HX).mono ?_; rintro e w' ⟨rfl, hg⟩; replace hs := hs.grew hg; replace hsc := hsc.grew hg; clear hg))
                    go_roundw
                    case rel => exact ⟨j + 1, _, _, _, by first | rfl | go_num, rfl, rfl, rfl, by omega, .inr ⟨N, rfl, hNq⟩, hs⟩
                    case measure => simp [intOf] <;> omega
              · clear h3
                have e4 : decide ((0 : Int) ≤ 1) = true := by decide
                by_cases h5 : 0 ≤ a
                · have e5 : decide (0 ≤ a) = true := decide_eq_true h5
                  by_cases h6 : a < 4096
                  · have e6 : decide (a < 4096) = true := decide_eq_true h6
                    have hpl : inPl 1 a := ⟨by decide, by decide, h5, by simpa using h6⟩
                    have HW := Lib.hid (may_mays (Ss := ksS ks) (by rw [HLl.out]; exact hnq) hpl)
                    rw [HX.out] at HW
                    clear h5 h6 hpl
                    go_upto_region 14 with (first
                      | (go_at_call 33; refine (refmays_v (by decide) hrf).mono ?_; rintro e w' ⟨A4, cp4, rfl, hl⟩; obtain ⟨b9, rfl⟩ := hl.own_at (by omega); have hcw := wcell_own hl HW.out; replace hs := hs.grew hl.made_grew; replace hsc := hsc.grew hl.made_grew; clear hl hrf))
                    clear hcw hnq e1 e2 e5 e6 HW e0 e4
                    by_cases hq0 : q = 0
                    · have hq0' : decide (q = 0) = true := decide_eq_true hq0
                      subst hq0
                      go_wp2_with (first
                        | (go_at_call 16; refine (scmay_c hsc n 1 a HX).mono ?_; rintro e w' ⟨rfl, hg⟩; replace hs := hs.grew hg; replace hsc := hsc.grew hg; clear hg)
                        | (go_at_call 17; refine (awake4 _ hsc.tab).mono ?_; rintro e w' ⟨rfl, hg⟩; replace hs := hs.grew hg; clear hg))
                      go_ret
                      exact ⟨rfl, hs.nothing⟩
                    · have hq0' : decide (q = 0) = false := decide_eq_false hq0
                      obtain ⟨y, hy, ha⟩ := mask_small n 8 (by decide)
                      replace ha : bits .and .i64 n 255 = (y : Nat) := ha
                      obtain ⟨N, hN, hNq⟩ : ∃ N : Nat, ((y : Int)).tmod (q : Int) = (N : Int) ∧ N < q := ⟨y % q, by rw [Int.ofNat_tmod], Nat.mod_lt _ (by omega)⟩
                      obtain ⟨P, hP, hPm⟩ := mask_small a 18 (by decide)
                      replace hPm : bits .and .i64 a 262143 = (P : Nat) := hPm
                      obtain ⟨L4, hL4, hLm⟩ := mask_small 1 2 (by decide)
                      replace hLm : bits .and .i64 1 3 = (L4 : Nat) := hLm
                      replace hL4 : L4 < 4 := hL4
                      clear hq0 hy hP
                      go_wp2_with (first
                        | (go_at_call 16; refine (scmay_c hsc n 1 a HX).mono ?_; rintro e w' ⟨rfl, hg⟩; replace hs := hs.grew hg; replace hsc := hsc.grew hg; clear hg))
                      go_roundw
                      case rel => exact ⟨j + 1, _, _, _, by first | rfl | go_num, rfl, rfl, rfl, by omega, .inr ⟨N, rfl, hNq⟩, hs⟩
                      case measure => simp [intOf] <;> omega
                  · have e6 : decide (a < 4096) = false := decide_eq_false h6
                    have hx0 : x = 0 := by
                      rw [← HX.out]
                      exact may_no (by rw [HLl.out]; intro h; obtain ⟨g1, g2, g3, g4, g5, g6⟩ := h; first | omega | (simp at g6; omega))
                    subst hx0
                    clear h5 h6
                    go_upto_region 14 with (fail)
                    clear e1 e2 e5 e6 hrf hnq e0 e4
                    by_cases hq0 : q = 0
                    · have hq0' : decide (q = 0) = true := decide_eq_true hq0
                      subst hq0
                      go_wp2_with (first
                        | (go_at_call 16; refine (scmay_c hsc n 1 a HX).mono ?_; rintro e w' ⟨rfl, hg⟩; replace hs := hs.grew hg; replace hsc := hsc.grew hg; clear hg)
                        | (go_at_call 17; refine (awake4 _ hsc.tab).mono ?_; rintro e w' ⟨rfl, hg⟩; replace hs := hs.grew hg; clear hg))
                      go_ret
                      exact ⟨rfl, hs.nothing⟩
                    · have hq0' : decide (q = 0) = false := decide_eq_false hq0
                      obtain ⟨y, hy, ha⟩ := mask_small n 8 (by decide)
                      replace ha : bits .and .i64 n 255 = (y : Nat) := ha
                      obtain ⟨N, hN, hNq⟩ : ∃ N : Nat, ((y : Int)).tmod (q : Int) = (N : Int) ∧ N < q := ⟨y % q, by rw [Int.ofNat_tmod], Nat.mod_lt _ (by omega)⟩
                      obtain ⟨P, hP, hPm⟩ := mask_small a 18 (by decide)
                      replace hPm : bits .and .i64 a 262143 = (P : Nat) := hPm
                      obtain ⟨L4, hL4, hLm⟩ := mask_small 1 2 (by decide)
                      replace hLm : bits .and .i64 1 3 = (L4 : Nat) := hLm
                      replace hL4 : L4 < 4 := hL4
                      clear hq0 hy hP
                      go_wp2_with (first
                        | (go_at_call 16; refine (scmay_c hsc n 1 a HX).mono ?_; rintro e w' ⟨rfl, hg⟩; replace hs := hs.grew hg; replace hsc := hsc.grew hg; clear hg))
                      go_roundw
                      case rel => exact ⟨j + 1, _, _, _, by first | rfl | go_num, rfl, rfl, rfl, by omega, .inr ⟨N, rfl, hNq⟩, hs⟩
                      case measure => simp [intOf] <;> omega
                · have e5 : decide (0 ≤ a) = false := decide_eq_false h5
                  have hx0 : x = 0 := by
                    rw [← HX.out]
                    exact may_no (by rw [HLl.out]; intro h; obtain ⟨g1, g2, g3, g4, g5, g6⟩ := h; first | omega | (simp at g6; omega))
                  subst hx0
                  clear h5
                  go_upto_region 14 with (fail)
                  clear e1 e2 e5 hrf hnq e0 e4
                  by_cases hq0 : q = 0
                  · have hq0' : decide (q = 0) = true := decide_eq_true hq0
                    subst hq0
                    go_wp2_with (first
                      | (go_at_call 16; refine (scmay_c hsc n 1 a HX).mono ?_; rintro e w' ⟨rfl, hg⟩; replace hs := hs.grew hg; replace hsc := hsc.grew hg; clear hg)
                      | (go_at_call 17; refine (awake4 _ hsc.tab).mono ?_; rintro e w' ⟨rfl, hg⟩; replace hs := hs.grew hg; clear hg))
                    go_ret
                    exact ⟨rfl, hs.nothing⟩
                  · have hq0' : decide (q = 0) = false := decide_eq_false hq0
                    obtain ⟨y, hy, ha⟩ := mask_small n 8 (by decide)
                    replace ha : bits .and .i64 n 255 = (y : Nat) := ha
                    obtain ⟨N, hN, hNq⟩ : ∃ N : Nat, ((y : Int)).tmod (q : Int) = (N : Int) ∧ N < q := ⟨y % q, by rw [Int.ofNat_tmod], Nat.mod_lt _ (by omega)⟩
                    obtain ⟨P, hP, hPm⟩ := mask_small a 18 (by decide)
                    replace hPm : bits .and .i64 a 262143 = (P : Nat) := hPm
                    obtain ⟨L4, hL4, hLm⟩ := mask_small 1 2 (by decide)
                    replace hLm : bits .and .i64 1 3 = (L4 : Nat) := hLm
                    replace hL4 : L4 < 4 := hL4
                    clear hq0 hy hP
                    go_wp2_with (first
                      | (go_at_call 16; refine (scmay_c hsc n 1 a HX).mono ?_; rintro e w' ⟨rfl, hg⟩; replace hs := hs.grew hg; replace hsc := hsc.grew hg; clear hg))
                    go_roundw
                    case rel => exact ⟨j + 1, _, _, _, by first | rfl | go_num, rfl, rfl, rfl, by omega, .inr ⟨N, rfl, hNq⟩, hs⟩
                    case measure => simp [intOf] <;> omega
              · clear h3
                have e4 : decide ((0 : Int) ≤ 2) = true := by decide
                by_cases h5 : 0 ≤ a
                · have e5 : decide (0 ≤ a) = true := decide_eq_true h5
                  by_cases h6 : a < 64
                  · have e6 : decide (a < 64) = true := decide_eq_true h6
                    have hpl : inPl 2 a := ⟨by decide, by decide, h5, by simpa using h6⟩
                    have HW := Lib.hid (may_mays (Ss := ksS ks) (by rw [HLl.out]; exact hnq) hpl)
                    rw [HX.out] at HW
                    clear h5 h6 hpl
                    go_upto_region 14 with (first
                      | (go_at_call 33; refine (refmays_v (by decide) hrf).mono ?_; rintro e w' ⟨A4, cp4, rfl, hl⟩; obtain ⟨b9, rfl⟩ := hl.own_at (by omega); have hcw := wcell_own hl HW.out; replace hs := hs.grew hl.made_grew; replace hsc := hsc.grew hl.made_grew; clear hl hrf))
                    clear hcw hnq e1 e2 e5 e6 HW e0 e4
                    by_cases hq0 : q = 0
                    · have hq0' : decide (q = 0) = true := decide_eq_true hq0
                      subst hq0
                      go_wp2_with (first
                        | (go_at_call 16; refine (scmay_c hsc n 2 a HX).mono ?_; rintro e w' ⟨rfl, hg⟩; replace hs := hs.grew hg; replace hsc := hsc.grew hg; clear hg)
                        | (go_at_call 17; refine (awake4 _ hsc.tab).mono ?_; rintro e w' ⟨rfl, hg⟩; replace hs := hs.grew hg; clear hg))
                      go_ret
                      exact ⟨rfl, hs.nothing⟩
                    · have hq0' : decide (q = 0) = false := decide_eq_false hq0
                      obtain ⟨y, hy, ha⟩ := mask_small n 8 (by decide)
                      replace ha : bits .and .i64 n 255 = (y : Nat) := ha
                      obtain ⟨N, hN, hNq⟩ : ∃ N : Nat, ((y : Int)).tmod (q : Int) = (N : Int) ∧ N < q := ⟨y % q, by rw [Int.ofNat_tmod], Nat.mod_lt _ (by omega)⟩
                      obtain ⟨P, hP, hPm⟩ := mask_small a 18 (by decide)
                      replace hPm : bits .and .i64 a 262143 = (P : Nat) := hPm
                      obtain ⟨L4, hL4, hLm⟩ := mask_small 2 2 (by decide)
                      replace hLm : bits .and .i64 2 3 = (L4 : Nat) := hLm
                      replace hL4 : L4 < 4 := hL4
                      clear hq0 hy hP
                      go_wp2_with (first
                        | (go_at_call 16; refine (scmay_c hsc n 2 a HX).mono ?_; rintro e w' ⟨rfl, hg⟩; replace hs := hs.grew hg; replace hsc := hsc.grew hg; clear hg))
                      go_roundw
                      case rel => exact ⟨j + 1, _, _, _, by first | rfl | go_num, rfl, rfl, rfl, by omega, .inr ⟨N, rfl, hNq⟩, hs⟩
                      case measure => simp [intOf] <;> omega
                  · have e6 : decide (a < 64) = false := decide_eq_false h6
                    have hx0 : x = 0 := by
                      rw [← HX.out]
                      exact may_no (by rw [HLl.out]; intro h; obtain ⟨g1, g2, g3, g4, g5, g6⟩ := h; first | omega | (simp at g6; omega))
                    subst hx0
                    clear h5 h6
                    go_upto_region 14 with (fail)
                    clear e1 e2 e5 e6 hrf hnq e0 e4
                    by_cases hq0 : q = 0
                    · have hq0' : decide (q = 0) = true := decide_eq_true hq0
                      subst hq0
                      go_wp2_with (first
                        | (go_at_call 16; refine (scmay_c hsc n 2 a HX).mono ?_; rintro e w' ⟨rfl, hg⟩; replace hs := hs.grew hg; replace hsc := hsc.grew hg; clear hg)
                        | (go_at_call 17; refine (awake4 _ hsc.tab).mono ?_; rintro e w' ⟨rfl, hg⟩; replace hs := hs.grew hg; clear hg))
                      go_ret
                      exact ⟨rfl, hs.nothing⟩
                    · have hq0' : decide (q = 0) = false := decide_eq_false hq0
                      obtain ⟨y, hy, ha⟩ := mask_small n 8 (by decide)
                      replace ha : bits .and .i64 n 255 = (y : Nat) := ha
                      obtain ⟨N, hN, hNq⟩ : ∃ N : Nat, ((y : Int)).tmod (q : Int) = (N : Int) ∧ N < q := ⟨y % q, by rw [Int.ofNat_tmod], Nat.mod_lt _ (by omega)⟩
                      obtain ⟨P, hP, hPm⟩ := mask_small a 18 (by decide)
                      replace hPm : bits .and .i64 a 262143 = (P : Nat) := hPm
                      obtain ⟨L4, hL4, hLm⟩ := mask_small 2 2 (by decide)
                      replace hLm : bits .and .i64 2 3 = (L4 : Nat) := hLm
                      replace hL4 : L4 < 4 := hL4
                      clear hq0 hy hP
                      go_wp2_with (first
                        | (go_at_call 16; refine (scmay_c hsc n 2 a HX).mono ?_; rintro e w' ⟨rfl, hg⟩; replace hs := hs.grew hg; replace hsc := hsc.grew hg; clear hg))
                      go_roundw
                      case rel => exact ⟨j + 1, _, _, _, by first | rfl | go_num, rfl, rfl, rfl, by omega, .inr ⟨N, rfl, hNq⟩, hs⟩
                      case measure => simp [intOf] <;> omega
                · have e5 : decide (0 ≤ a) = false := decide_eq_false h5
                  have hx0 : x = 0 := by
                    rw [← HX.out]
                    exact may_no (by rw [HLl.out]; intro h; obtain ⟨g1, g2, g3, g4, g5, g6⟩ := h; first | omega | (simp at g6; omega))
                  subst hx0
                  clear h5
                  go_upto_region 14 with (fail)
                  clear e1 e2 e5 hrf hnq e0 e4
                  by_cases hq0 : q = 0
                  · have hq0' : decide (q = 0) = true := decide_eq_true hq0
                    subst hq0
                    go_wp2_with (first
                      | (go_at_call 16; refine (scmay_c hsc n 2 a HX).mono ?_; rintro e w' ⟨rfl, hg⟩; replace hs := hs.grew hg; replace hsc := hsc.grew hg; clear hg)
                      | (go_at_call 17; refine (awake4 _ hsc.tab).mono ?_; rintro e w' ⟨rfl, hg⟩; replace hs := hs.grew hg; clear hg))
                    go_ret
                    exact ⟨rfl, hs.nothing⟩
                  · have hq0' : decide (q = 0) = false := decide_eq_false hq0
                    obtain ⟨y, hy, ha⟩ := mask_small n 8 (by decide)
                    replace ha : bits .and .i64 n 255 = (y : Nat) := ha
                    obtain ⟨N, hN, hNq⟩ : ∃ N : Nat, ((y : Int)).tmod (q : Int) = (N : Int) ∧ N < q := ⟨y % q, by rw [Int.ofNat_tmod], Nat.mod_lt _ (by omega)⟩
                    obtain ⟨P, hP, hPm⟩ := mask_small a 18 (by decide)
                    replace hPm : bits .and .i64 a 262143 = (P : Nat) := hPm
                    obtain ⟨L4, hL4, hLm⟩ := mask_small 2 2 (by decide)
                    replace hLm : bits .and .i64 2 3 = (L4 : Nat) := hLm
                    replace hL4 : L4 < 4 := hL4
                    clear hq0 hy hP
                    go_wp2_with (first
                      | (go_at_call 16; refine (scmay_c hsc n 2 a HX).mono ?_; rintro e w' ⟨rfl, hg⟩; replace hs := hs.grew hg; replace hsc := hsc.grew hg; clear hg))
                    go_roundw
                    case rel => exact ⟨j + 1, _, _, _, by first | rfl | go_num, rfl, rfl, rfl, by omega, .inr ⟨N, rfl, hNq⟩, hs⟩
                    case measure => simp [intOf] <;> omega
              · clear h3
                have e4 : decide ((0 : Int) ≤ 3) = true := by decide
                by_cases h5 : 0 ≤ a
                · have e5 : decide (0 ≤ a) = true := decide_eq_true h5
                  by_cases h6 : a < 1
                  · have e6 : decide (a < 1) = true := decide_eq_true h6
                    have hpl : inPl 3 a := ⟨by decide, by decide, h5, by simpa using h6⟩
                    have HW := Lib.hid (may_mays (Ss := ksS ks) (by rw [HLl.out]; exact hnq) hpl)
                    rw [HX.out] at HW
                    clear h5 h6 hpl
                    go_upto_region 14 with (first
                      | (go_at_call 33; refine (refmays_v (by decide) hrf).mono ?_; rintro e w' ⟨A4, cp4, rfl, hl⟩; obtain ⟨b9, rfl⟩ := hl.own_at (by omega); have hcw := wcell_own hl HW.out; replace hs := hs.grew hl.made_grew; replace hsc := hsc.grew hl.made_grew; clear hl hrf))
                    clear hcw hnq e1 e2 e5 e6 HW e0 e4
                    by_cases hq0 : q = 0
                    · have hq0' : decide (q = 0) = true := decide_eq_true hq0
                      subst hq0
                      go_wp2_with (first
                        | (go_at_call 16; refine (scmay_c hsc n 3 a HX).mono ?_; rintro e w' ⟨rfl, hg⟩; replace hs := hs.grew hg; replace hsc := hsc.grew hg; clear hg)
                        | (go_at_call 17; refine (awake4 _ hsc.tab).mono ?_; rintro e w' ⟨rfl, hg⟩; replace hs := hs.grew hg; clear hg))
                      go_ret
                      exact ⟨rfl, hs.nothing⟩
                    · have hq0' : decide (q = 0) = false := decide_eq_false hq0
                      obtain ⟨y, hy, ha⟩ := mask_small n 8 (by decide)
                      replace ha : bits .and .i64 n 255 = (y : Nat) := ha
                      obtain ⟨N, hN, hNq⟩ : ∃ N : Nat, ((y : Int)).tmod (q : Int) = (N : Int) ∧ N < q := ⟨y % q, by rw [Int.ofNat_tmod], Nat.mod_lt _ (by omega)⟩
                      obtain ⟨P, hP, hPm⟩ := mask_small a 18 (by decide)
                      replace hPm : bits .and .i64 a 262143 = (P : Nat) := hPm
                      obtain ⟨L4, hL4, hLm⟩ := mask_small 3 2 (by decide)
                      replace hLm : bits .and .i64 3 3 = (L4 : Nat) := hLm
                      replace hL4 : L4 < 4 := hL4
                      clear hq0 hy hP
                      go_wp2_with (first
                        | (go_at_call 16; refine (scmay_c hsc n 3 a HX).mono ?_; rintro e w' ⟨rfl, hg⟩; replace hs := hs.grew hg; replace hsc := hsc.grew hg; clear hg))
                      go_roundw
                      case rel => exact ⟨j + 1, _, _, _, by first | rfl | go_num, rfl, rfl, rfl, by omega, .inr ⟨N, rfl, hNq⟩, hs⟩
                      case measure => simp [intOf] <;> omega
                  · have e6 : decide (a < 1) = false := decide_eq_false h6
                    have hx0 : x = 0 := by
                      rw [← HX.out]
                      exact may_no (by rw [HLl.out]; intro h; obtain ⟨g1, g2, g3, g4, g5, g6⟩ := h; first | omega | (simp at g6; omega))
                    subst hx0
                    clear h5 h6
                    go_upto_region 14 with (fail)
                    clear e1 e2 e5 e6 hrf hnq e0 e4
                    by_cases hq0 : q = 0
                    · have hq0' : decide (q = 0) = true := decide_eq_true hq0
                      subst hq0
                      go_wp2_with (first
                        | (go_at_call 16; refine (scmay_c hsc n 3 a HX).mono ?_; rintro e w' ⟨rfl, hg⟩; replace hs := hs.grew hg; replace hsc := hsc.grew hg; clear hg)
                        | (go_at_call 17; refine (awake4 _ hsc.tab).mono ?_; rintro e w' ⟨rfl, hg⟩; replace hs := hs.grew hg; clear hg))
                      go_ret
                      exact ⟨rfl, hs.nothing⟩
                    · have hq0' : decide (q = 0) = false := decide_eq_false hq0
                      obtain ⟨y, hy, ha⟩ := mask_small n 8 (by decide)
                      replace ha : bits .and .i64 n 255 = (y : Nat) := ha
                      obtain ⟨N, hN, hNq⟩ : ∃ N : Nat, ((y : Int)).tmod (q : Int) = (N : Int) ∧ N < q := ⟨y % q, by rw [Int.ofNat_tmod], Nat.mod_lt _ (by omega)⟩
                      obtain ⟨P, hP, hPm⟩ := mask_small a 18 (by decide)
                      replace hPm : bits .and .i64 a 262143 = (P : Nat) := hPm
                      obtain ⟨L4, hL4, hLm⟩ := mask_small 3 2 (by decide)
                      replace hLm : bits .and .i64 3 3 = (L4 : Nat) := hLm
                      replace hL4 : L4 < 4 := hL4
                      clear hq0 hy hP
                      go_wp2_with (first
                        | (go_at_call 16; refine (scmay_c hsc n 3 a HX).mono ?_; rintro e w' ⟨rfl, hg⟩; replace hs := hs.grew hg; replace hsc := hsc.grew hg; clear hg))
                      go_roundw
                      case rel => exact ⟨j + 1, _, _, _, by first | rfl | go_num, rfl, rfl, rfl, by omega, .inr ⟨N, rfl, hNq⟩, hs⟩
                      case measure => simp [intOf] <;> omega
                · have e5 : decide (0 ≤ a) = false := decide_eq_false h5
                  have hx0 : x = 0 := by
                    rw [← HX.out]
                    exact may_no (by rw [HLl.out]; intro h; obtain ⟨g1, g2, g3, g4, g5, g6⟩ := h; first | omega | (simp at g6; omega))
                  subst hx0
                  clear h5
                  go_upto_region 14 with (fail)
                  clear e1 e2 e5 hrf hnq e0 e4
                  by_cases hq0 : q = 0
                  · have hq0' : decide (q = 0) = true := decide_eq_true hq0
                    subst hq0
                    go_wp2_with (first
                      | (go_at_call 16; refine (scmay_c hsc n 3 a HX).mono ?_; rintro e w' ⟨rfl, hg⟩; replace hs := hs.grew hg; replace hsc := hsc.grew hg; clear hg)
                      | (go_at_call 17; refine (awake4 _ hsc.tab).mono ?_; rintro e w' ⟨rfl, hg⟩; replace hs := hs.grew hg; clear hg))
                    go_ret
                    exact ⟨rfl, hs.nothing⟩
                  · have hq0' : decide (q = 0) = false := decide_eq_false hq0
                    obtain ⟨y, hy, ha⟩ := mask_small n 8 (by decide)
                    replace ha : bits .and .i64 n 255 = (y : Nat) := ha
                    obtain ⟨N, hN, hNq⟩ : ∃ N : Nat, ((y : Int)).tmod (q : Int) = (N : Int) ∧ N < q := ⟨y % q, by rw [Int.ofNat_tmod], Nat.mod_lt _ (by omega)⟩
                    obtain ⟨P, hP, hPm⟩ := mask_small a 18 (by decide)
                    replace hPm : bits .and .i64 a 262143 = (P : Nat) := hPm
                    obtain ⟨L4, hL4, hLm⟩ := mask_small 3 2 (by decide)
                    replace hLm : bits .and .i64 3 3 = (L4 : Nat) := hLm
                    replace hL4 : L4 < 4 := hL4
                    clear hq0 hy hP
                    go_wp2_with (first
                      | (go_at_call 16; refine (scmay_c hsc n 3 a HX).mono ?_; rintro e w' ⟨rfl, hg⟩; replace hs := hs.grew hg; replace hsc := hsc.grew hg; clear hg))
                    go_roundw
                    case rel => exact ⟨j + 1, _, _, _, by first | rfl | go_num, rfl, rfl, rfl, by omega, .inr ⟨N, rfl, hNq⟩, hs⟩
                    case measure => simp [intOf] <;> omega
            · by_cases h4 : 0 ≤ v
              · have e3 : decide (0 ≤ v) = true := decide_eq_true h4
                have e4 : decide (v < 4) = false := decide_eq_false (by omega)
                have hx0 : x = 0 := by
                  rw [← HX.out]
                  exact may_no (by rw [HLl.out]; intro h; obtain ⟨g1, g2, g3, g4, g5, g6⟩ := h; first | omega | (simp at g6; omega))
                subst hx0
                clear h1 h2 h3 h4
                go_upto_region 14 with (fail)
                clear e1 e2 e3 e4 hrf
                by_cases hq0 : q = 0
                · have hq0' : decide (q = 0) = true := decide_eq_true hq0
                  subst hq0
                  go_wp2_with (first
                    | (go_at_call 16; refine (scmay_c hsc n v a HX).mono ?_; rintro e w' ⟨rfl, hg⟩; replace hs := hs.grew hg; replace hsc := hsc.grew hg; clear hg)
                    | (go_at_call 17; refine (awake4 _ hsc.tab).mono ?_; rintro e w' ⟨rfl, hg⟩; replace hs := hs.grew hg; clear hg))
                  go_ret
                  exact ⟨rfl, hs.nothing⟩
                · have hq0' : decide (q = 0) = false := decide_eq_false hq0
                  obtain ⟨y, hy, ha⟩ := mask_small n 8 (by decide)
                  replace ha : bits .and .i64 n 255 = (y : Nat) := ha
                  obtain ⟨N, hN, hNq⟩ : ∃ N : Nat, ((y : Int)).tmod (q : Int) = (N : Int) ∧ N < q := ⟨y % q, by rw [Int.ofNat_tmod], Nat.mod_lt _ (by omega)⟩
                  obtain ⟨P, hP, hPm⟩ := mask_small a 18 (by decide)
                  replace hPm : bits .and .i64 a 262143 = (P : Nat) := hPm
                  obtain ⟨L4, hL4, hLm⟩ := mask_small v 2 (by decide)
                  replace hLm : bits .and .i64 v 3 = (L4 : Nat) := hLm
                  replace hL4 : L4 < 4 := hL4
                  clear hq0 hy hP
                  go_wp2_with (first
                    | (go_at_call 16; refine (scmay_c hsc n v a HX).mono ?_; rintro e w' ⟨rfl, hg⟩; replace hs := hs.grew hg; replace hsc := hsc.grew hg; clear hg))
                  go_roundw
                  case rel => exact ⟨j + 1, _, _, _, by first | rfl | go_num, rfl, rfl, rfl, by omega, .inr ⟨N, rfl, hNq⟩, hs⟩
                  case measure => simp [intOf] <;> omega
              · have e3 : decide (0 ≤ v) = false := decide_eq_false h4
                have hx0 : x = 0 := by
                  rw [← HX.out]
                  exact may_no (by rw [HLl.out]; intro h; obtain ⟨g1, g2, g3, g4, g5, g6⟩ := h; first | omega | (simp at g6; omega))
                subst hx0
                clear h1 h2 h3 h4
                go_upto_region 14 with (fail)
                clear e1 e2 e3 hrf
                by_cases hq0 : q = 0
                · have hq0' : decide (q = 0) = true := decide_eq_true hq0
                  subst hq0
                  go_wp2_with (first
                    | (go_at_call 16; refine (scmay_c hsc n v a HX).mono ?_; rintro e w' ⟨rfl, hg⟩; replace hs := hs.grew hg; replace hsc := hsc.grew hg; clear hg)
                    | (go_at_call 17; refine (awake4 _ hsc.tab).mono ?_; rintro e w' ⟨rfl, hg⟩; replace hs := hs.grew hg; clear hg))
                  go_ret
                  exact ⟨rfl, hs.nothing⟩
                · have hq0' : decide (q = 0) = false := decide_eq_false hq0
                  obtain ⟨y, hy, ha⟩ := mask_small n 8 (by decide)
                  replace ha : bits .and .i64 n 255 = (y : Nat) := ha
                  obtain ⟨N, hN, hNq⟩ : ∃ N : Nat, ((y : Int)).tmod (q : Int) = (N : Int) ∧ N < q := ⟨y % q, by rw [Int.ofNat_tmod], Nat.mod_lt _ (by omega)⟩
                  obtain ⟨P, hP, hPm⟩ := mask_small a 18 (by decide)
                  replace hPm : bits .and .i64 a 262143 = (P : Nat) := hPm
                  obtain ⟨L4, hL4, hLm⟩ := mask_small v 2 (by decide)
                  replace hLm : bits .and .i64 v 3 = (L4 : Nat) := hLm
                  replace hL4 : L4 < 4 := hL4
                  clear hq0 hy hP
                  go_wp2_with (first
                    | (go_at_call 16; refine (scmay_c hsc n v a HX).mono ?_; rintro e w' ⟨rfl, hg⟩; replace hs := hs.grew hg; replace hsc := hsc.grew hg; clear hg))
                  go_roundw
                  case rel => exact ⟨j + 1, _, _, _, by first | rfl | go_num, rfl, rfl, rfl, by omega, .inr ⟨N, rfl, hNq⟩, hs⟩
                  case measure => simp [intOf] <;> omega
          · have e2 : decide (n < (q : Int)) = false := decide_eq_false h2
            have hx0 : x = 0 := by
              rw [← HX.out]
              exact may_no (by rw [HLl.out]; intro h; obtain ⟨g1, g2, g3, g4, g5, g6⟩ := h; first | omega | (simp at g6; omega))
            subst hx0
            clear h1 h2
            go_upto_region 14 with (fail)
            clear e1 e2 hrf
            by_cases hq0 : q = 0
            · have hq0' : decide (q = 0) = true := decide_eq_true hq0
              subst hq0
              go_wp2_with (first
                | (go_at_call 16; refine (scmay_c hsc n v a HX).mono ?_; rintro e w' ⟨rfl, hg⟩; replace hs := hs.grew hg; replace hsc := hsc.grew hg; clear hg)
                | (go_at_call 17; refine (awake4 _ hsc.tab).mono ?_; rintro e w' ⟨rfl, hg⟩; replace hs := hs.grew hg; clear hg))
              go_ret
              exact ⟨rfl, hs.nothing⟩
            · have hq0' : decide (q = 0) = false := decide_eq_false hq0
              obtain ⟨y, hy, ha⟩ := mask_small n 8 (by decide)
              replace ha : bits .and .i64 n 255 = (y : Nat) := ha
              obtain ⟨N, hN, hNq⟩ : ∃ N : Nat, ((y : Int)).tmod (q : Int) = (N : Int) ∧ N < q := ⟨y % q, by rw [Int.ofNat_tmod], Nat.mod_lt _ (by omega)⟩
              obtain ⟨P, hP, hPm⟩ := mask_small a 18 (by decide)
              replace hPm : bits .and .i64 a 262143 = (P : Nat) := hPm
              obtain ⟨L4, hL4, hLm⟩ := mask_small v 2 (by decide)
              replace hLm : bits .and .i64 v 3 = (L4 : Nat) := hLm
              replace hL4 : L4 < 4 := hL4
              clear hq0 hy hP
              go_wp2_with (first
                | (go_at_call 16; refine (scmay_c hsc n v a HX).mono ?_; rintro e w' ⟨rfl, hg⟩; replace hs := hs.grew hg; replace hsc := hsc.grew hg; clear hg))
              go_roundw
              case rel => exact ⟨j + 1, _, _, _, by first | rfl | go_num, rfl, rfl, rfl, by omega, .inr ⟨N, rfl, hNq⟩, hs⟩
              case measure => simp [intOf] <;> omega
        · have e1 : decide (0 ≤ n) = false := decide_eq_false h1
          have hx0 : x = 0 := by
            rw [← HX.out]
            exact may_no (by rw [HLl.out]; intro h; obtain ⟨g1, g2, g3, g4, g5, g6⟩ := h; first | omega | (simp at g6; omega))
          subst hx0
          clear h1
          go_upto_region 14 with (fail)
          clear e1 hrf
          by_cases hq0 : q = 0
          · have hq0' : decide (q = 0) = true := decide_eq_true hq0
            subst hq0
            go_wp2_with (first
              | (go_at_call 16; refine (scmay_c hsc n v a HX).mono ?_; rintro e w' ⟨rfl, hg⟩; replace hs := hs.grew hg; replace hsc := hsc.grew hg; clear hg)
              | (go_at_call 17; refine (awake4 _ hsc.tab).mono ?_; rintro e w' ⟨rfl, hg⟩; replace hs := hs.grew hg; clear hg))
            go_ret
            exact ⟨rfl, hs.nothing⟩
          · have hq0' : decide (q = 0) = false := decide_eq_false hq0
            obtain ⟨y, hy, ha⟩ := mask_small n 8 (by decide)
            replace ha : bits .and .i64 n 255 = (y : Nat) := ha
            obtain ⟨N, hN, hNq⟩ : ∃ N : Nat, ((y : Int)).tmod (q : Int) = (N : Int) ∧ N < q := ⟨y % q, by rw [Int.ofNat_tmod], Nat.mod_lt _ (by omega)⟩
            obtain ⟨P, hP, hPm⟩ := mask_small a 18 (by decide)
            replace hPm : bits .and .i64 a 262143 = (P : Nat) := hPm
            obtain ⟨L4, hL4, hLm⟩ := mask_small v 2 (by decide)
            replace hLm : bits .and .i64 v 3 = (L4 : Nat) := hLm
            replace hL4 : L4 < 4 := hL4
            clear hq0 hy hP
            go_wp2_with (first
              | (go_at_call 16; refine (scmay_c hsc n v a HX).mono ?_; rintro e w' ⟨rfl, hg⟩; replace hs := hs.grew hg; replace hsc := hsc.grew hg; clear hg))
            go_roundw
            case rel => exact ⟨j + 1, _, _, _, by first | rfl | go_num, rfl, rfl, rfl, by omega, .inr ⟨N, rfl, hNq⟩, hs⟩
            case measure => simp [intOf] <;> omega
      · have dj : decide ((j : Int) < 2) = false := decide_eq_false (by omega)
        obtain ⟨N, rfl, hNq⟩ := hjn.resolve_left (by omega)
        clear hj2 hjn hsc
        go_wp2
        go_loopw [18] (fun iv wr => ∃ i : Nat, iv = .int .i64 (i : Nat) ∧ i ≤ m ∧ St w0 [ExB D1 l (ks.map fun k => ptr k.T), NdsB E ce l, SrB B c C c2 ks] wr) (fun iv _ => m - (intOf iv).toNat)
        case atStart => exact ⟨0, rfl, Nat.zero_le _, hs⟩
        case round =>
          clear hs dj
          obtain ⟨i, rfl, hi, hs⟩ := hrel
          by_cases him : i < m
          · obtain ⟨kk, hkk⟩ : ∃ kk, ks[i]? = some kk := ⟨_, List.getElem?_eq_getElem (by rw [HKl.out]; exact him)⟩
            have HKK := Lib.hid hkk
            have hS40 := HKo.out.few kk (List.mem_of_getElem? hkk)
            have HSm := Lib.hid (HKo.out.small kk (List.mem_of_getElem? hkk))
            obtain ⟨t, HTl⟩ : ∃ t, Hid (kk.S.length = t) := ⟨_, rfl⟩
            rw [HTl.out] at hS40
            have di : decide (i < m) = true := decide_eq_true him
            clear hkk
            go_wp2
            go_loopw [19] (fun jv wr => ∃ j : Nat, jv = .int .i64 (j : Nat) ∧ j ≤ t ∧ St w0 [ExB D1 l (ks.map fun k => ptr k.T), NdsB E ce l, SrB B c C c2 ks] wr) (fun jv _ => t - (intOf jv).toNat)
            case atStart => exact ⟨0, rfl, Nat.zero_le _, hs⟩
            case round =>
              clear hs
              obtain ⟨j, rfl, hj, hs⟩ := hrel
              obtain ⟨b, o3, rfl, r2, r3⟩ := hs.up2.ksview.row i kk HKK.out
              rw [HTl.out] at r2
              by_cases hjt : j < t ∧ j < 6
              · obtain ⟨hjt, hj6⟩ := hjt
                have d1 : decide (j < t) = true := decide_eq_true hjt
                have d2 : decide ((j : Int) < 6) = true := decide_eq_true (by omega)
                obtain ⟨y, hy⟩ : ∃ y, kk.S[j]? = some y := ⟨_, List.getElem?_eq_getElem (by rw [HTl.out]; exact hjt)⟩
                have hy24 := HSm.out y (List.mem_of_getElem? hy)
                obtain ⟨b2, o2, hR0, r4⟩ := r3 j (y : Int) (by unfold natI; rw [List.getElem?_map, hy]; rfl)
                rw [hR0] at r2
                obtain ⟨p, hp⟩ : ∃ p : Nat, (y : Int) / 64 = (p : Int) := ⟨y / 64, by omega⟩
                have hp18 : p < 262144 := by omega
                obtain ⟨x, HX⟩ : ∃ x, Hid (scMay l (ksS ks) (N : Nat) 0 (p : Nat) = x) := ⟨_, rfl⟩
                have hsc := hs.scv HOs.out hs.up2.ksview.sets HT.out
                clear hy hR0 r3
                by_cases hx0 : x = 0
                · have dx : ((x : Int) == 0) = true := by simp [hx0]
                  clear hx0
                  go_wp2_with (first
                    | (go_at_call 15; refine (scwd_c hsc (N : Nat) (p : Nat) HX).mono ?_; rintro e w' ⟨rfl, hg⟩; replace hs := hs.grew hg; clear hg))
                  go_roundw
                  case rel => exact ⟨j + 1, by go_num, by omega, hs⟩
                  case measure => simp [intOf] <;> omega
                · have dx : ((x : Int) == 0) = false := by simp [hx0]
                  have HX0 := Lib.hid hx0
                  clear hx0
                  go_wp2_with (first
                    | (go_at_call 15; refine (scwd_c hsc (N : Nat) (p : Nat) HX).mono ?_; rintro e w' ⟨rfl, hg⟩; replace hs := hs.grew hg; replace r2 := hg.cell r2; replace r4 := hg.cell r4; clear hg))
                  clear r2 r4 hp hy24 hsc
                  go_loopw [21] (fun uv wr => ∃ up : Nat, uv = .int .i64 (up : Nat) ∧ 1 ≤ up ∧ up ≤ 4 ∧ St w0 [ExB D1 l (ks.map fun k => ptr k.T), NdsB E ce l, SrB B c (some ⟨b, o3, none⟩) c2 ks] wr) (fun uv _ => 4 - (intOf uv).toNat)
                  case atStart => exact ⟨1, rfl, by decide, by decide, hs⟩
                  case round =>
                    clear hs
                    obtain ⟨up, rfl, hu1, hu4, hs⟩ := hrel
                    have hsc := hs.scv HOs.out hs.up2.ksview.sets HT.out
                    rcases (show up = 1 ∨ up = 2 ∨ up = 3 ∨ up = 4 by omega) with rfl | rfl | rfl | rfl
                    · skip
                      obtain ⟨P1, hP1⟩ : ∃ P1 : Nat, (p : Int) / 64 = (P1 : Int) := ⟨p / 64, by omega⟩
                      have hP2' : True := trivial
                      have hP1' : P1 = p / 64 := by omega
                      obtain ⟨P3, hP3⟩ : ∃ P3 : Nat, p % 64 = P3 := ⟨_, rfl⟩
                      have hand := i64_and63 p (by omega)
                      rw [hP3] at hand
                      obtain ⟨y2, HY⟩ : ∃ x, Hid (scMay l (ksS ks) (N : Nat) 1 (P1 : Nat) = x) := ⟨_, rfl⟩
                      have hup := may_up (Ss := ksS ks) (n := N) (p := p) (up := 1) HOs.out (by rw [HLl.out]; exact hNq) hp18 (by decide) (by decide) HX.out HX0.out (y := y2) (by rw [← HY.out]; congr 2 <;> simp [hP1'])
                      have HY64 := Lib.hid hup.1
                      have HBt : Hid (hasW y2 (P3 : Nat) = true) := by
                        rw [Hid, hasW_nat (by omega), ← hup.2]
                        congr 1
                        simp [← hP3]
                      clear hup hP1' hP2' hP3
                      go_upto_region 31 with (fail)
                      refine wp_region_grow (by kernel_rfl) (by kernel_rfl) fun hne2 => ?_
                      repeat (go_big_quiet_step ((first
                        | (go_at_call 16; exact in_grew (scmay_c (hsc.grew (GW.grew _)) (N : Nat) 1 (P1 : Nat) HY))
                        | (go_at_call 26; exact in_gsame (has_v HY64.out HBt _)))))
                      refine wpQuiet_nil ?_
                      clear hne2
                      intro u hu
                      replace hs := hs.grew hu
                      clear hu
                      go_wp2
                      go_roundw
                      case rel => exact ⟨1 + 1, by first | rfl | go_num, by decide, by decide, hs⟩
                      case measure => simp [intOf] <;> omega
                    · skip
                      obtain ⟨P1, hP1⟩ : ∃ P1 : Nat, (p : Int) / 4096 = (P1 : Int) := ⟨p / 4096, by omega⟩
                      obtain ⟨P2, hP2⟩ : ∃ P2 : Nat, (p : Int) / 64 = (P2 : Int) := ⟨p / 64, by omega⟩
                      have hP2' : P2 = p / 64 := by omega
                      have hP1' : P1 = p / 4096 := by omega
                      obtain ⟨P3, hP3⟩ : ∃ P3 : Nat, P2 % 64 = P3 := ⟨_, rfl⟩
                      have hand := i64_and63 P2 (by omega)
                      rw [hP3] at hand
                      obtain ⟨y2, HY⟩ : ∃ x, Hid (scMay l (ksS ks) (N : Nat) 2 (P1 : Nat) = x) := ⟨_, rfl⟩
                      have hup := may_up (Ss := ksS ks) (n := N) (p := p) (up := 2) HOs.out (by rw [HLl.out]; exact hNq) hp18 (by decide) (by decide) HX.out HX0.out (y := y2) (by rw [← HY.out]; congr 2 <;> simp [hP1'])
                      have HY64 := Lib.hid hup.1
                      have HBt : Hid (hasW y2 (P3 : Nat) = true) := by
                        rw [Hid, hasW_nat (by omega), ← hup.2]
                        congr 1
                        simp [← hP3, hP2']
                      clear hup hP1' hP2' hP3
                      go_upto_region 31 with (fail)
                      refine wp_region_grow (by kernel_rfl) (by kernel_rfl) fun hne2 => ?_
                      repeat (go_big_quiet_step ((first
                        | (go_at_call 16; exact in_grew (scmay_c (hsc.grew (GW.grew _)) (N : Nat) 2 (P1 : Nat) HY))
                        | (go_at_call 26; exact in_gsame (has_v HY64.out HBt _)))))
                      refine wpQuiet_nil ?_
                      clear hne2
                      intro u hu
                      replace hs := hs.grew hu
                      clear hu
                      go_wp2
                      go_roundw
                      case rel => exact ⟨2 + 1, by first | rfl | go_num, by decide, by decide, hs⟩
                      case measure => simp [intOf] <;> omega
                    · skip
                      obtain ⟨P1, hP1⟩ : ∃ P1 : Nat, (p : Int) / 262144 = (P1 : Int) := ⟨p / 262144, by omega⟩
                      obtain ⟨P2, hP2⟩ : ∃ P2 : Nat, (p : Int) / 4096 = (P2 : Int) := ⟨p / 4096, by omega⟩
                      have hP2' : P2 = p / 4096 := by omega
                      have hP1' : P1 = p / 262144 := by omega
                      obtain ⟨P3, hP3⟩ : ∃ P3 : Nat, P2 % 64 = P3 := ⟨_, rfl⟩
                      have hand := i64_and63 P2 (by omega)
                      rw [hP3] at hand
                      obtain ⟨y2, HY⟩ : ∃ x, Hid (scMay l (ksS ks) (N : Nat) 3 (P1 : Nat) = x) := ⟨_, rfl⟩
                      have hup := may_up (Ss := ksS ks) (n := N) (p := p) (up := 3) HOs.out (by rw [HLl.out]; exact hNq) hp18 (by decide) (by decide) HX.out HX0.out (y := y2) (by rw [← HY.out]; congr 2 <;> simp [hP1'])
                      have HY64 := Lib.hid hup.1
                      have HBt : Hid (hasW y2 (P3 : Nat) = true) := by
                        rw [Hid, hasW_nat (by omega), ← hup.2]
                        congr 1
                        simp [← hP3, hP2']
                      clear hup hP1' hP2' hP3
                      go_upto_region 31 with (fail)
                      refine wp_region_grow (by kernel_rfl) (by kernel_rfl) fun hne2 => ?_
                      repeat (go_big_quiet_step ((first
                        | (go_at_call 16; exact in_grew (scmay_c (hsc.grew (GW.grew _)) (N : Nat) 3 (P1 : Nat) HY))
                        | (go_at_call 26; exact in_gsame (has_v HY64.out HBt _)))))
                      refine wpQuiet_nil ?_
                      clear hne2
                      intro u hu
                      replace hs := hs.grew hu
                      clear hu
                      go_wp2
                      go_roundw
                      case rel => exact ⟨3 + 1, by first | rfl | go_num, by decide, by decide, hs⟩
                      case measure => simp [intOf] <;> omega
                    · go_wp2
                      go_roundw
                      case rel => exact ⟨j + 1, by go_num, by omega, hs⟩
                      case measure => simp [intOf] <;> omega
              · by_cases h1 : j < t
                · have d1 : decide (j < t) = true := decide_eq_true h1
                  have d2 : decide ((j : Int) < 6) = false := decide_eq_false (by omega)
                  clear hjt h1
                  go_wp2
                  go_roundw
                  case rel => exact ⟨i + 1, by go_num, by omega, hs⟩
                  case measure => simp [intOf] <;> omega
                · have d1 : decide (j < t) = false := decide_eq_false h1
                  clear hjt h1
                  go_wp2
                  go_roundw
                  case rel => exact ⟨i + 1, by go_num, by omega, hs⟩
                  case measure => simp [intOf] <;> omega
          · have di : decide (i < m) = false := decide_eq_false him
            clear him
            have hsc := hs.scv HOs.out hs.up2.ksview.sets HT.out
            go_wp2_with (first
              | (go_at_call 17; refine (awake4 _ hsc.tab).mono ?_; rintro e w' ⟨rfl, hg⟩; replace hs := hs.grew hg; clear hg))
            go_ret
            exact ⟨rfl, hs.nothing⟩
end Go.Proofs.YtpnjoeiohigjmaaDoor
