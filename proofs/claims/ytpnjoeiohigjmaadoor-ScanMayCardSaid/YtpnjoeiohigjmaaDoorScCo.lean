/-
  ScanCounts: the walk.
-/
import Derived.Test.YtpnjoeiohigjmaaDoorScGo
set_option maxRecDepth 100000
namespace Go.Proofs.YtpnjoeiohigjmaaDoor
open Go Go.RowKit
attribute [local irreducible] wpList Calls Code.wp

/-- A Not behind the nodes. -/
theorem tel_not {l : List NodeE} {Ss : Nat → List Nat} {N q i : Nat} (hq : l.length = q) (hN : N < q) (hi : i < 16777216) : tel (l ++ [(⟨5, [N]⟩ : NodeE)]) Ss (q : Nat) i = !tel (l ++ [(⟨5, [N]⟩ : NodeE)]) Ss (N : Nat) i := by
  unfold tel exTell
  rw [decide_eq_true ⟨by omega, by rw [List.length_append, hq]; show (q : Int) < ((q + 1 : Nat) : Int); omega, by omega, by omega⟩, decide_eq_true ⟨by omega, by rw [List.length_append, hq]; show (N : Int) < ((q + 1 : Nat) : Int); omega, by omega, by omega⟩, Bool.true_and, Bool.true_and, Int.toNat_natCast, Int.toNat_natCast, tells_snoc]
  have hl := tells_len (fun s => memS (Ss s) (i : Int)) l
  rw [List.getD_eq_getElem?_getD, List.getD_eq_getElem?_getD, List.getElem?_append_right (by omega), List.getElem?_append_left (by omega), hl, hq, Nat.sub_self]
  simp [tellE, List.getD_eq_getElem?_getD]
theorem filt_both (p : Nat → Bool) : ∀ l : List Nat, (l.filter p).length + (l.filter fun i => !p i).length = l.length
  | [] => rfl
  | a :: l => by
    have := filt_both p l
    rw [List.filter_cons, List.filter_cons]
    cases h : p a <;> simp <;> omega
theorem sel_both (p q : Nat → Bool) {a b : Nat} (h : ∀ i, a ≤ i → i < b → q i = !p i) : (sel p a b).length + (sel q a b).length = b - a := by
  unfold sel
  have h2 : (List.range' a (b - a)).filter q = (List.range' a (b - a)).filter fun i => !p i := List.filter_congr fun i hi => by
    have := List.mem_range'_1.1 hi
    exact h i this.1 (by omega)
  rw [h2]
  have h3 := filt_both p (List.range' a (b - a))
  rw [List.length_range'] at h3
  exact h3
theorem cutN_nat {a : Nat} (h : a ≤ 16777216) : cutN (a : Int) = a := by unfold cutN; omega
theorem cnt_in {l : List NodeE} {Ss : Nat → List Nat} {n a b : Nat} (hn : n < l.length) (ha : a ≤ 16777216) (hb : b ≤ 16777216) (hw : b ≤ a + 262144) : cntV l Ss (n : Nat) (a : Nat) (b : Nat) = (sel (tel l Ss (n : Nat)) a b).length ∧ cntE l (n : Nat) (a : Nat) (b : Nat) = 0 := by
  unfold cntV cntE
  rw [cutN_nat ha, cutN_nat hb, if_pos ⟨by omega, by omega, by omega⟩, if_pos ⟨by omega, by omega⟩, if_pos (by omega)]
  exact ⟨rfl, rfl⟩
theorem nd_not {w0 w : World} {B2 : Option Addr} {cc2 q gk N : Nat} {l : List NodeE} {rs : List KR} {L : List As} (hrs : rs.map KR.e = l) (hl : l.length = q)
    (hs : St w0 (own B2 (q + 1) cc2 63 2 (rs.flatMap krV ++ [.int .i64 5, .slice (some ⟨gk, 0, none⟩) 1 1]) :: YtpnjoeiohigjmaaDoor.blk gk [Value.int .i64 (N : Nat)].toArray 3 :: (L ++ rs.map krA)) w) : St w0 (NdsB B2 cc2 (l ++ [(⟨5, [N]⟩ : NodeE)]) :: L) w := by
  have h1 := hs.rot.conv (blk_own (n := 1) rfl (by decide))
  have h2 : St w0 (own B2 (q + 1) cc2 63 2 (rs.flatMap krV ++ [.int .i64 ((5 : Nat) : Int), .slice (some ⟨gk, 0, none⟩) 1 1]) :: own (some ⟨gk, 0, none⟩) 1 1 3 1 (ints (kI (⟨5, [N]⟩ : NodeE))) :: (rs.map krA ++ L)) w :=
    h1.rot.ent (Ent.cons _ (Ent.cons _ (Ent.comm _ _)))
  exact h2.ent (Ent.ndgrow hrs (by rw [hl]) rfl rfl)
attribute [local irreducible] checkV sameNd setS fewB exTell ksS nxt lst tel sel cntV cntE
set_option maxHeartbeats 4000000 in
theorem sccounts_c {w0 : World} (hT : Tab w0) {va vb : Value} {rs : List IRow} {za : List Int} (hva : RowsArg encI (QI w0) w0 va rs) (hvb : IntArg w0 vb za) (zn zf zt zc : Int) : Calls Tryd.prog 7 #[va, vb, .int .i64 zn, .int .i64 zf, .int .i64 zt, .int .i64 zc] w0 (LawPost w0) := by
  obtain ⟨A, ca, rfl, hle, hcap, hrow⟩ := rows_v hva
  obtain ⟨B0, na, cb, rfl, hlen, hnc, hcm, hra, hba⟩ := hvb
  have HLz := Lib.hid hlen
  unfold maxLen at hcap hcm
  have HRw := Lib.hid hrow
  have HKz : Hid (KidsR w0 B0 za) := fun j y hy => by
    obtain ⟨b, o, h1, h2⟩ := hra.get (ints_get hy)
    exact ⟨b, o, h1, h2 _ (St.start w0)⟩
  have hs := St.start w0
  have HT := Lib.hid hT
  obtain ⟨n, HN⟩ : ∃ n, Hid (rs.length = n) := ⟨_, rfl⟩
  rw [HN.out] at hle ⊢
  have hn9 : n ≤ 9223372036854775807 := by omega
  clear hrow hva hba hlen hra hT
  obtain ⟨fb, HF⟩ : ∃ b, Hid (fewB rs = b) := ⟨_, rfl⟩
  by_cases hno : fb = false ∨ 40 < na
  · by_cases hfb : fb = false
    · subst hfb
      clear hno
      go_enter Tryd.func7, Tryd.ntmps7
      go_wp2_with (first
        | (go_at_call 29; refine (few_c HN hn9 HRw.out HF).mono ?_; rintro e w' ⟨rfl, hg⟩; replace hs := hs.grew hg; clear hg)
        | (go_at_call 17; refine (awake4 _ (HT.out.st hs)).mono ?_; rintro e w' ⟨rfl, hg⟩; replace hs := hs.grew hg; clear hg))
      go_ret
      exact ⟨rfl, hs.nothing⟩
    · have hft : fb = true := by cases fb with
        | true => rfl
        | false => exact absurd rfl hfb
      subst hft
      have d40 : decide (40 < (na : Int)) = true := decide_eq_true (by
        rcases hno with h | h
        · cases h
        · omega)
      clear hno hfb
      go_enter Tryd.func7, Tryd.ntmps7
      go_wp2_with (first
        | (go_at_call 29; refine (few_c HN hn9 HRw.out HF).mono ?_; rintro e w' ⟨rfl, hg⟩; replace hs := hs.grew hg; clear hg)
        | (go_at_call 17; refine (awake4 _ (HT.out.st hs)).mono ?_; rintro e w' ⟨rfl, hg⟩; replace hs := hs.grew hg; clear hg))
      go_ret
      exact ⟨rfl, hs.nothing⟩
  · have hft : fb = true := by cases fb with
      | true => rfl
      | false => exact absurd (.inl rfl) hno
    subst hft
    have d40 : decide (40 < (na : Int)) = false := decide_eq_false (by omega)
    have na40 : na ≤ 40 := by omega
    obtain ⟨hf40, hn10⟩ := few_all HF.out
    rw [HN.out] at hn10
    have HF4 := Lib.hid hf40
    clear hno hf40
    go_enter Tryd.func7, Tryd.ntmps7
    go_upto_region 5 with (first
      | (go_at_call 29; refine (few_c HN hn9 HRw.out HF).mono ?_; rintro e w' ⟨rfl, hg⟩; replace hs := hs.grew hg; clear hg)
      | (go_at_call 30; refine (sets_c HN (HRw.out.grew hs.made_grew) HF4.out).mono ?_; rintro e w' ⟨B, c, C, c2, ks, m, rfl, HKl, hm6, hko, hl⟩; replace hs := hs.made hl; clear hl; have HKo := Lib.hid hko; clear hko; have HSl : Hid ((ks.map fun k => ptr k.T).length = m) := by rw [Hid, List.length_map, HKl.out])
      | (go_at_call 31; refine (tame_c HLz hm6 (HKz.out.grew hs.made_grew)).mono ?_; rintro e w' ⟨E, ce, l, q, rfl, HLl, hok, hl18, hl⟩; replace hs := hs.made hl; clear hl; have HO := Lib.hid hok; clear hok; rw [HLl.out] at hl18; have HXl : Hid ((l.map toR).length = q) := (by rw [Hid, List.length_map, HLl.out]); have HCk := Lib.hid HO.out.check))
    by_cases hq0 : q = 0
    · subst hq0
      go_wp2_with (first
        | (go_at_call 17; refine (awake4 _ (HT.out.st hs)).mono ?_; rintro e w' ⟨rfl, hg⟩; replace hs := hs.grew hg; clear hg))
      go_ret
      exact ⟨rfl, hs.nothing⟩
    · have hq0' : decide (q = 0) = false := decide_eq_false hq0
      obtain ⟨y, hy, ha⟩ := mask_small zn 8 (by decide)
      replace ha : bits .and .i64 zn 255 = (y : Nat) := ha
      replace hy : y < 256 := hy
      obtain ⟨N, hN, hNq⟩ : ∃ N : Nat, ((y : Int)).tmod (q : Int) = (N : Int) ∧ N < q := ⟨y % q, by rw [Int.ofNat_tmod], Nat.mod_lt _ (by omega)⟩
      have HO2 : Hid (ArOk (l ++ [(⟨5, [N]⟩ : NodeE)]) m) := addop_m HO.out (k := 5) (kids := [N]) (by rw [HLl.out]; omega) (by decide) (by show 1 ≤ 64; decide) (fun _ => rfl) (by rw [HLl.out]; intro y hy; rw [List.mem_singleton.1 hy]; exact hNq)
      have HL2 : Hid ((l ++ [(⟨5, [N]⟩ : NodeE)]).length = q + 1) := by rw [Hid, List.length_append, HLl.out]; rfl
      have HX2 : Hid (((l ++ [(⟨5, [N]⟩ : NodeE)]).map toR).length = q + 1) := by rw [Hid, List.length_map, HL2.out]
      have HCk2 := Lib.hid HO2.out.check
      obtain ⟨rs2, hrs2, hs⟩ := hs.ndopen2
      have HRs := Lib.hid hrs2
      rw [HLl.out] at hs
      clear hrs2 hy
      go_upto_region 9 with (first
        | (refine wpl_build1 (v := .int .i64 (N : Nat)) elem24 (by decide) rfl rfl hs ?_; clear hs; intro gk w3 hs)
        | (refine wpl_buildS (build_nodeE _ _ _ _) rfl ?_)
        | (refine wpl_build1 (v := .agg #[.int .i64 5, .slice (some ⟨gk, 0, none⟩) 1 1]) elemN (by decide) rfl rfl hs ?_; clear hs; intro gb w3 hs; replace hs : St w0 (YtpnjoeiohigjmaaDoor.blk gb #[.int .i64 5, .slice (some ⟨gk, 0, none⟩) 1 1] 63 :: _) w3 := hs)
        | (refine wpl_append (A := E) (B := some ⟨gb, 0, none⟩) (n := q) (m := 1) (news := [.int .i64 5, .slice (some ⟨gk, 0, none⟩) 1 1]) elemN rfl rfl hs (Ent.skip (Ent.skip (Ent.refl _))) RdS.blk rfl (by intro u hu; simp at hu; rcases hu with rfl | rfl <;> rfl) (by unfold maxLen; omega) (by omega) ?_; clear hs; intro B2 cc2 w3 hs; replace hs := hs.rot.drop)
        | (go_at_call 32; (have hs2 : St w0 [NdsB B2 cc2 (l ++ [(⟨5, [N]⟩ : NodeE)]), SrB B c C c2 ks] _ := nd_not HRs.out HLl.out hs); clear hs; refine (load_c HX2 (by omega) (hs2.ndview HO2.out.kids64) HCk2 hs2.rot.ksview.ptrs HSl (by omega) (ptrs_one ks)).mono ?_; rintro e w' ⟨D1, rfl, hl⟩; have hs := hs2.made hl; clear hl hs2; rw [maps_back] at hs))
      have HOs : Hid (ArOk (l ++ [(⟨5, [N]⟩ : NodeE)]) (ks.map fun k => ptr k.T).length) := by rw [Hid, HSl.out]; exact HO2.out
      have hsc := hs.scv HOs.out hs.up2.ksview.sets HT.out
      clear hN ha
      have hfm := and_ffffff zf
      have hf24 := kk24_lt zf
      generalize kk24 zf = F at hfm hf24
      have hcm2 := and_ffffff zc
      generalize kk24 zc = Y at hcm2
      obtain ⟨G, hG, hgm⟩ := mask_small zt 17 (by decide)
      replace hgm : bits .and .i64 zt 131071 = (G : Nat) := hgm
      replace hG : G < 131072 := hG
      obtain ⟨T, hT1⟩ : ∃ T : Nat, min ((F : Int) + (G : Int)) 16777216 = (T : Int) := ⟨min (F + G) 16777216, by omega⟩
      have hFT : F ≤ T := by omega
      have hT24 : T ≤ 16777216 := by omega
      have hTF : T ≤ F + 262144 := by omega
      obtain ⟨d, hd⟩ : ∃ d : Nat, (T : Int) - (F : Int) = (d : Int) := ⟨T - F, by omega⟩
      obtain ⟨Z, hZ, hZd⟩ : ∃ Z : Nat, ((Y : Int)).tmod ((d : Int) + 1) = (Z : Int) ∧ Z < d + 1 := ⟨Y % (d + 1), by rw [show (d : Int) + 1 = ((d + 1 : Nat) : Int) by omega, Int.ofNat_tmod], Nat.mod_lt _ (by omega)⟩
      obtain ⟨K, hK⟩ : ∃ K : Nat, (F : Int) + (Z : Int) = (K : Int) := ⟨F + Z, by omega⟩
      have hFK : F ≤ K := by omega
      have hKT : K ≤ T := by omega
      have hl2 := HL2.out
      obtain ⟨x, HX⟩ : ∃ x, Hid (cntV (l ++ [(⟨5, [N]⟩ : NodeE)]) (ksS ks) (N : Nat) (F : Nat) (T : Nat) = x) := ⟨_, rfl⟩
      obtain ⟨y2, HY⟩ : ∃ x, Hid (cntV (l ++ [(⟨5, [N]⟩ : NodeE)]) (ksS ks) (N : Nat) (F : Nat) (K : Nat) = x) := ⟨_, rfl⟩
      obtain ⟨z2, HZ⟩ : ∃ x, Hid (cntV (l ++ [(⟨5, [N]⟩ : NodeE)]) (ksS ks) (N : Nat) (K : Nat) (T : Nat) = x) := ⟨_, rfl⟩
      obtain ⟨w2, HW⟩ : ∃ x, Hid (cntV (l ++ [(⟨5, [N]⟩ : NodeE)]) (ksS ks) (q : Nat) (F : Nat) (T : Nat) = x) := ⟨_, rfl⟩
      have e1 := cnt_in (l := l ++ [(⟨5, [N]⟩ : NodeE)]) (Ss := ksS ks) (n := N) (a := F) (b := T) (by omega) (by omega) (by omega) (by omega)
      have e2 := cnt_in (l := l ++ [(⟨5, [N]⟩ : NodeE)]) (Ss := ksS ks) (n := N) (a := F) (b := K) (by omega) (by omega) (by omega) (by omega)
      have e3 := cnt_in (l := l ++ [(⟨5, [N]⟩ : NodeE)]) (Ss := ksS ks) (n := N) (a := K) (b := T) (by omega) (by omega) (by omega) (by omega)
      have e4 := cnt_in (l := l ++ [(⟨5, [N]⟩ : NodeE)]) (Ss := ksS ks) (n := q) (a := F) (b := T) (by omega) (by omega) (by omega) (by omega)
      have hxy : (x : Int) = (y2 : Int) + (z2 : Int) := by
        rw [← HX.out, ← HY.out, ← HZ.out, e1.1, e2.1, e3.1, sel_cut (tel (l ++ [(⟨5, [N]⟩ : NodeE)]) (ksS ks) (N : Nat)) hFK hKT, List.length_append]
        omega
      have hxw : (x : Int) + (w2 : Int) = (d : Int) := by
        have := sel_both (tel (l ++ [(⟨5, [N]⟩ : NodeE)]) (ksS ks) (N : Nat)) (tel (l ++ [(⟨5, [N]⟩ : NodeE)]) (ksS ks) (q : Nat)) (a := F) (b := T) (fun i _ hi => tel_not HLl.out hNq (by omega))
        rw [← HX.out, ← HW.out, e1.1, e4.1]
        omega
      have hx9 : x ≤ 262144 := by rw [← HX.out, e1.1]; exact Nat.le_trans (sel_len_le _ _ _) (by omega)
      have hw9 : w2 ≤ 262144 := by rw [← HW.out, e4.1]; exact Nat.le_trans (sel_len_le _ _ _) (by omega)
      have h1 := Lib.hid e1.2
      have h2 := Lib.hid e2.2
      have h3 := Lib.hid e3.2
      have h4 := Lib.hid e4.2
      have hy9 : y2 ≤ 262144 := by omega
      have hz9 : z2 ≤ 262144 := by omega
      have hxyb : ((x : Int) == (y2 : Int) + (z2 : Int)) = true := by rw [hxy]; simp
      have hxwb : ((x : Int) + (w2 : Int) == (d : Int)) = true := by rw [hxw]; simp
      clear e1 e2 e3 e4 hxy hxw hl2
      go_wp2_with (first
        | (go_at_call 12; refine (sccount_c hsc (N : Nat) (F : Nat) (T : Nat) HX h1).mono ?_; clear HX; rintro e w' ⟨rfl, hg⟩; replace hs := hs.grew hg; replace hsc := hsc.grew hg; clear hg)
        | (go_at_call 12; refine (sccount_c hsc (N : Nat) (F : Nat) (K : Nat) HY h2).mono ?_; rintro e w' ⟨rfl, hg⟩; replace hs := hs.grew hg; replace hsc := hsc.grew hg; clear hg)
        | (go_at_call 12; refine (sccount_c hsc (N : Nat) (K : Nat) (T : Nat) HZ h3).mono ?_; rintro e w' ⟨rfl, hg⟩; replace hs := hs.grew hg; replace hsc := hsc.grew hg; clear hg)
        | (go_at_call 12; refine (sccount_c hsc (q : Nat) (F : Nat) (T : Nat) HW h4).mono ?_; rintro e w' ⟨rfl, hg⟩; replace hs := hs.grew hg; replace hsc := hsc.grew hg; clear hg)
        | (go_at_call 17; refine (awake4 _ hsc.tab).mono ?_; rintro e w' ⟨rfl, hg⟩; replace hs := hs.grew hg; clear hg))
      go_ret
      exact ⟨rfl, hs.nothing⟩
end Go.Proofs.YtpnjoeiohigjmaaDoor
