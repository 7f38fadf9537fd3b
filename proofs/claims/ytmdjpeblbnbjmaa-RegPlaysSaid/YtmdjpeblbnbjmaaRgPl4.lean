/-
  RegPlays: the walk, whole.
-/
import Derived.Test.YtmdjpeblbnbjmaaRgPl3
import Derived.Deep.DeepCutAuto
import Derived.Deep.CutBlock
set_option maxRecDepth 100000
namespace Go.Proofs.Ytmdjpeblbnbjmaa
open Go Go.RowKit
attribute [local irreducible] wpList Calls Code.wp okI okN pS tS memS getG pG insS delS getV pV tV okVal newSl SlS.put SlS.err SlS.putU SlS.putB descE mkD mkV SlS.take SlS.set SlS.errSet SlS.get SlS.has kdE ofN strL rgE dsOf
set_option maxHeartbeats 8000000 in
theorem rgplays_c {w0 : World} {va vb vc : Value} {ra : List V3} {zs : List Int} {ps : List PutP} (hva : RowsArg c3 (fun _ => True) w0 va ra) (hvb : IntArg w0 vb zs) (hvc : RowsArg c2p Q2p w0 vc ps) (ask : Int) (ask1 : -9223372036854775808 ≤ ask) (ask2 : ask ≤ 9223372036854775807) : Calls Try.prog 5 #[va, vb, vc, .int .i64 ask] w0 (LawPost w0) := by
  obtain ⟨Ar, cr, rfl, hrc, hrm, hrr, -⟩ := hva
  obtain ⟨Az, nz, cz, rfl, hlen, hnc, hcm, hrz, -⟩ := hvb
  obtain ⟨Ap, cp, rfl, hpc, hpm, hrp, hpq⟩ := hvc
  obtain ⟨nr, hnr⟩ : ∃ n, Hid (ra.length = n) := ⟨_, rfl⟩
  obtain ⟨np, hnp⟩ : ∃ n, Hid (ps.length = n) := ⟨_, rfl⟩
  have HZ := Lib.hid hlen
  rw [hnr.out] at hrc ⊢
  rw [hnp.out] at hpc ⊢
  unfold maxLen at hcm hrm hpm
  clear hlen
  have HWA : Hid ((Lit.int .i64 ask).wf = true) := wf_int ask1 ask2
  have HPQ := Lib.hid hpq
  clear hpq ask1 ask2
  have hs := St.start w0
  go_enter Try.func5, Try.ntmps5
  go_upto_region 2 with (first
    | (go_at_call 10; refine (rg_new hs).mono ?_; clear hs; rintro r w ⟨R, rfl, hs⟩))
  by_cases hg1 : 30 < nr
  · go_wp2_with (first
      | (go_at_call 14; refine awake12.mono ?_; rintro r w ⟨rfl, hg⟩; replace hs := hs.grew hg; clear hg))
    go_ret
    exact ⟨rfl, hs.drop⟩
  by_cases hg2 : 200 < nz
  · go_wp2_with (first
      | (go_at_call 14; refine awake12.mono ?_; rintro r w ⟨rfl, hg⟩; replace hs := hs.grew hg; clear hg))
    go_ret
    exact ⟨rfl, hs.drop⟩
  go_upto_region 6 with (fail)
  go_loopw [10, 11] (fun dv iv wr => ∃ (k nl cd : Nat) (Bd : Option Addr) (l : List Cmp), k ≤ 100 ∧ nl ≤ 64 ∧ dv = .slice Bd nl cd ∧ iv = .int .i64 (k : Nat) ∧ Hid (l.length = nl) ∧ Hid (FrL l) ∧ St w0 [RgB R l, own Bd nl cd 28 3 (cs3 (dsOf l))] wr) (fun _ iv _ => 100 - (intOf iv).toNat)
  case atStart => exact ⟨0, 0, 0, none, [], Nat.zero_le _, Nat.zero_le _, rfl, rfl, rfl, FrL.nil, by rw [dsOf_nil]; exact (hs.own_nil 28 3).rot⟩
  case round =>
    clear hs
    obtain ⟨k, nl, cd, Bd, l, hk, hnl, rfl, rfl, hl, HF, hs⟩ := hrel
    go_upto_region 6 with (fail)
    go_cut [55] (fun bv wx => ∃ bb : Bool, bv = .bool bb ∧ Hid (bb = decide (k < nr ∨ 3 * k + 2 < nz)) ∧ wr = wx)
    case first =>
      by_cases h1 : k < nr
      · go_wp2
        go_meet
        exact ⟨true, rfl, by simp [Hid, h1], rfl⟩
      · by_cases h2 : 3 * k + 2 < nz
        · go_wp2
          go_meet
          exact ⟨true, congrArg Value.bool (decide_eq_true (by omega)), by simp [Hid, h2], rfl⟩
        · go_wp2
          go_meet
          exact ⟨false, congrArg Value.bool (decide_eq_false (by omega)), by simp [Hid, h1, h2], rfl⟩
    case rest =>
      obtain ⟨bb, rfl, hbb, rfl⟩ := hcut
      cases bb
      case true =>
        have hk1 : k + 1 ≤ 100 := by
          have := of_decide_eq_true hbb.out.symm
          omega
        clear hbb
        go_upto_if 61 with (fail)
        go_cut [12] (fun v wx => ∃ (B : Option Addr) (n cp : Nat) (ll : List V3), v = .slice B n cp ∧ Hid (ll.length = n) ∧ n ≤ 1 ∧ St w0 [own B n cp 28 3 (cs3 ll), RgB R l, own Bd nl cd 28 3 (cs3 (dsOf l))] wx)
        case first =>
          replace hs := hs.own_nil 28 3
          by_cases h1 : k < nr
          · obtain ⟨x, hx⟩ : ∃ x, ra[k]? = some x := ⟨_, List.getElem?_eq_getElem (by rw [hnr.out]; exact h1)⟩
            obtain ⟨b, o, rfl, hld⟩ := RdS.row3 hrr hx
            clear hx
            go_wp2_with (first
              | (refine wpl_load_agg (cs := c3 x) (b := b) (o := o + k * 3) rfl agg3D (size3Dn (v := x)) hs ?hh ?_; case hh => exact fun j u hu => (hld j u hu).any _)
              | (refine wpl_build1 (v := val3 x) elemDs (by decide) rfl rfl hs ?_; clear hs; intro G w hs)
              | (refine wpl_append (A := none) (n := 0) (cap := 0) (xs := []) (m := 1) (news := c3 x) elemDs rfl rfl hs (L' := blk G (c3 x).toArray 28 :: RgB R l :: [own Bd nl cd 28 3 (cs3 (dsOf l))]) (by (repeat first | exact Ent.refl _ | refine Ent.step (by first | exact Ent.refl _ | exact Ent.skip (Ent.refl _) | exact Ent.skip (Ent.skip (Ent.refl _)) | exact Ent.skip (Ent.skip (Ent.skip (Ent.refl _))) | exact Ent.skip (Ent.skip (Ent.skip (Ent.skip (Ent.refl _)))) | exact Ent.skip (Ent.skip (Ent.skip (Ent.skip (Ent.skip (Ent.refl _))))) | exact Ent.skip (Ent.skip (Ent.skip (Ent.skip (Ent.skip (Ent.skip (Ent.refl _)))))) | exact Ent.skip (Ent.skip (Ent.skip (Ent.skip (Ent.skip (Ent.skip (Ent.skip (Ent.refl _))))))) | exact Ent.skip (Ent.skip (Ent.skip (Ent.skip (Ent.skip (Ent.skip (Ent.skip (Ent.skip (Ent.refl _)))))))) | exact Ent.skip (Ent.skip (Ent.skip (Ent.skip (Ent.skip (Ent.skip (Ent.skip (Ent.skip (Ent.skip (Ent.refl _)))))))))) ?_)) RdS.blk rfl (one3 _) (by unfold maxLen; omega) (by omega) ?_; clear hs; intro B3 cap3 w hs))
            go_meet
            exact ⟨B3, 1, cap3, [x], rfl, rfl, Nat.le_refl _, hs.ent (M := blk G (c3 x).toArray 28 :: _) (by (repeat first | exact Ent.refl _ | refine Ent.step (by first | exact Ent.refl _ | exact Ent.skip (Ent.refl _) | exact Ent.skip (Ent.skip (Ent.refl _)) | exact Ent.skip (Ent.skip (Ent.skip (Ent.refl _))) | exact Ent.skip (Ent.skip (Ent.skip (Ent.skip (Ent.refl _)))) | exact Ent.skip (Ent.skip (Ent.skip (Ent.skip (Ent.skip (Ent.refl _))))) | exact Ent.skip (Ent.skip (Ent.skip (Ent.skip (Ent.skip (Ent.skip (Ent.refl _)))))) | exact Ent.skip (Ent.skip (Ent.skip (Ent.skip (Ent.skip (Ent.skip (Ent.skip (Ent.refl _))))))) | exact Ent.skip (Ent.skip (Ent.skip (Ent.skip (Ent.skip (Ent.skip (Ent.skip (Ent.skip (Ent.refl _)))))))) | exact Ent.skip (Ent.skip (Ent.skip (Ent.skip (Ent.skip (Ent.skip (Ent.skip (Ent.skip (Ent.skip (Ent.refl _)))))))))) ?_)) |>.drop⟩
          · go_wp2
            go_meet
            exact ⟨none, 0, 0, [], rfl, rfl, Nat.zero_le _, hs⟩
        case rest =>
          clear hs
          obtain ⟨B, n, cp, ll, rfl, hll, hn1, hs⟩ := hcut
          go_upto_if 74 with (fail)
          go_cut [12] (fun v wx => ∃ (B : Option Addr) (n cp : Nat) (ll : List V3), v = .slice B n cp ∧ Hid (ll.length = n) ∧ n ≤ 2 ∧ St w0 [own B n cp 28 3 (cs3 ll), RgB R l, own Bd nl cd 28 3 (cs3 (dsOf l))] wx)
          case first =>
            by_cases h2 : 3 * k + 2 < nz
            · obtain ⟨b1, o1, z1, rfl, hc1, -⟩ := hrz.int (show 3 * k < zs.length by rw [HZ.out]; omega)
              obtain ⟨b2, o2, z2, he2, hc2, -⟩ := hrz.int (show 3 * k + 1 < zs.length by rw [HZ.out]; omega)
              obtain ⟨b3, o3, z3, he3, hc3, -⟩ := hrz.int (show 3 * k + 2 < zs.length by rw [HZ.out]; omega)
              injection he2 with he2
              injection he2 with e1 e2
              subst e1; subst e2
              injection he3 with he3
              injection he3 with e1 e2
              subst e1; subst e2
              obtain ⟨d, HD⟩ : ∃ d, Hid (mkD z1 z2 z3 = d) := ⟨_, rfl⟩
              go_upto_region 12 with (fail)
              refine wp_region_plain [false, false, false, false, false, false, false, false, false, false, false, false, false, false, false, false, false, false, true, true, true, true] hs.grew0 (by kernel_rfl) (by kernel_rfl) fun hne => ?_
              have c1 := hc1.alln
              have c2 := hc2.alln
              have c3 := hc3.alln
              simp only [pickOps]
              repeat (go_big_quiet_step (fail))
              refine wpQuiet_nil ?_
              clear hne c1 c2 c3
              simp only [chainIx]
              replace hs := hs.drew
              refine wpChainP_next rfl ?_
              go_wp2_with (first
                | (go_at_call 21; refine (ldesc_c _ _ _ HD).mono ?_; rintro r w ⟨rfl, hg⟩; replace hs := hs.grew hg; clear hg))
              refine ⟨hs.grew0, ?_⟩
              refine wpChainP_next rfl ?_
              refine wpl_build1 (v := val3 d) elemDs (by decide) rfl rfl hs ?_
              clear hs
              intro G w hs
              refine wpList_nil ⟨rfl, hs.grew0, ?_⟩
              refine wpChainP_next rfl ?_
              refine wpl_append (A := B) (n := n) (cap := cp) (xs := cs3 ll) (m := 1) (news := c3 d) elemDs rfl rfl hs (L' := blk G (c3 d).toArray 28 :: RgB R l :: [own Bd nl cd 28 3 (cs3 (dsOf l))]) (by (repeat first | exact Ent.refl _ | refine Ent.step (by first | exact Ent.refl _ | exact Ent.skip (Ent.refl _) | exact Ent.skip (Ent.skip (Ent.refl _)) | exact Ent.skip (Ent.skip (Ent.skip (Ent.refl _))) | exact Ent.skip (Ent.skip (Ent.skip (Ent.skip (Ent.refl _)))) | exact Ent.skip (Ent.skip (Ent.skip (Ent.skip (Ent.skip (Ent.refl _))))) | exact Ent.skip (Ent.skip (Ent.skip (Ent.skip (Ent.skip (Ent.skip (Ent.refl _)))))) | exact Ent.skip (Ent.skip (Ent.skip (Ent.skip (Ent.skip (Ent.skip (Ent.skip (Ent.refl _))))))) | exact Ent.skip (Ent.skip (Ent.skip (Ent.skip (Ent.skip (Ent.skip (Ent.skip (Ent.skip (Ent.refl _)))))))) | exact Ent.skip (Ent.skip (Ent.skip (Ent.skip (Ent.skip (Ent.skip (Ent.skip (Ent.skip (Ent.skip (Ent.refl _)))))))))) ?_)) RdS.blk rfl (one3 _) (by unfold maxLen; omega) (by omega) ?_
              clear hs
              intro B3 cap3 w hs
              refine wpList_nil ⟨rfl, hs.grew0, ?_⟩
              refine wpChain_last rfl ?_
              go_wp2
              go_meet
              refine ⟨B3, n + 1, cap3, ll ++ [d], rfl, by rw [Hid, List.length_append, hll.out]; rfl, by omega, ?_⟩
              rw [cs3_append]
              exact hs.ent (M := blk G (c3 d).toArray 28 :: _) (by (repeat first | exact Ent.refl _ | refine Ent.step (by first | exact Ent.refl _ | exact Ent.skip (Ent.refl _) | exact Ent.skip (Ent.skip (Ent.refl _)) | exact Ent.skip (Ent.skip (Ent.skip (Ent.refl _))) | exact Ent.skip (Ent.skip (Ent.skip (Ent.skip (Ent.refl _)))) | exact Ent.skip (Ent.skip (Ent.skip (Ent.skip (Ent.skip (Ent.refl _))))) | exact Ent.skip (Ent.skip (Ent.skip (Ent.skip (Ent.skip (Ent.skip (Ent.refl _)))))) | exact Ent.skip (Ent.skip (Ent.skip (Ent.skip (Ent.skip (Ent.skip (Ent.skip (Ent.refl _))))))) | exact Ent.skip (Ent.skip (Ent.skip (Ent.skip (Ent.skip (Ent.skip (Ent.skip (Ent.skip (Ent.refl _)))))))) | exact Ent.skip (Ent.skip (Ent.skip (Ent.skip (Ent.skip (Ent.skip (Ent.skip (Ent.skip (Ent.skip (Ent.refl _)))))))))) ?_)) |>.drop
            · go_wp2
              go_meet
              exact ⟨B, n, cp, ll, rfl, hll, by omega, hs⟩
          case rest =>
            clear hs hll hn1 ll B n cp
            obtain ⟨B, n, cp, ll, rfl, hll, hn2, hs⟩ := hcut
            go_upto_region 14 with (fail)
            go_loopw [10, 13] (fun dv iv wr => ∃ (j nl' cd' : Nat) (Bd' : Option Addr) (l' : List Cmp), j ≤ n ∧ nl' ≤ 64 ∧ dv = .slice Bd' nl' cd' ∧ iv = .int .i64 (j : Nat) ∧ Hid (l'.length = nl') ∧ Hid (FrL l') ∧ St w0 [own B n cp 28 3 (cs3 ll), RgB R l', own Bd' nl' cd' 28 3 (cs3 (dsOf l'))] wr) (fun _ iv _ => n - (intOf iv).toNat)
            case atStart => exact ⟨0, nl, cd, Bd, l, Nat.zero_le _, hnl, rfl, rfl, hl, HF, hs⟩
            case round =>
              clear hs
              obtain ⟨j, nl', cd', Bd', l', hj, hnl', rfl, rfl, hl', HF', hs⟩ := hrel
              by_cases hjn : j < n
              · obtain ⟨x, hx⟩ : ∃ x, ll[j]? = some x := ⟨_, List.getElem?_eq_getElem (by rw [hll.out]; exact hjn)⟩
                obtain ⟨gB, rfl⟩ := hs.own_at (by omega)
                have HX := Lib.hid hx
                clear hx
                rcases descE_cases x with hd | hd | hd
                · replace hd := Lib.hid hd
                  by_cases h64 : 64 ≤ nl'
                  · skip
                    have hE : Hid (rgE l' x = 2) := by
                      rw [Hid]; unfold rgE
                      first | (rw [if_pos hd.out, if_pos (by rw [hl'.out]; exact h64)]; done) | (rw [if_neg (by rw [hd.out]; decide)]; exact hd.out)
                    go_wp2_with (first
                      | (refine wpl_load_agg (cs := c3 x) (b := gB) (o := j * 3) rfl agg3D (size3Dn (v := x)) hs ?hh ?_; case hh => exact Rd.row3o HX.out)
                      | (go_at_call 11; refine (rg_add_no hs.rot x hE (by decide)).mono ?_; clear hs; rintro r w ⟨rfl, hs⟩; replace hs := hs.rot)
                      | (go_at_call 22; refine (vdescmay_c x hd).mono ?_; rintro r w ⟨rfl, hg⟩; replace hs := hs.grew hg; clear hg))
                    go_roundw
                    case rel => exact ⟨j + 1, nl', cd', Bd', l', by omega, hnl', by first | rfl | go_num, by first | rfl | go_num, hl', HF', hs⟩
                    case measure => simp [intOf] <;> omega
                  · have hE : Hid (rgE l' x = 0) := by
                      rw [Hid]; unfold rgE
                      rw [if_pos hd.out, if_neg (by rw [hl'.out]; exact h64)]
                    go_wp2_with (first
                      | (refine wpl_load_agg (cs := c3 x) (b := gB) (o := j * 3) rfl agg3D (size3Dn (v := x)) hs ?hh ?_; case hh => exact Rd.row3o HX.out)
                      | (go_at_call 11; refine (rg_add hs.rot x hE hl').mono ?_; clear hs; rintro r w ⟨X, v, F, rfl, hs⟩; replace hs := hs.rot)
                      | (go_at_call 22; refine (vdescmay_c x hd).mono ?_; rintro r w ⟨rfl, hg⟩; replace hs := hs.grew hg; clear hg)
                      | (refine wpl_build1 (v := val3 x) elemDs (by decide) rfl rfl hs ?_; clear hs; intro G w hs)
                      | (refine wpl_append (A := Bd') (n := nl') (cap := cd') (xs := cs3 (dsOf l')) (m := 1) (news := c3 x) elemDs rfl rfl hs (L' := blk G (c3 x).toArray 28 :: own (some ⟨gB, 0, none⟩) n cp 28 3 (cs3 ll) :: [RgB R (l' ++ [(X, newSl x v F)])]) (by (repeat first | exact Ent.refl _ | refine Ent.step (by first | exact Ent.refl _ | exact Ent.skip (Ent.refl _) | exact Ent.skip (Ent.skip (Ent.refl _)) | exact Ent.skip (Ent.skip (Ent.skip (Ent.refl _))) | exact Ent.skip (Ent.skip (Ent.skip (Ent.skip (Ent.refl _)))) | exact Ent.skip (Ent.skip (Ent.skip (Ent.skip (Ent.skip (Ent.refl _))))) | exact Ent.skip (Ent.skip (Ent.skip (Ent.skip (Ent.skip (Ent.skip (Ent.refl _)))))) | exact Ent.skip (Ent.skip (Ent.skip (Ent.skip (Ent.skip (Ent.skip (Ent.skip (Ent.refl _))))))) | exact Ent.skip (Ent.skip (Ent.skip (Ent.skip (Ent.skip (Ent.skip (Ent.skip (Ent.skip (Ent.refl _)))))))) | exact Ent.skip (Ent.skip (Ent.skip (Ent.skip (Ent.skip (Ent.skip (Ent.skip (Ent.skip (Ent.skip (Ent.refl _)))))))))) ?_)) RdS.blk rfl (one3 _) (by unfold maxLen; omega) (by omega) ?_; clear hs; intro B3 cap3 w hs))
                    have hsN : St w0 [own (some ⟨gB, 0, none⟩) n cp 28 3 (cs3 ll), RgB R (l' ++ [(X, newSl x v F)]), own B3 (nl' + 1) cap3 28 3 (cs3 (dsOf (l' ++ [(X, newSl x v F)])))] w := by
                      rw [dsOf_add, cs3_append]
                      exact hs.ent (M := blk G (c3 x).toArray 28 :: _) (by (repeat first | exact Ent.refl _ | refine Ent.step (by first | exact Ent.refl _ | exact Ent.skip (Ent.refl _) | exact Ent.skip (Ent.skip (Ent.refl _)) | exact Ent.skip (Ent.skip (Ent.skip (Ent.refl _))) | exact Ent.skip (Ent.skip (Ent.skip (Ent.skip (Ent.refl _)))) | exact Ent.skip (Ent.skip (Ent.skip (Ent.skip (Ent.skip (Ent.refl _))))) | exact Ent.skip (Ent.skip (Ent.skip (Ent.skip (Ent.skip (Ent.skip (Ent.refl _)))))) | exact Ent.skip (Ent.skip (Ent.skip (Ent.skip (Ent.skip (Ent.skip (Ent.skip (Ent.refl _))))))) | exact Ent.skip (Ent.skip (Ent.skip (Ent.skip (Ent.skip (Ent.skip (Ent.skip (Ent.skip (Ent.refl _)))))))) | exact Ent.skip (Ent.skip (Ent.skip (Ent.skip (Ent.skip (Ent.skip (Ent.skip (Ent.skip (Ent.skip (Ent.refl _)))))))))) ?_)) |>.drop
                    have hlN : Hid ((l' ++ [(X, newSl x v F)]).length = nl' + 1) := by rw [Hid, List.length_append, hl'.out]; rfl
                    have HFN : Hid (FrL (l' ++ [(X, newSl x v F)])) := HF'.out.add hd.out
                    clear hs
                    go_roundw
                    case rel => exact ⟨j + 1, nl' + 1, cap3, B3, _, by omega, by omega, by first | rfl | go_num, by first | rfl | go_num, hlN, HFN, hsN⟩
                    case measure => simp [intOf] <;> omega
                · replace hd := Lib.hid hd
                  have hE : Hid (rgE l' x = 1) := by
                    rw [Hid]; unfold rgE
                    first | (rw [if_pos hd.out, if_pos (by rw [hl'.out]; exact h64)]; done) | (rw [if_neg (by rw [hd.out]; decide)]; exact hd.out)
                  go_wp2_with (first
                    | (refine wpl_load_agg (cs := c3 x) (b := gB) (o := j * 3) rfl agg3D (size3Dn (v := x)) hs ?hh ?_; case hh => exact Rd.row3o HX.out)
                    | (go_at_call 11; refine (rg_add_no hs.rot x hE (by decide)).mono ?_; clear hs; rintro r w ⟨rfl, hs⟩; replace hs := hs.rot)
                    | (go_at_call 22; refine (vdescmay_c x hd).mono ?_; rintro r w ⟨rfl, hg⟩; replace hs := hs.grew hg; clear hg))
                  go_roundw
                  case rel => exact ⟨j + 1, nl', cd', Bd', l', by omega, hnl', by first | rfl | go_num, by first | rfl | go_num, hl', HF', hs⟩
                  case measure => simp [intOf] <;> omega
                · replace hd := Lib.hid hd
                  have hE : Hid (rgE l' x = 9) := by
                    rw [Hid]; unfold rgE
                    first | (rw [if_pos hd.out, if_pos (by rw [hl'.out]; exact h64)]; done) | (rw [if_neg (by rw [hd.out]; decide)]; exact hd.out)
                  go_wp2_with (first
                    | (refine wpl_load_agg (cs := c3 x) (b := gB) (o := j * 3) rfl agg3D (size3Dn (v := x)) hs ?hh ?_; case hh => exact Rd.row3o HX.out)
                    | (go_at_call 11; refine (rg_add_no hs.rot x hE (by decide)).mono ?_; clear hs; rintro r w ⟨rfl, hs⟩; replace hs := hs.rot)
                    | (go_at_call 22; refine (vdescmay_c x hd).mono ?_; rintro r w ⟨rfl, hg⟩; replace hs := hs.grew hg; clear hg))
                  go_roundw
                  case rel => exact ⟨j + 1, nl', cd', Bd', l', by omega, hnl', by first | rfl | go_num, by first | rfl | go_num, hl', HF', hs⟩
                  case measure => simp [intOf] <;> omega
              · obtain rfl : j = n := by omega
                go_wp2
                go_roundw
                case rel => exact ⟨k + 1, nl', cd', Bd', l', by omega, hnl', by first | rfl | go_num, by first | rfl | go_num, hl', HF', hs.drop⟩
                case measure => simp [intOf] <;> omega
      case false =>
        clear hbb
        obtain ⟨ds, hds⟩ : ∃ d, Hid (dsOf l = d) := ⟨_, rfl⟩
        have hdl : Hid (ds.length = nl) := by rw [Hid, ← hds.out, ← hl.out]; unfold dsOf; rw [List.length_map]
        have HP0 : Hid (PuI nl ds 0 (List.replicate 64 ⟨none, 0, []⟩) l) := by
          have := PuI.start HF.out (by rw [hl.out]; exact hnl)
          rwa [hl.out, hds.out] at this
        rw [hds.out] at hs
        clear HF
        go_upto_region 28 with (first
          | (go_at_call 23; refine (rg_descs hs).mono ?_; rw [hl.out, hds.out]; clear hs; rintro r w ⟨B, cB, rfl, hs⟩)
          | (go_at_call 13; refine (rg_len hs.rot hl).mono ?_; rintro r w ⟨rfl, rfl⟩))
        go_loopw [18] (fun iv wr => ∃ j : Nat, j ≤ nl ∧ iv = .int .i64 (j : Nat) ∧ St w0 [own B nl cB 28 3 (cs3 ds), RgB R l, own Bd nl cd 28 3 (cs3 ds)] wr) (fun iv _ => nl - (intOf iv).toNat)
        case atStart => exact ⟨0, Nat.zero_le _, rfl, hs⟩
        case round =>
          clear hs
          obtain ⟨j, hj, rfl, hs⟩ := hrel
          by_cases hjn : j < nl
          · skip
            obtain ⟨x, hx⟩ : ∃ x, ds[j]? = some x := ⟨_, List.getElem?_eq_getElem (by rw [hdl.out]; exact hjn)⟩
            obtain ⟨b1, o1, rfl, hld⟩ := RdS.row3 (RdS.own hs) hx
            obtain ⟨b2, o2, rfl, hld2⟩ := RdS.row3 (RdS.own hs.up2) hx
            have p0 : wr.cell? ⟨b1, o1 + j * 3, none⟩ = some (.int .i64 x.k) := hld 0 _ rfl _ hs
            have p1 : wr.cell? ⟨b1, o1 + j * 3 + 1, none⟩ = some (.int .i64 x.a) := hld 1 _ rfl _ hs
            have p2 : wr.cell? ⟨b1, o1 + j * 3 + 2, none⟩ = some (.int .i64 x.b) := hld 2 _ rfl _ hs
            have q0 : wr.cell? ⟨b2, o2 + j * 3, none⟩ = some (.int .i64 x.k) := hld2 0 _ rfl _ hs.up2
            have q1 : wr.cell? ⟨b2, o2 + j * 3 + 1, none⟩ = some (.int .i64 x.a) := hld2 1 _ rfl _ hs.up2
            have q2 : wr.cell? ⟨b2, o2 + j * 3 + 2, none⟩ = some (.int .i64 x.b) := hld2 2 _ rfl _ hs.up2
            clear hx hld hld2
            go_upto_region 30 with (fail)
            refine wp_region_grow (by kernel_rfl) (by kernel_rfl) fun hne => ?_
            have p0' := fun p : GW wr => p.grew.cell p0
            have p1' := fun p : GW wr => p.grew.cell p1
            have p2' := fun p : GW wr => p.grew.cell p2
            have q0' := fun p : GW wr => p.grew.cell q0
            have q1' := fun p : GW wr => p.grew.cell q1
            have q2' := fun p : GW wr => p.grew.cell q2
            repeat (go_big_quiet_step (fail))
            refine wpQuiet_nil ?_
            intro u hu
            replace hs := hs.grew hu
            clear p0 p1 p2 q0 q1 q2 p0' p1' p2' q0' q1' q2' hne hu
            go_wp2
            go_roundw
            case rel => exact ⟨j + 1, by omega, by first | rfl | go_num, hs⟩
            case measure => simp [intOf] <;> omega
          · obtain rfl : j = nl := by omega
            replace hs := hs.drop.rot
            go_upto_region 32 with (fail)
            exact rgp_puts hnp hrp HPQ HWA hnl HP0 hs (by assumption)
end Go.Proofs.Ytmdjpeblbnbjmaa
