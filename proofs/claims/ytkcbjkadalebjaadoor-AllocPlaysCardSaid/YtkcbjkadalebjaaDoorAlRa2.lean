/-
  AllocRaised, the walk.
-/
import Derived.Test.YtkcbjkadalebjaaDoorAlRa
set_option maxRecDepth 100000
namespace Go.Proofs.YtkcbjkadalebjaaDoor
open Go Go.RowKit
attribute [local irreducible] wpList Calls Code.wp
attribute [local irreducible] idxS addS okN memS remS errN insS delS nextS stA gnA stV atA hsV mergeA giveV delA newA hU allH
set_option maxHeartbeats 1000000 in
theorem araised_c {w0 : World} (hT : Tab w0) {va : Value} {xs : List Bool} (hva : RowsArg cb1 (fun _ => True) w0 va xs) : Calls Tryd.prog 6 #[va] w0 (LawPost w0) := by
  obtain ⟨A, ca, rfl, hnc, hcm, hra, _⟩ := hva
  unfold maxLen at hcm
  have hs := St.start w0
  go_enter Tryd.func6, Tryd.ntmps6
  go_wp2_with (first
    | (go_at_call 8; refine (anew_c hs (n := 100) (top := 3) (by decide) (by decide) (by decide) (by decide)).mono ?_; clear hs; rintro e w' ⟨D, rfl, hs⟩))
  replace hs := (hs.own_nil 30 2).rot
  rw [show ([] : List Value) = hsV (hU []) by unfold hsV hU; rfl] at hs
  go_loopw [5, 6] (fun ov cv wr => ∃ (i n : Nat) (B : Option Addr) (cap : Nat) (U : List Nat) (cs : List ACell), i ≤ xs.length ∧ i ≤ 60 ∧ n ≤ i ∧ ov = .slice B n cap ∧ cv = .int .i64 (i : Nat) ∧ RaI i U cs ∧ U.length = n ∧ St w0 [AlB D 3 cs, own B n cap 30 2 (hsV (hU U))] wr) (fun _ cv _ => xs.length - (intOf cv).toNat)
  case atStart => exact ⟨0, 0, none, 0, [], newA 100, Nat.zero_le _, Nat.zero_le _, Nat.le_refl _, rfl, rfl, raI_start, rfl, hs⟩
  case round =>
    clear hs
    obtain ⟨i, n, B, cap, U, cs, hi, hi2, hni, rfl, rfl, HR, hN, hs⟩ := hrel
    by_cases hlt : i < xs.length ∧ i < 60
    · obtain ⟨hix, hi60⟩ := hlt
      obtain ⟨b, hb⟩ : ∃ b, xs[i]? = some b := ⟨_, List.getElem?_eq_getElem hix⟩
      obtain ⟨p, o, rfl, hc⟩ := hra.get (rows_get (C := 1) (encX := cb1) (fun _ => rfl) hb 0 (.bool b) rfl)
      have hc := (hc.tail.tail : Rd w0 [_, _] _ _) _ hs
      simp only [Nat.mul_one, Nat.add_zero] at hc
      clear hb
      cases b with
      | false =>
        have HG := Lib.hid (HR.give (s := 1) (by omega))
        obtain ⟨HR2, hst⟩ := HR.create (by omega)
        have HS := Lib.hid hst
        clear hst HR
        go_wp2_with (first
          | (go_at_call 9; refine (create_c hT hs HG).mono ?_; clear hs hc; rintro e w' ⟨rfl, hs⟩)
          | (refine wpl_alloc zeroH hs ?_; clear hs; intro g7 w3 hs; replace hs : St w0 (blk g7 (h2 (0, 0)).toArray 30 :: _) w3 := hs)
          | (refine wpl_store_agg (ad := ⟨g7, 0, none⟩) (v := hv ((i : Int), 1)) rfl rfl (sizeH _) hs WrA.slotH ?_; clear hs; intro w4 hs; obtain ⟨f0, f1⟩ := hRd hs)
          | (go_at_call 11; refine (state_c hs.rot HS).mono ?_; clear f0 f1; rintro e w' ⟨rfl, hg⟩; replace hs := hs.grew hg; clear hg))
        go_roundw
        case rel => first | exact ⟨i + 1, n, B, cap, U, _, by omega, by omega, by omega, rfl, by go_num, HR2, hN, hs.drop⟩ | ((repeat apply Exists.intro); refine ⟨?_, rfl⟩; exact ⟨i + 1, n, B, cap, U, _, by omega, by omega, by omega, rfl, by go_num, HR2, hN, hs.drop⟩)
        case measure => simp [intOf] <;> omega
      | true =>
        have HG := Lib.hid (HR.give (s := 2) (by omega))
        obtain ⟨HR2, hst, hdl⟩ := HR.raise (by omega)
        have HS := Lib.hid hst
        have HDl := Lib.hid hdl
        have HX : Hid (hsV (hU U) ++ h2 ((i : Int), 1) = hsV (hU (U ++ [i]))) := by rw [Hid, hsV_append, hU_snoc]
        clear hst HR hdl
        go_wp2_with (first
          | (go_at_call 15; refine (raise_c hT hs HG).mono ?_; clear hs hc; rintro e w' ⟨rfl, hs⟩)
          | (refine wpl_alloc zeroH hs ?_; clear hs; intro g7 w3 hs; replace hs : St w0 (blk g7 (h2 (0, 0)).toArray 30 :: _) w3 := hs)
          | (refine wpl_store_agg (ad := ⟨g7, 0, none⟩) (v := hv ((i : Int), 1)) rfl rfl (sizeH _) hs WrA.slotH ?_; clear hs; intro w4 hs; obtain ⟨f0, f1⟩ := hRd hs)
          | (go_at_call 11; refine (state_c hs.rot HS).mono ?_; clear f0 f1; rintro e w' ⟨rfl, hg⟩; replace hs := hs.grew hg; clear hg; obtain ⟨f0, f1⟩ := hRd hs)
          | (go_at_call 10; refine (delete_c hs.rot HDl).mono ?_; clear hs f0 f1; rintro e w' ⟨rfl, hs⟩; replace hs := hs.rot)
          | (refine wpl_load_agg (cs := h2 ((i : Int), 1)) (b := g7) (o := 0) rfl aggH (sizeH _) hs ?hh ?_; case hh => exact fun j x hx => Rd.blk (by simpa using hx))
          | (refine wpl_build1 (v := hv ((i : Int), 1)) elemH (by decide) rfl rfl hs ?_; clear hs; intro gb w2 hs; replace hs : St w0 (blk gb (h2 ((i : Int), 1)).toArray 30 :: _) w2 := hs)
          | (refine wpl_append (B := some ⟨gb, 0, none⟩) (m := 1) (news := h2 ((i : Int), 1)) elemH rfl rfl hs (Ent.skip (Ent.skip (Ent.skip (Ent.refl _)))) RdS.blk rfl (h2_one _) (by unfold maxLen; omega) (by omega) ?_; clear hs; intro B' cap' w3 hs; rw [HX.out] at hs; replace hs := hs.rot.drop.rot.drop.rot))
        go_roundw
        case rel => first | exact ⟨i + 1, n + 1, B', cap', U ++ [i], _, by omega, by omega, by omega, rfl, by go_num, HR2, by simp [hN], hs⟩ | ((repeat apply Exists.intro); refine ⟨?_, rfl⟩; exact ⟨i + 1, n + 1, B', cap', U ++ [i], _, by omega, by omega, by omega, rfl, by go_num, HR2, by simp [hN], hs⟩)
        case measure => simp [intOf] <;> omega
    · by_cases h3 : i < xs.length
      · have h4 : ¬ i < 60 := fun h => hlt ⟨h3, h⟩
        clear hlt
        have HN2 : Hid ((idxS 2 cs).length = n) := by rw [Hid, HR.up]; exact hN
        have HAll := Lib.hid HR.all
        have HI := HR.merged
        have h20 := idx_merge2 cs
        have HAg := Lib.hid (HI.again h20)
        have HN0 : Hid ((idxS 2 (mergeA cs)).length = 0) := by rw [Hid, h20]; rfl
        have HhU : Hid ((hU U).length = n) := by rw [Hid, hU_len]; exact hN
        have HU := Lib.hid hN
        clear HR h20 hN
        go_wp2_with (first
          | (go_at_call 17; refine (merge_c hT hs HN2).mono ?_; clear hs; rintro e w' ⟨Bm, capm, rfl, hs⟩; rw [HAll.out] at hs)
          | (go_at_call 18; refine (sameH_c HhU.out (by omega) hs (RdS.own hs) (RdS.own hs.drop.drop).tail.tail).mono ?_; rintro e w5 ⟨rfl, hg⟩; replace hs := (hs.grew hg).drop; clear hg)
          | (go_at_call 17; refine (merge_c hT hs HN0).mono ?_; clear hs; rintro e w' ⟨Bm2, capm2, rfl, hs⟩; rw [HAg.out] at hs; replace hs := hs.drop))
        try clear h3
        try clear h4
        go_loopw [12] (fun cv wr => ∃ (i : Nat) (cs : List ACell), i ≤ n ∧ cv = .int .i64 (i : Nat) ∧ RdI U i cs ∧ St w0 [AlB D 3 cs, own B n cap 30 2 (hsV (hU U))] wr) (fun cv _ => n - (intOf cv).toNat)
        case atStart => exact ⟨0, mergeA cs, Nat.zero_le _, rfl, HI, hs⟩
        case round =>
          clear hs HI HN0 HN2 HAll HAg
          obtain ⟨i, cs, hi, rfl, HI, hs⟩ := hrel
          by_cases hlt : i < n
          · obtain ⟨gB, rfl⟩ := hs.rot.own_at (by omega)
            obtain ⟨a, ha⟩ : ∃ a, U[i]? = some a := ⟨_, List.getElem?_eq_getElem (by rw [HU.out]; exact hlt)⟩
            obtain ⟨h1, h2', HI2⟩ := HI.del ha
            have HS := Lib.hid h1
            have HDl := Lib.hid h2'
            have hld : ∀ X, ∀ j x, (h2 ((a : Int), 1))[j]? = some x → Rd w0 [X, own (some ⟨gB, 0, none⟩) n cap 30 2 (hsV (hU U))] ⟨gB, i * 2 + j, none⟩ x := fun X j x hx => (hsV_at (hU_get ha) j x hx).tail
            clear h1 h2' HI ha
            have f0 := hld _ 0 _ rfl _ hs
            have f1 := hld _ 1 _ rfl _ hs
            simp only [Nat.add_zero] at f0
            go_wp2_with (first
              | (refine wpl_load_agg (cs := h2 ((a : Int), 1)) (b := gB) (o := i * 2) rfl aggH (sizeH _) hs ?hh ?_; case hh => exact hld _)
              | (go_at_call 11; refine (state_c hs HS).mono ?_; clear f0 f1; rintro e w' ⟨rfl, hg⟩; replace hs := hs.grew hg; clear hg; have f0 := hld _ 0 _ rfl _ hs; have f1 := hld _ 1 _ rfl _ hs; simp only [Nat.add_zero] at f0)
              | (go_at_call 10; refine (delete_c hs HDl).mono ?_; clear hs f0 f1; rintro e w' ⟨rfl, hs⟩))
            go_roundw
            case rel => first | exact ⟨i + 1, _, by omega, by go_num, HI2, hs⟩ | ((repeat apply Exists.intro); refine ⟨?_, rfl⟩; exact ⟨i + 1, _, by omega, by go_num, HI2, hs⟩)
            case measure => simp [intOf] <;> omega
          · clear HI
            go_wp2_with (first
              | (go_at_call 12; refine (awake5 (hT.grew hs.below)).mono ?_; rintro e w' ⟨rfl, hg⟩; replace hs := hs.grew hg; clear hg))
            go_ret
            exact ⟨rfl, hs.drop.drop⟩
      · clear hlt
        have HN2 : Hid ((idxS 2 cs).length = n) := by rw [Hid, HR.up]; exact hN
        have HAll := Lib.hid HR.all
        have HI := HR.merged
        have h20 := idx_merge2 cs
        have HAg := Lib.hid (HI.again h20)
        have HN0 : Hid ((idxS 2 (mergeA cs)).length = 0) := by rw [Hid, h20]; rfl
        have HhU : Hid ((hU U).length = n) := by rw [Hid, hU_len]; exact hN
        have HU := Lib.hid hN
        clear HR h20 hN
        go_wp2_with (first
          | (go_at_call 17; refine (merge_c hT hs HN2).mono ?_; clear hs; rintro e w' ⟨Bm, capm, rfl, hs⟩; rw [HAll.out] at hs)
          | (go_at_call 18; refine (sameH_c HhU.out (by omega) hs (RdS.own hs) (RdS.own hs.drop.drop).tail.tail).mono ?_; rintro e w5 ⟨rfl, hg⟩; replace hs := (hs.grew hg).drop; clear hg)
          | (go_at_call 17; refine (merge_c hT hs HN0).mono ?_; clear hs; rintro e w' ⟨Bm2, capm2, rfl, hs⟩; rw [HAg.out] at hs; replace hs := hs.drop))
        try clear h3
        try clear h4
        go_loopw [12] (fun cv wr => ∃ (i : Nat) (cs : List ACell), i ≤ n ∧ cv = .int .i64 (i : Nat) ∧ RdI U i cs ∧ St w0 [AlB D 3 cs, own B n cap 30 2 (hsV (hU U))] wr) (fun cv _ => n - (intOf cv).toNat)
        case atStart => exact ⟨0, mergeA cs, Nat.zero_le _, rfl, HI, hs⟩
        case round =>
          clear hs HI HN0 HN2 HAll HAg
          obtain ⟨i, cs, hi, rfl, HI, hs⟩ := hrel
          by_cases hlt : i < n
          · obtain ⟨gB, rfl⟩ := hs.rot.own_at (by omega)
            obtain ⟨a, ha⟩ : ∃ a, U[i]? = some a := ⟨_, List.getElem?_eq_getElem (by rw [HU.out]; exact hlt)⟩
            obtain ⟨h1, h2', HI2⟩ := HI.del ha
            have HS := Lib.hid h1
            have HDl := Lib.hid h2'
            have hld : ∀ X, ∀ j x, (h2 ((a : Int), 1))[j]? = some x → Rd w0 [X, own (some ⟨gB, 0, none⟩) n cap 30 2 (hsV (hU U))] ⟨gB, i * 2 + j, none⟩ x := fun X j x hx => (hsV_at (hU_get ha) j x hx).tail
            clear h1 h2' HI ha
            have f0 := hld _ 0 _ rfl _ hs
            have f1 := hld _ 1 _ rfl _ hs
            simp only [Nat.add_zero] at f0
            go_wp2_with (first
              | (refine wpl_load_agg (cs := h2 ((a : Int), 1)) (b := gB) (o := i * 2) rfl aggH (sizeH _) hs ?hh ?_; case hh => exact hld _)
              | (go_at_call 11; refine (state_c hs HS).mono ?_; clear f0 f1; rintro e w' ⟨rfl, hg⟩; replace hs := hs.grew hg; clear hg; have f0 := hld _ 0 _ rfl _ hs; have f1 := hld _ 1 _ rfl _ hs; simp only [Nat.add_zero] at f0)
              | (go_at_call 10; refine (delete_c hs HDl).mono ?_; clear hs f0 f1; rintro e w' ⟨rfl, hs⟩))
            go_roundw
            case rel => first | exact ⟨i + 1, _, by omega, by go_num, HI2, hs⟩ | ((repeat apply Exists.intro); refine ⟨?_, rfl⟩; exact ⟨i + 1, _, by omega, by go_num, HI2, hs⟩)
            case measure => simp [intOf] <;> omega
          · clear HI
            go_wp2_with (first
              | (go_at_call 12; refine (awake5 (hT.grew hs.below)).mono ?_; rintro e w' ⟨rfl, hg⟩; replace hs := hs.grew hg; clear hg))
            go_ret
            exact ⟨rfl, hs.drop.drop⟩
end Go.Proofs.YtkcbjkadalebjaaDoor
