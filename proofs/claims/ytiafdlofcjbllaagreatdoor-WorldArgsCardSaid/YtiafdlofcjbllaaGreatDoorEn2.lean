/-
  Things with parts (ent.Ents), 3: Get, Remove. (Printed by gen_en.py.)
-/
import Derived.Test.YtiafdlofcjbllaaGreatDoorEn
import Derived.Deep.DeepCutAuto
import Derived.Deep.CutRange
import Derived.Deep.CutBlock
set_option maxRecDepth 100000
namespace Go.Proofs.YtiafdlofcjbllaaGreatDoor
open Go Go.RowKit
section
variable {s : EnS} {h : Hdl} {c : Int} {u : V3} {e : Int}
theorem EnS.get_no (h0 : s.live h ≠ 0) : s.get h c = (V3.z, s.live h) := by unfold EnS.get; rw [if_neg h0]
theorem EnS.get_comp (h0 : s.live h = 0) (hc : s.slot c = none) : s.get h c = (V3.z, 11) := by unfold EnS.get; rw [if_pos h0, hc]
theorem EnS.get_in (h0 : s.live h = 0) {x : Cmp} (hc : s.slot c = some x) : s.get h c = if x.2.has h.1 then (x.2.get h.1, 0) else (V3.z, 10) := by unfold EnS.get; rw [if_pos h0, hc]
end
attribute [local irreducible] wpList Calls Code.wp okI okN pS tS memS getG pG insS delS getV pV tV okVal newSl SlS.put SlS.err SlS.putU SlS.putB descE SlS.take SlS.set SlS.errSet SlS.get SlS.has stV EnS.live EnS.get EnS.slot
set_option maxHeartbeats 4000000 in
theorem en_get {w0 w : World} {L : List As} {E A R : Nat} {s : EnS} (hs : St w0 (EnB E A R s :: L) w) {h : Hdl} {c : Int} {u : V3} {e : Int} (HV : Hid (s.get h c = (u, e))) :
    Calls Tryz.prog 29 #[.pointer (some ⟨E, 0, none⟩), hv h, .int .i64 c] w fun r w' => r = .returned (.tuple #[val3 u, .int .i64 e]) ∧ St w0 (EnB E A R s :: L) w' := by
  obtain ⟨f, HL⟩ : ∃ z, Hid (s.live h = z) := ⟨_, rfl⟩
  have hwf := fun h0 : s.live h = 0 => EnS.live_wf h0 (en_few hs)
  obtain ⟨i, g⟩ := h
  by_cases h0 : f = 0
  · subst h0
    have HW : (Lit.int .i64 i).wf = true := hwf HL.out
    clear hwf
    cases hc : s.slot c with
    | none =>
      have hno := EnS.slot_none hc
      have h1 := HV.out
      rw [EnS.get_comp HL.out hc] at h1
      cases h1
      clear HV hc
      go_enter Tryz.func29, Tryz.ntmps29
      go_upto_region 4 with (first
        | (refine wpl_box_v (v := hv (i, g)) rfl hs ?_; clear hs; intro g4 w hs; replace hs : St w0 (blk g4 (h2 (i, g)).toArray 40 :: _) w := hs)
        | (refine wpl_load_agg (cs := h2 (i, g)) (b := g4) (o := 0) rfl aggH (sizeHd _) hs ?hh ?_; case hh => exact fun j x hx => (Rd.blk (by simpa using hx)).tail)
        | (go_at_call 80; refine (en_live (h := (i, g)) hs.drop.drop HL).mono ?_; rintro r w' ⟨rfl, hg⟩; replace hs := hs.grew hg; clear hg)
        | (refine wpl_alloc zero3 hs ?_; clear hs; intro g6 w hs))
      have k1 := Rd.en1 _ hs.drop.drop
      (go_wp2_with (first
        | (go_at_call 86; refine (rg_slot_no hs.drop.drop.enopen.rot hno).mono ?_; clear k1 hno; rintro r w' ⟨rfl, rfl⟩)
        | (refine wpl_buildS build3 rfl ?_)
        | (refine wpl_store_agg (v := val3 V3.z) rfl rfl (size3 _) hs WrA.slot3 ?_; clear hs; intro w hs)))
      refine bodyPost_at (results_cell_tmp Tryz.results29 rfl (hs.slot_run agg3 (size3 _))) rfl ?_
      exact ⟨rfl, hs.drop.drop⟩
    | some x =>
      obtain ⟨j, rfl, hj⟩ := EnS.slot_some hc
      have h1 := HV.out
      rw [EnS.get_in HL.out hc] at h1
      obtain ⟨X, t⟩ := x
      have HX := Lib.hid hj
      simp only at h1
      obtain ⟨pv, HPV⟩ : ∃ z, Hid (t.pv = z) := ⟨_, rfl⟩
      obtain ⟨b, HB⟩ : ∃ z, Hid (t.has i = z) := ⟨_, rfl⟩
      obtain ⟨v, HU⟩ : ∃ z, Hid (t.get i = z) := ⟨_, rfl⟩
      rw [HB.out, HU.out] at h1
      have H1 := Lib.hid h1
      clear h1 HV hc hj
      go_enter Tryz.func29, Tryz.ntmps29
      go_upto_region 4 with (first
        | (refine wpl_box_v (v := hv (i, g)) rfl hs ?_; clear hs; intro g4 w hs; replace hs : St w0 (blk g4 (h2 (i, g)).toArray 40 :: _) w := hs)
        | (refine wpl_load_agg (cs := h2 (i, g)) (b := g4) (o := 0) rfl aggH (sizeHd _) hs ?hh ?_; case hh => exact fun j x hx => (Rd.blk (by simpa using hx)).tail)
        | (go_at_call 80; refine (en_live (h := (i, g)) hs.drop.drop HL).mono ?_; rintro r w' ⟨rfl, hg⟩; replace hs := hs.grew hg; clear hg)
        | (refine wpl_alloc zero3 hs ?_; clear hs; intro g6 w hs))
      have k1 := Rd.en1 _ hs.drop.drop
      go_upto_region 7 with (first
        | (go_at_call 86; refine (rg_slot hs.drop.drop.enopen.rot HX.out (X := X) (Lib.hid rfl)).mono ?_; clear k1; rintro r w' ⟨rfl, rfl⟩))
      replace hs : St w0 (RgB R s.l :: blk g4 (h2 (i, g)).toArray 40 :: blk g6 (c3 V3.z).toArray 38 :: AlB A s.top s.cs :: blk E (enC A R) 53 :: L) _ := hs.drop.drop.enopen |> fun _ => (hs.ent (M := EnB E A R s :: blk g6 (c3 V3.z).toArray 38 :: blk g4 (h2 (i, g)).toArray 40 :: L) (by (repeat first | exact Ent.refl _ | refine Ent.step (by repeat first | exact Ent.refl _ | apply Ent.skip) ?_))).enopen.ent (by (repeat first | exact Ent.refl _ | refine Ent.step (by repeat first | exact Ent.refl _ | apply Ent.skip) ?_))
      go_cut [11, 12] from 34 to 43 (fun pv hv wx => ∃ g11, pv = .pointer (some ⟨g11, 0, none⟩) ∧ hv = .bool b ∧ St w0 (blk g6 (c3 V3.z).toArray 38 :: blk g11 (c3 v).toArray 38 :: blk g4 (h2 (i, g)).toArray 40 :: EnB E A R s :: L) wx)
      case first =>
        refine wp_all_plain (n := 7) [false, false, false, false, false, false, true, true, true, true, true, true, true] hs.only2 (by kernel_rfl) (by kernel_rfl) (by kernel_rfl) fun hne => ?_
        have c0 := (Rd.rgp (w0 := w0) (R := R) (L := [blk g4 (h2 (i, g)).toArray 40]) HX HPV).alln
        have c1 := ((Rd.blk (w0 := w0) (g := g4) (k := 0) (cs := (h2 (i, g)).toArray) (v := .int .i64 i) (t := 40) (L := []) (by rfl)).tail (p := RgB R s.l)).alln
        simp only [pickOps]
        repeat (go_big_quiet_step (fail))
        refine wpQuiet_nil ?_
        clear hne c0 c1
        replace hs := hs.drew
        refine wpAllP_next [6, 10] (by kernel_rfl) (fun c hc => ?_)
        simp only [List.mem_cons, List.not_mem_nil, or_false] at hc
        rcases hc with rfl | rfl
        · skip
          refine ⟨_, rfl, ?_⟩
          refine wpl_inv1 (v := pv) (v1 := .int .i64 i) rfl rfl (rg_get hs HX HPV HW HU HB) ?_
          rintro r w ⟨rfl, hg⟩
          replace hs := hs.grew hg
          clear hg
          refine wpList_nil ⟨rfl, hs.only2, ?_⟩
          refine wpAllP_next [7, 10] (by kernel_rfl) (fun c hc => ?_)
          simp only [List.mem_cons, List.not_mem_nil, or_false] at hc
          rcases hc with rfl | rfl
          · skip
            refine ⟨_, rfl, ?_⟩
            go_wp2
            refine ⟨hs.only2, ?_⟩
            refine wpAllP_next [8, 9, 10] (by kernel_rfl) (fun c hc => ?_)
            simp only [List.mem_cons, List.not_mem_nil, or_false] at hc
            rcases hc with rfl | rfl | rfl
            · skip
              refine ⟨_, rfl, ?_⟩
              go_wp2
              refine ⟨hs.only2, ?_⟩
              refine wpAllP_next [9, 10] (by kernel_rfl) (fun c hc => ?_)
              simp only [List.mem_cons, List.not_mem_nil, or_false] at hc
              rcases hc with rfl | rfl
              · skip
                refine ⟨_, rfl, ?_⟩
                go_wp2
                refine ⟨hs.only2, ?_⟩
                refine wpAllP_next [10] (by kernel_rfl) (fun c hc => ?_)
                simp only [List.mem_singleton] at hc
                subst hc
                refine ⟨_, rfl, ?_⟩
                refine wpl_alloc zero3 hs ?_
                clear hs
                intro g11 w hs
                replace hs : St w0 (blk g11 (c3 V3.z).toArray 38 :: _) w := hs
                replace hs : St w0 (RgB R s.l :: blk g4 (h2 (i, g)).toArray 40 :: blk g11 (c3 V3.z).toArray 38 :: blk g6 (c3 V3.z).toArray 38 :: AlB A s.top s.cs :: blk E (enC A R) 53 :: L) w := hs.ent (by (repeat first | exact Ent.refl _ | refine Ent.step (by repeat first | exact Ent.refl _ | apply Ent.skip) ?_))
                refine wpList_nil ⟨rfl, hs.only2, ?_⟩
                refine wpAllP_next [11] (by kernel_rfl) (fun c hc => ?_)
                simp only [List.mem_singleton] at hc
                subst hc
                refine ⟨_, rfl, ?_⟩
                refine wpl_store_agg (v := val3 v) rfl rfl (size3 _) (hs.ent (M := blk g11 (c3 V3.z).toArray 38 :: RgB R s.l :: blk g4 (h2 (i, g)).toArray 40 :: blk g6 (c3 V3.z).toArray 38 :: AlB A s.top s.cs :: blk E (enC A R) 53 :: L) (by (repeat first | exact Ent.refl _ | refine Ent.step (by repeat first | exact Ent.refl _ | apply Ent.skip) ?_))) WrA.slot3 ?_
                clear hs
                intro w hs
                replace hs : St w0 (RgB R s.l :: blk g4 (h2 (i, g)).toArray 40 :: blk g11 (c3 v).toArray 38 :: blk g6 (c3 V3.z).toArray 38 :: AlB A s.top s.cs :: blk E (enC A R) 53 :: L) w := hs.ent (by (repeat first | exact Ent.refl _ | refine Ent.step (by repeat first | exact Ent.refl _ | apply Ent.skip) ?_))
                refine wpList_nil ⟨rfl, hs.only2, ?_⟩
                refine wpAll_last [12] (by kernel_rfl) (fun c hc => ?_)
                simp only [List.mem_singleton] at hc
                subst hc
                refine ⟨_, rfl, ?_⟩
                go_wp2
                go_meet
                exact ⟨g11, rfl, rfl, (St.enshut (hs.ent (M := AlB A s.top s.cs :: RgB R s.l :: blk E (enC A R) 53 :: blk g6 (c3 V3.z).toArray 38 :: blk g11 (c3 v).toArray 38 :: blk g4 (h2 (i, g)).toArray 40 :: L) (by (repeat first | exact Ent.refl _ | refine Ent.step (by repeat first | exact Ent.refl _ | apply Ent.skip) ?_)))).ent (by (repeat first | exact Ent.refl _ | refine Ent.step (by repeat first | exact Ent.refl _ | apply Ent.skip) ?_))⟩
              · skip
                refine ⟨_, rfl, ?_⟩
                refine wpl_alloc zero3 hs ?_
                clear hs
                intro g11 w hs
                replace hs : St w0 (blk g11 (c3 V3.z).toArray 38 :: _) w := hs
                replace hs : St w0 (RgB R s.l :: blk g4 (h2 (i, g)).toArray 40 :: blk g11 (c3 V3.z).toArray 38 :: blk g6 (c3 V3.z).toArray 38 :: AlB A s.top s.cs :: blk E (enC A R) 53 :: L) w := hs.ent (by (repeat first | exact Ent.refl _ | refine Ent.step (by repeat first | exact Ent.refl _ | apply Ent.skip) ?_))
                refine wpList_nil ⟨rfl, hs.only2, ?_⟩
                refine wpAllP_next [9, 11] (by kernel_rfl) (fun c hc => ?_)
                simp only [List.mem_cons, List.not_mem_nil, or_false] at hc
                rcases hc with rfl | rfl
                · skip
                  refine ⟨_, rfl, ?_⟩
                  go_wp2
                  refine ⟨hs.only2, ?_⟩
                  refine wpAllP_next [11] (by kernel_rfl) (fun c hc => ?_)
                  simp only [List.mem_singleton] at hc
                  subst hc
                  refine ⟨_, rfl, ?_⟩
                  refine wpl_store_agg (v := val3 v) rfl rfl (size3 _) (hs.ent (M := blk g11 (c3 V3.z).toArray 38 :: RgB R s.l :: blk g4 (h2 (i, g)).toArray 40 :: blk g6 (c3 V3.z).toArray 38 :: AlB A s.top s.cs :: blk E (enC A R) 53 :: L) (by (repeat first | exact Ent.refl _ | refine Ent.step (by repeat first | exact Ent.refl _ | apply Ent.skip) ?_))) WrA.slot3 ?_
                  clear hs
                  intro w hs
                  replace hs : St w0 (RgB R s.l :: blk g4 (h2 (i, g)).toArray 40 :: blk g11 (c3 v).toArray 38 :: blk g6 (c3 V3.z).toArray 38 :: AlB A s.top s.cs :: blk E (enC A R) 53 :: L) w := hs.ent (by (repeat first | exact Ent.refl _ | refine Ent.step (by repeat first | exact Ent.refl _ | apply Ent.skip) ?_))
                  refine wpList_nil ⟨rfl, hs.only2, ?_⟩
                  refine wpAll_last [12] (by kernel_rfl) (fun c hc => ?_)
                  simp only [List.mem_singleton] at hc
                  subst hc
                  refine ⟨_, rfl, ?_⟩
                  go_wp2
                  go_meet
                  exact ⟨g11, rfl, rfl, (St.enshut (hs.ent (M := AlB A s.top s.cs :: RgB R s.l :: blk E (enC A R) 53 :: blk g6 (c3 V3.z).toArray 38 :: blk g11 (c3 v).toArray 38 :: blk g4 (h2 (i, g)).toArray 40 :: L) (by (repeat first | exact Ent.refl _ | refine Ent.step (by repeat first | exact Ent.refl _ | apply Ent.skip) ?_)))).ent (by (repeat first | exact Ent.refl _ | refine Ent.step (by repeat first | exact Ent.refl _ | apply Ent.skip) ?_))⟩
                · skip
                  refine ⟨_, rfl, ?_⟩
                  refine wpl_store_agg (v := val3 v) rfl rfl (size3 _) (hs.ent (M := blk g11 (c3 V3.z).toArray 38 :: RgB R s.l :: blk g4 (h2 (i, g)).toArray 40 :: blk g6 (c3 V3.z).toArray 38 :: AlB A s.top s.cs :: blk E (enC A R) 53 :: L) (by (repeat first | exact Ent.refl _ | refine Ent.step (by repeat first | exact Ent.refl _ | apply Ent.skip) ?_))) WrA.slot3 ?_
                  clear hs
                  intro w hs
                  replace hs : St w0 (RgB R s.l :: blk g4 (h2 (i, g)).toArray 40 :: blk g11 (c3 v).toArray 38 :: blk g6 (c3 V3.z).toArray 38 :: AlB A s.top s.cs :: blk E (enC A R) 53 :: L) w := hs.ent (by (repeat first | exact Ent.refl _ | refine Ent.step (by repeat first | exact Ent.refl _ | apply Ent.skip) ?_))
                  refine wpList_nil ⟨rfl, hs.only2, ?_⟩
                  refine wpAllP_next [9] (by kernel_rfl) (fun c hc => ?_)
                  simp only [List.mem_singleton] at hc
                  subst hc
                  refine ⟨_, rfl, ?_⟩
                  go_wp2
                  refine ⟨hs.only2, ?_⟩
                  refine wpAll_last [12] (by kernel_rfl) (fun c hc => ?_)
                  simp only [List.mem_singleton] at hc
                  subst hc
                  refine ⟨_, rfl, ?_⟩
                  go_wp2
                  go_meet
                  exact ⟨g11, rfl, rfl, (St.enshut (hs.ent (M := AlB A s.top s.cs :: RgB R s.l :: blk E (enC A R) 53 :: blk g6 (c3 V3.z).toArray 38 :: blk g11 (c3 v).toArray 38 :: blk g4 (h2 (i, g)).toArray 40 :: L) (by (repeat first | exact Ent.refl _ | refine Ent.step (by repeat first | exact Ent.refl _ | apply Ent.skip) ?_)))).ent (by (repeat first | exact Ent.refl _ | refine Ent.step (by repeat first | exact Ent.refl _ | apply Ent.skip) ?_))⟩
            · skip
              refine ⟨_, rfl, ?_⟩
              go_wp2
              refine ⟨hs.only2, ?_⟩
              refine wpAllP_next [8, 10] (by kernel_rfl) (fun c hc => ?_)
              simp only [List.mem_cons, List.not_mem_nil, or_false] at hc
              rcases hc with rfl | rfl
              · skip
                refine ⟨_, rfl, ?_⟩
                go_wp2
                refine ⟨hs.only2, ?_⟩
                refine wpAllP_next [10] (by kernel_rfl) (fun c hc => ?_)
                simp only [List.mem_singleton] at hc
                subst hc
                refine ⟨_, rfl, ?_⟩
                refine wpl_alloc zero3 hs ?_
                clear hs
                intro g11 w hs
                replace hs : St w0 (blk g11 (c3 V3.z).toArray 38 :: _) w := hs
                replace hs : St w0 (RgB R s.l :: blk g4 (h2 (i, g)).toArray 40 :: blk g11 (c3 V3.z).toArray 38 :: blk g6 (c3 V3.z).toArray 38 :: AlB A s.top s.cs :: blk E (enC A R) 53 :: L) w := hs.ent (by (repeat first | exact Ent.refl _ | refine Ent.step (by repeat first | exact Ent.refl _ | apply Ent.skip) ?_))
                refine wpList_nil ⟨rfl, hs.only2, ?_⟩
                refine wpAllP_next [11] (by kernel_rfl) (fun c hc => ?_)
                simp only [List.mem_singleton] at hc
                subst hc
                refine ⟨_, rfl, ?_⟩
                refine wpl_store_agg (v := val3 v) rfl rfl (size3 _) (hs.ent (M := blk g11 (c3 V3.z).toArray 38 :: RgB R s.l :: blk g4 (h2 (i, g)).toArray 40 :: blk g6 (c3 V3.z).toArray 38 :: AlB A s.top s.cs :: blk E (enC A R) 53 :: L) (by (repeat first | exact Ent.refl _ | refine Ent.step (by repeat first | exact Ent.refl _ | apply Ent.skip) ?_))) WrA.slot3 ?_
                clear hs
                intro w hs
                replace hs : St w0 (RgB R s.l :: blk g4 (h2 (i, g)).toArray 40 :: blk g11 (c3 v).toArray 38 :: blk g6 (c3 V3.z).toArray 38 :: AlB A s.top s.cs :: blk E (enC A R) 53 :: L) w := hs.ent (by (repeat first | exact Ent.refl _ | refine Ent.step (by repeat first | exact Ent.refl _ | apply Ent.skip) ?_))
                refine wpList_nil ⟨rfl, hs.only2, ?_⟩
                refine wpAll_last [12] (by kernel_rfl) (fun c hc => ?_)
                simp only [List.mem_singleton] at hc
                subst hc
                refine ⟨_, rfl, ?_⟩
                go_wp2
                go_meet
                exact ⟨g11, rfl, rfl, (St.enshut (hs.ent (M := AlB A s.top s.cs :: RgB R s.l :: blk E (enC A R) 53 :: blk g6 (c3 V3.z).toArray 38 :: blk g11 (c3 v).toArray 38 :: blk g4 (h2 (i, g)).toArray 40 :: L) (by (repeat first | exact Ent.refl _ | refine Ent.step (by repeat first | exact Ent.refl _ | apply Ent.skip) ?_)))).ent (by (repeat first | exact Ent.refl _ | refine Ent.step (by repeat first | exact Ent.refl _ | apply Ent.skip) ?_))⟩
              · skip
                refine ⟨_, rfl, ?_⟩
                refine wpl_alloc zero3 hs ?_
                clear hs
                intro g11 w hs
                replace hs : St w0 (blk g11 (c3 V3.z).toArray 38 :: _) w := hs
                replace hs : St w0 (RgB R s.l :: blk g4 (h2 (i, g)).toArray 40 :: blk g11 (c3 V3.z).toArray 38 :: blk g6 (c3 V3.z).toArray 38 :: AlB A s.top s.cs :: blk E (enC A R) 53 :: L) w := hs.ent (by (repeat first | exact Ent.refl _ | refine Ent.step (by repeat first | exact Ent.refl _ | apply Ent.skip) ?_))
                refine wpList_nil ⟨rfl, hs.only2, ?_⟩
                refine wpAllP_next [8] (by kernel_rfl) (fun c hc => ?_)
                simp only [List.mem_singleton] at hc
                subst hc
                refine ⟨_, rfl, ?_⟩
                go_wp2
                refine ⟨hs.only2, ?_⟩
                refine wpAllP_next [11] (by kernel_rfl) (fun c hc => ?_)
                simp only [List.mem_singleton] at hc
                subst hc
                refine ⟨_, rfl, ?_⟩
                refine wpl_store_agg (v := val3 v) rfl rfl (size3 _) (hs.ent (M := blk g11 (c3 V3.z).toArray 38 :: RgB R s.l :: blk g4 (h2 (i, g)).toArray 40 :: blk g6 (c3 V3.z).toArray 38 :: AlB A s.top s.cs :: blk E (enC A R) 53 :: L) (by (repeat first | exact Ent.refl _ | refine Ent.step (by repeat first | exact Ent.refl _ | apply Ent.skip) ?_))) WrA.slot3 ?_
                clear hs
                intro w hs
                replace hs : St w0 (RgB R s.l :: blk g4 (h2 (i, g)).toArray 40 :: blk g11 (c3 v).toArray 38 :: blk g6 (c3 V3.z).toArray 38 :: AlB A s.top s.cs :: blk E (enC A R) 53 :: L) w := hs.ent (by (repeat first | exact Ent.refl _ | refine Ent.step (by repeat first | exact Ent.refl _ | apply Ent.skip) ?_))
                refine wpList_nil ⟨rfl, hs.only2, ?_⟩
                refine wpAll_last [12] (by kernel_rfl) (fun c hc => ?_)
                simp only [List.mem_singleton] at hc
                subst hc
                refine ⟨_, rfl, ?_⟩
                go_wp2
                go_meet
                exact ⟨g11, rfl, rfl, (St.enshut (hs.ent (M := AlB A s.top s.cs :: RgB R s.l :: blk E (enC A R) 53 :: blk g6 (c3 V3.z).toArray 38 :: blk g11 (c3 v).toArray 38 :: blk g4 (h2 (i, g)).toArray 40 :: L) (by (repeat first | exact Ent.refl _ | refine Ent.step (by repeat first | exact Ent.refl _ | apply Ent.skip) ?_)))).ent (by (repeat first | exact Ent.refl _ | refine Ent.step (by repeat first | exact Ent.refl _ | apply Ent.skip) ?_))⟩
            · skip
              refine ⟨_, rfl, ?_⟩
              refine wpl_alloc zero3 hs ?_
              clear hs
              intro g11 w hs
              replace hs : St w0 (blk g11 (c3 V3.z).toArray 38 :: _) w := hs
              replace hs : St w0 (RgB R s.l :: blk g4 (h2 (i, g)).toArray 40 :: blk g11 (c3 V3.z).toArray 38 :: blk g6 (c3 V3.z).toArray 38 :: AlB A s.top s.cs :: blk E (enC A R) 53 :: L) w := hs.ent (by (repeat first | exact Ent.refl _ | refine Ent.step (by repeat first | exact Ent.refl _ | apply Ent.skip) ?_))
              refine wpList_nil ⟨rfl, hs.only2, ?_⟩
              refine wpAllP_next [8, 9] (by kernel_rfl) (fun c hc => ?_)
              simp only [List.mem_cons, List.not_mem_nil, or_false] at hc
              rcases hc with rfl | rfl
              · skip
                refine ⟨_, rfl, ?_⟩
                go_wp2
                refine ⟨hs.only2, ?_⟩
                refine wpAllP_next [9, 11] (by kernel_rfl) (fun c hc => ?_)
                simp only [List.mem_cons, List.not_mem_nil, or_false] at hc
                rcases hc with rfl | rfl
                · skip
                  refine ⟨_, rfl, ?_⟩
                  go_wp2
                  refine ⟨hs.only2, ?_⟩
                  refine wpAllP_next [11] (by kernel_rfl) (fun c hc => ?_)
                  simp only [List.mem_singleton] at hc
                  subst hc
                  refine ⟨_, rfl, ?_⟩
                  refine wpl_store_agg (v := val3 v) rfl rfl (size3 _) (hs.ent (M := blk g11 (c3 V3.z).toArray 38 :: RgB R s.l :: blk g4 (h2 (i, g)).toArray 40 :: blk g6 (c3 V3.z).toArray 38 :: AlB A s.top s.cs :: blk E (enC A R) 53 :: L) (by (repeat first | exact Ent.refl _ | refine Ent.step (by repeat first | exact Ent.refl _ | apply Ent.skip) ?_))) WrA.slot3 ?_
                  clear hs
                  intro w hs
                  replace hs : St w0 (RgB R s.l :: blk g4 (h2 (i, g)).toArray 40 :: blk g11 (c3 v).toArray 38 :: blk g6 (c3 V3.z).toArray 38 :: AlB A s.top s.cs :: blk E (enC A R) 53 :: L) w := hs.ent (by (repeat first | exact Ent.refl _ | refine Ent.step (by repeat first | exact Ent.refl _ | apply Ent.skip) ?_))
                  refine wpList_nil ⟨rfl, hs.only2, ?_⟩
                  refine wpAll_last [12] (by kernel_rfl) (fun c hc => ?_)
                  simp only [List.mem_singleton] at hc
                  subst hc
                  refine ⟨_, rfl, ?_⟩
                  go_wp2
                  go_meet
                  exact ⟨g11, rfl, rfl, (St.enshut (hs.ent (M := AlB A s.top s.cs :: RgB R s.l :: blk E (enC A R) 53 :: blk g6 (c3 V3.z).toArray 38 :: blk g11 (c3 v).toArray 38 :: blk g4 (h2 (i, g)).toArray 40 :: L) (by (repeat first | exact Ent.refl _ | refine Ent.step (by repeat first | exact Ent.refl _ | apply Ent.skip) ?_)))).ent (by (repeat first | exact Ent.refl _ | refine Ent.step (by repeat first | exact Ent.refl _ | apply Ent.skip) ?_))⟩
                · skip
                  refine ⟨_, rfl, ?_⟩
                  refine wpl_store_agg (v := val3 v) rfl rfl (size3 _) (hs.ent (M := blk g11 (c3 V3.z).toArray 38 :: RgB R s.l :: blk g4 (h2 (i, g)).toArray 40 :: blk g6 (c3 V3.z).toArray 38 :: AlB A s.top s.cs :: blk E (enC A R) 53 :: L) (by (repeat first | exact Ent.refl _ | refine Ent.step (by repeat first | exact Ent.refl _ | apply Ent.skip) ?_))) WrA.slot3 ?_
                  clear hs
                  intro w hs
                  replace hs : St w0 (RgB R s.l :: blk g4 (h2 (i, g)).toArray 40 :: blk g11 (c3 v).toArray 38 :: blk g6 (c3 V3.z).toArray 38 :: AlB A s.top s.cs :: blk E (enC A R) 53 :: L) w := hs.ent (by (repeat first | exact Ent.refl _ | refine Ent.step (by repeat first | exact Ent.refl _ | apply Ent.skip) ?_))
                  refine wpList_nil ⟨rfl, hs.only2, ?_⟩
                  refine wpAllP_next [9] (by kernel_rfl) (fun c hc => ?_)
                  simp only [List.mem_singleton] at hc
                  subst hc
                  refine ⟨_, rfl, ?_⟩
                  go_wp2
                  refine ⟨hs.only2, ?_⟩
                  refine wpAll_last [12] (by kernel_rfl) (fun c hc => ?_)
                  simp only [List.mem_singleton] at hc
                  subst hc
                  refine ⟨_, rfl, ?_⟩
                  go_wp2
                  go_meet
                  exact ⟨g11, rfl, rfl, (St.enshut (hs.ent (M := AlB A s.top s.cs :: RgB R s.l :: blk E (enC A R) 53 :: blk g6 (c3 V3.z).toArray 38 :: blk g11 (c3 v).toArray 38 :: blk g4 (h2 (i, g)).toArray 40 :: L) (by (repeat first | exact Ent.refl _ | refine Ent.step (by repeat first | exact Ent.refl _ | apply Ent.skip) ?_)))).ent (by (repeat first | exact Ent.refl _ | refine Ent.step (by repeat first | exact Ent.refl _ | apply Ent.skip) ?_))⟩
              · skip
                refine ⟨_, rfl, ?_⟩
                go_wp2
                refine ⟨hs.only2, ?_⟩
                refine wpAllP_next [8] (by kernel_rfl) (fun c hc => ?_)
                simp only [List.mem_singleton] at hc
                subst hc
                refine ⟨_, rfl, ?_⟩
                go_wp2
                refine ⟨hs.only2, ?_⟩
                refine wpAllP_next [11] (by kernel_rfl) (fun c hc => ?_)
                simp only [List.mem_singleton] at hc
                subst hc
                refine ⟨_, rfl, ?_⟩
                refine wpl_store_agg (v := val3 v) rfl rfl (size3 _) (hs.ent (M := blk g11 (c3 V3.z).toArray 38 :: RgB R s.l :: blk g4 (h2 (i, g)).toArray 40 :: blk g6 (c3 V3.z).toArray 38 :: AlB A s.top s.cs :: blk E (enC A R) 53 :: L) (by (repeat first | exact Ent.refl _ | refine Ent.step (by repeat first | exact Ent.refl _ | apply Ent.skip) ?_))) WrA.slot3 ?_
                clear hs
                intro w hs
                replace hs : St w0 (RgB R s.l :: blk g4 (h2 (i, g)).toArray 40 :: blk g11 (c3 v).toArray 38 :: blk g6 (c3 V3.z).toArray 38 :: AlB A s.top s.cs :: blk E (enC A R) 53 :: L) w := hs.ent (by (repeat first | exact Ent.refl _ | refine Ent.step (by repeat first | exact Ent.refl _ | apply Ent.skip) ?_))
                refine wpList_nil ⟨rfl, hs.only2, ?_⟩
                refine wpAll_last [12] (by kernel_rfl) (fun c hc => ?_)
                simp only [List.mem_singleton] at hc
                subst hc
                refine ⟨_, rfl, ?_⟩
                go_wp2
                go_meet
                exact ⟨g11, rfl, rfl, (St.enshut (hs.ent (M := AlB A s.top s.cs :: RgB R s.l :: blk E (enC A R) 53 :: blk g6 (c3 V3.z).toArray 38 :: blk g11 (c3 v).toArray 38 :: blk g4 (h2 (i, g)).toArray 40 :: L) (by (repeat first | exact Ent.refl _ | refine Ent.step (by repeat first | exact Ent.refl _ | apply Ent.skip) ?_)))).ent (by (repeat first | exact Ent.refl _ | refine Ent.step (by repeat first | exact Ent.refl _ | apply Ent.skip) ?_))⟩
          · skip
            refine ⟨_, rfl, ?_⟩
            refine wpl_alloc zero3 hs ?_
            clear hs
            intro g11 w hs
            replace hs : St w0 (blk g11 (c3 V3.z).toArray 38 :: _) w := hs
            replace hs : St w0 (RgB R s.l :: blk g4 (h2 (i, g)).toArray 40 :: blk g11 (c3 V3.z).toArray 38 :: blk g6 (c3 V3.z).toArray 38 :: AlB A s.top s.cs :: blk E (enC A R) 53 :: L) w := hs.ent (by (repeat first | exact Ent.refl _ | refine Ent.step (by repeat first | exact Ent.refl _ | apply Ent.skip) ?_))
            refine wpList_nil ⟨rfl, hs.only2, ?_⟩
            refine wpAllP_next [7] (by kernel_rfl) (fun c hc => ?_)
            simp only [List.mem_singleton] at hc
            subst hc
            refine ⟨_, rfl, ?_⟩
            go_wp2
            refine ⟨hs.only2, ?_⟩
            refine wpAllP_next [8, 9] (by kernel_rfl) (fun c hc => ?_)
            simp only [List.mem_cons, List.not_mem_nil, or_false] at hc
            rcases hc with rfl | rfl
            · skip
              refine ⟨_, rfl, ?_⟩
              go_wp2
              refine ⟨hs.only2, ?_⟩
              refine wpAllP_next [9, 11] (by kernel_rfl) (fun c hc => ?_)
              simp only [List.mem_cons, List.not_mem_nil, or_false] at hc
              rcases hc with rfl | rfl
              · skip
                refine ⟨_, rfl, ?_⟩
                go_wp2
                refine ⟨hs.only2, ?_⟩
                refine wpAllP_next [11] (by kernel_rfl) (fun c hc => ?_)
                simp only [List.mem_singleton] at hc
                subst hc
                refine ⟨_, rfl, ?_⟩
                refine wpl_store_agg (v := val3 v) rfl rfl (size3 _) (hs.ent (M := blk g11 (c3 V3.z).toArray 38 :: RgB R s.l :: blk g4 (h2 (i, g)).toArray 40 :: blk g6 (c3 V3.z).toArray 38 :: AlB A s.top s.cs :: blk E (enC A R) 53 :: L) (by (repeat first | exact Ent.refl _ | refine Ent.step (by repeat first | exact Ent.refl _ | apply Ent.skip) ?_))) WrA.slot3 ?_
                clear hs
                intro w hs
                replace hs : St w0 (RgB R s.l :: blk g4 (h2 (i, g)).toArray 40 :: blk g11 (c3 v).toArray 38 :: blk g6 (c3 V3.z).toArray 38 :: AlB A s.top s.cs :: blk E (enC A R) 53 :: L) w := hs.ent (by (repeat first | exact Ent.refl _ | refine Ent.step (by repeat first | exact Ent.refl _ | apply Ent.skip) ?_))
                refine wpList_nil ⟨rfl, hs.only2, ?_⟩
                refine wpAll_last [12] (by kernel_rfl) (fun c hc => ?_)
                simp only [List.mem_singleton] at hc
                subst hc
                refine ⟨_, rfl, ?_⟩
                go_wp2
                go_meet
                exact ⟨g11, rfl, rfl, (St.enshut (hs.ent (M := AlB A s.top s.cs :: RgB R s.l :: blk E (enC A R) 53 :: blk g6 (c3 V3.z).toArray 38 :: blk g11 (c3 v).toArray 38 :: blk g4 (h2 (i, g)).toArray 40 :: L) (by (repeat first | exact Ent.refl _ | refine Ent.step (by repeat first | exact Ent.refl _ | apply Ent.skip) ?_)))).ent (by (repeat first | exact Ent.refl _ | refine Ent.step (by repeat first | exact Ent.refl _ | apply Ent.skip) ?_))⟩
              · skip
                refine ⟨_, rfl, ?_⟩
                refine wpl_store_agg (v := val3 v) rfl rfl (size3 _) (hs.ent (M := blk g11 (c3 V3.z).toArray 38 :: RgB R s.l :: blk g4 (h2 (i, g)).toArray 40 :: blk g6 (c3 V3.z).toArray 38 :: AlB A s.top s.cs :: blk E (enC A R) 53 :: L) (by (repeat first | exact Ent.refl _ | refine Ent.step (by repeat first | exact Ent.refl _ | apply Ent.skip) ?_))) WrA.slot3 ?_
                clear hs
                intro w hs
                replace hs : St w0 (RgB R s.l :: blk g4 (h2 (i, g)).toArray 40 :: blk g11 (c3 v).toArray 38 :: blk g6 (c3 V3.z).toArray 38 :: AlB A s.top s.cs :: blk E (enC A R) 53 :: L) w := hs.ent (by (repeat first | exact Ent.refl _ | refine Ent.step (by repeat first | exact Ent.refl _ | apply Ent.skip) ?_))
                refine wpList_nil ⟨rfl, hs.only2, ?_⟩
                refine wpAllP_next [9] (by kernel_rfl) (fun c hc => ?_)
                simp only [List.mem_singleton] at hc
                subst hc
                refine ⟨_, rfl, ?_⟩
                go_wp2
                refine ⟨hs.only2, ?_⟩
                refine wpAll_last [12] (by kernel_rfl) (fun c hc => ?_)
                simp only [List.mem_singleton] at hc
                subst hc
                refine ⟨_, rfl, ?_⟩
                go_wp2
                go_meet
                exact ⟨g11, rfl, rfl, (St.enshut (hs.ent (M := AlB A s.top s.cs :: RgB R s.l :: blk E (enC A R) 53 :: blk g6 (c3 V3.z).toArray 38 :: blk g11 (c3 v).toArray 38 :: blk g4 (h2 (i, g)).toArray 40 :: L) (by (repeat first | exact Ent.refl _ | refine Ent.step (by repeat first | exact Ent.refl _ | apply Ent.skip) ?_)))).ent (by (repeat first | exact Ent.refl _ | refine Ent.step (by repeat first | exact Ent.refl _ | apply Ent.skip) ?_))⟩
            · skip
              refine ⟨_, rfl, ?_⟩
              go_wp2
              refine ⟨hs.only2, ?_⟩
              refine wpAllP_next [8] (by kernel_rfl) (fun c hc => ?_)
              simp only [List.mem_singleton] at hc
              subst hc
              refine ⟨_, rfl, ?_⟩
              go_wp2
              refine ⟨hs.only2, ?_⟩
              refine wpAllP_next [11] (by kernel_rfl) (fun c hc => ?_)
              simp only [List.mem_singleton] at hc
              subst hc
              refine ⟨_, rfl, ?_⟩
              refine wpl_store_agg (v := val3 v) rfl rfl (size3 _) (hs.ent (M := blk g11 (c3 V3.z).toArray 38 :: RgB R s.l :: blk g4 (h2 (i, g)).toArray 40 :: blk g6 (c3 V3.z).toArray 38 :: AlB A s.top s.cs :: blk E (enC A R) 53 :: L) (by (repeat first | exact Ent.refl _ | refine Ent.step (by repeat first | exact Ent.refl _ | apply Ent.skip) ?_))) WrA.slot3 ?_
              clear hs
              intro w hs
              replace hs : St w0 (RgB R s.l :: blk g4 (h2 (i, g)).toArray 40 :: blk g11 (c3 v).toArray 38 :: blk g6 (c3 V3.z).toArray 38 :: AlB A s.top s.cs :: blk E (enC A R) 53 :: L) w := hs.ent (by (repeat first | exact Ent.refl _ | refine Ent.step (by repeat first | exact Ent.refl _ | apply Ent.skip) ?_))
              refine wpList_nil ⟨rfl, hs.only2, ?_⟩
              refine wpAll_last [12] (by kernel_rfl) (fun c hc => ?_)
              simp only [List.mem_singleton] at hc
              subst hc
              refine ⟨_, rfl, ?_⟩
              go_wp2
              go_meet
              exact ⟨g11, rfl, rfl, (St.enshut (hs.ent (M := AlB A s.top s.cs :: RgB R s.l :: blk E (enC A R) 53 :: blk g6 (c3 V3.z).toArray 38 :: blk g11 (c3 v).toArray 38 :: blk g4 (h2 (i, g)).toArray 40 :: L) (by (repeat first | exact Ent.refl _ | refine Ent.step (by repeat first | exact Ent.refl _ | apply Ent.skip) ?_)))).ent (by (repeat first | exact Ent.refl _ | refine Ent.step (by repeat first | exact Ent.refl _ | apply Ent.skip) ?_))⟩
        · skip
          refine ⟨_, rfl, ?_⟩
          refine wpl_alloc zero3 hs ?_
          clear hs
          intro g11 w hs
          replace hs : St w0 (blk g11 (c3 V3.z).toArray 38 :: _) w := hs
          replace hs : St w0 (RgB R s.l :: blk g4 (h2 (i, g)).toArray 40 :: blk g11 (c3 V3.z).toArray 38 :: blk g6 (c3 V3.z).toArray 38 :: AlB A s.top s.cs :: blk E (enC A R) 53 :: L) w := hs.ent (by (repeat first | exact Ent.refl _ | refine Ent.step (by repeat first | exact Ent.refl _ | apply Ent.skip) ?_))
          refine wpList_nil ⟨rfl, hs.only2, ?_⟩
          refine wpAllP_next [6] (by kernel_rfl) (fun c hc => ?_)
          simp only [List.mem_singleton] at hc
          subst hc
          refine ⟨_, rfl, ?_⟩
          refine wpl_inv1 (v := pv) (v1 := .int .i64 i) rfl rfl (rg_get hs HX HPV HW HU HB) ?_
          rintro r w ⟨rfl, hg⟩
          replace hs := hs.grew hg
          clear hg
          refine wpList_nil ⟨rfl, hs.only2, ?_⟩
          refine wpAllP_next [7] (by kernel_rfl) (fun c hc => ?_)
          simp only [List.mem_singleton] at hc
          subst hc
          refine ⟨_, rfl, ?_⟩
          go_wp2
          refine ⟨hs.only2, ?_⟩
          refine wpAllP_next [8, 9] (by kernel_rfl) (fun c hc => ?_)
          simp only [List.mem_cons, List.not_mem_nil, or_false] at hc
          rcases hc with rfl | rfl
          · skip
            refine ⟨_, rfl, ?_⟩
            go_wp2
            refine ⟨hs.only2, ?_⟩
            refine wpAllP_next [9, 11] (by kernel_rfl) (fun c hc => ?_)
            simp only [List.mem_cons, List.not_mem_nil, or_false] at hc
            rcases hc with rfl | rfl
            · skip
              refine ⟨_, rfl, ?_⟩
              go_wp2
              refine ⟨hs.only2, ?_⟩
              refine wpAllP_next [11] (by kernel_rfl) (fun c hc => ?_)
              simp only [List.mem_singleton] at hc
              subst hc
              refine ⟨_, rfl, ?_⟩
              refine wpl_store_agg (v := val3 v) rfl rfl (size3 _) (hs.ent (M := blk g11 (c3 V3.z).toArray 38 :: RgB R s.l :: blk g4 (h2 (i, g)).toArray 40 :: blk g6 (c3 V3.z).toArray 38 :: AlB A s.top s.cs :: blk E (enC A R) 53 :: L) (by (repeat first | exact Ent.refl _ | refine Ent.step (by repeat first | exact Ent.refl _ | apply Ent.skip) ?_))) WrA.slot3 ?_
              clear hs
              intro w hs
              replace hs : St w0 (RgB R s.l :: blk g4 (h2 (i, g)).toArray 40 :: blk g11 (c3 v).toArray 38 :: blk g6 (c3 V3.z).toArray 38 :: AlB A s.top s.cs :: blk E (enC A R) 53 :: L) w := hs.ent (by (repeat first | exact Ent.refl _ | refine Ent.step (by repeat first | exact Ent.refl _ | apply Ent.skip) ?_))
              refine wpList_nil ⟨rfl, hs.only2, ?_⟩
              refine wpAll_last [12] (by kernel_rfl) (fun c hc => ?_)
              simp only [List.mem_singleton] at hc
              subst hc
              refine ⟨_, rfl, ?_⟩
              go_wp2
              go_meet
              exact ⟨g11, rfl, rfl, (St.enshut (hs.ent (M := AlB A s.top s.cs :: RgB R s.l :: blk E (enC A R) 53 :: blk g6 (c3 V3.z).toArray 38 :: blk g11 (c3 v).toArray 38 :: blk g4 (h2 (i, g)).toArray 40 :: L) (by (repeat first | exact Ent.refl _ | refine Ent.step (by repeat first | exact Ent.refl _ | apply Ent.skip) ?_)))).ent (by (repeat first | exact Ent.refl _ | refine Ent.step (by repeat first | exact Ent.refl _ | apply Ent.skip) ?_))⟩
            · skip
              refine ⟨_, rfl, ?_⟩
              refine wpl_store_agg (v := val3 v) rfl rfl (size3 _) (hs.ent (M := blk g11 (c3 V3.z).toArray 38 :: RgB R s.l :: blk g4 (h2 (i, g)).toArray 40 :: blk g6 (c3 V3.z).toArray 38 :: AlB A s.top s.cs :: blk E (enC A R) 53 :: L) (by (repeat first | exact Ent.refl _ | refine Ent.step (by repeat first | exact Ent.refl _ | apply Ent.skip) ?_))) WrA.slot3 ?_
              clear hs
              intro w hs
              replace hs : St w0 (RgB R s.l :: blk g4 (h2 (i, g)).toArray 40 :: blk g11 (c3 v).toArray 38 :: blk g6 (c3 V3.z).toArray 38 :: AlB A s.top s.cs :: blk E (enC A R) 53 :: L) w := hs.ent (by (repeat first | exact Ent.refl _ | refine Ent.step (by repeat first | exact Ent.refl _ | apply Ent.skip) ?_))
              refine wpList_nil ⟨rfl, hs.only2, ?_⟩
              refine wpAllP_next [9] (by kernel_rfl) (fun c hc => ?_)
              simp only [List.mem_singleton] at hc
              subst hc
              refine ⟨_, rfl, ?_⟩
              go_wp2
              refine ⟨hs.only2, ?_⟩
              refine wpAll_last [12] (by kernel_rfl) (fun c hc => ?_)
              simp only [List.mem_singleton] at hc
              subst hc
              refine ⟨_, rfl, ?_⟩
              go_wp2
              go_meet
              exact ⟨g11, rfl, rfl, (St.enshut (hs.ent (M := AlB A s.top s.cs :: RgB R s.l :: blk E (enC A R) 53 :: blk g6 (c3 V3.z).toArray 38 :: blk g11 (c3 v).toArray 38 :: blk g4 (h2 (i, g)).toArray 40 :: L) (by (repeat first | exact Ent.refl _ | refine Ent.step (by repeat first | exact Ent.refl _ | apply Ent.skip) ?_)))).ent (by (repeat first | exact Ent.refl _ | refine Ent.step (by repeat first | exact Ent.refl _ | apply Ent.skip) ?_))⟩
          · skip
            refine ⟨_, rfl, ?_⟩
            go_wp2
            refine ⟨hs.only2, ?_⟩
            refine wpAllP_next [8] (by kernel_rfl) (fun c hc => ?_)
            simp only [List.mem_singleton] at hc
            subst hc
            refine ⟨_, rfl, ?_⟩
            go_wp2
            refine ⟨hs.only2, ?_⟩
            refine wpAllP_next [11] (by kernel_rfl) (fun c hc => ?_)
            simp only [List.mem_singleton] at hc
            subst hc
            refine ⟨_, rfl, ?_⟩
            refine wpl_store_agg (v := val3 v) rfl rfl (size3 _) (hs.ent (M := blk g11 (c3 V3.z).toArray 38 :: RgB R s.l :: blk g4 (h2 (i, g)).toArray 40 :: blk g6 (c3 V3.z).toArray 38 :: AlB A s.top s.cs :: blk E (enC A R) 53 :: L) (by (repeat first | exact Ent.refl _ | refine Ent.step (by repeat first | exact Ent.refl _ | apply Ent.skip) ?_))) WrA.slot3 ?_
            clear hs
            intro w hs
            replace hs : St w0 (RgB R s.l :: blk g4 (h2 (i, g)).toArray 40 :: blk g11 (c3 v).toArray 38 :: blk g6 (c3 V3.z).toArray 38 :: AlB A s.top s.cs :: blk E (enC A R) 53 :: L) w := hs.ent (by (repeat first | exact Ent.refl _ | refine Ent.step (by repeat first | exact Ent.refl _ | apply Ent.skip) ?_))
            refine wpList_nil ⟨rfl, hs.only2, ?_⟩
            refine wpAll_last [12] (by kernel_rfl) (fun c hc => ?_)
            simp only [List.mem_singleton] at hc
            subst hc
            refine ⟨_, rfl, ?_⟩
            go_wp2
            go_meet
            exact ⟨g11, rfl, rfl, (St.enshut (hs.ent (M := AlB A s.top s.cs :: RgB R s.l :: blk E (enC A R) 53 :: blk g6 (c3 V3.z).toArray 38 :: blk g11 (c3 v).toArray 38 :: blk g4 (h2 (i, g)).toArray 40 :: L) (by (repeat first | exact Ent.refl _ | refine Ent.step (by repeat first | exact Ent.refl _ | apply Ent.skip) ?_)))).ent (by (repeat first | exact Ent.refl _ | refine Ent.step (by repeat first | exact Ent.refl _ | apply Ent.skip) ?_))⟩
      case rest =>
      clear hs
      obtain ⟨g11, rfl, rfl, hs⟩ := hcut
      cases b
      · obtain ⟨rfl, rfl⟩ : u = V3.z ∧ e = 10 := by have := H1.out; simp at this; exact ⟨this.1.symm, this.2.symm⟩
        clear H1
        (go_wp2_with (first
          | (refine wpl_buildS build3 rfl ?_)
          | (refine wpl_store_agg (v := val3 V3.z) rfl rfl (size3 _) hs WrA.slot3 ?_; clear hs; intro w hs)))
        refine bodyPost_at (results_cell_tmp Tryz.results29 rfl (hs.slot_run agg3 (size3 _))) rfl ?_
        exact ⟨rfl, hs.drop.drop.drop⟩
      · obtain ⟨rfl, rfl⟩ : u = v ∧ e = 0 := by have := H1.out; simp at this; exact ⟨this.1.symm, this.2.symm⟩
        clear H1
        (go_wp2_with (first
          | (refine wpl_load3 (v := u) (g := g11) rfl (has3_tail (has3_slot (t := 38))) agg3 size3n hs ?_)
          | (refine wpl_store_agg (v := val3 u) rfl rfl (size3 _) hs WrA.slot3 ?_; clear hs; intro w hs)))
        refine bodyPost_at (results_cell_tmp Tryz.results29 rfl (hs.slot_run agg3 (size3 _))) rfl ?_
        exact ⟨rfl, hs.drop.drop.drop⟩
  · have e1 : (f == 0) = false := by simpa using h0
    have e2 : (f != 0) = true := by simpa using h0
    have h1 := HV.out
    rw [EnS.get_no (by rw [HL.out]; exact h0), HL.out] at h1
    cases h1
    clear HV hwf h0
    go_enter Tryz.func29, Tryz.ntmps29
    (go_wp2_with (first
      | (refine wpl_box_v (v := hv (i, g)) rfl hs ?_; clear hs; intro g4 w hs; replace hs : St w0 (blk g4 (h2 (i, g)).toArray 40 :: _) w := hs)
      | (refine wpl_load_agg (cs := h2 (i, g)) (b := g4) (o := 0) rfl aggH (sizeHd _) hs ?hh ?_; case hh => exact fun j x hx => (Rd.blk (by simpa using hx)).tail)
      | (go_at_call 80; refine (en_live (h := (i, g)) hs.drop.drop HL).mono ?_; rintro r w' ⟨rfl, hg⟩; replace hs := hs.grew hg; clear hg)
      | (refine wpl_alloc zero3 hs ?_; clear hs; intro g6 w hs)
      | (refine wpl_buildS build3 rfl ?_)
      | (refine wpl_store_agg (v := val3 V3.z) rfl rfl (size3 _) hs WrA.slot3 ?_; clear hs; intro w hs)))
    refine bodyPost_at (results_cell_tmp Tryz.results29 rfl (hs.slot_run agg3 (size3 _))) rfl ?_
    exact ⟨rfl, hs.drop.drop⟩
end Go.Proofs.YtiafdlofcjbllaaGreatDoor
