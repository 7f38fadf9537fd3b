/-
  The statements' Fit, Pick.
-/
import Derived.Test.YtiafdlofcjbllaaGreatDoorDw1
import Derived.Test.YtiafdlofcjbllaaGreatDoorOpE
import Derived.Deep.DeepCutAuto
set_option maxRecDepth 100000
namespace Go.Proofs.YtiafdlofcjbllaaGreatDoor
open Go Go.RowKit
theorem Rd.dsk {w0 : World} {L : List As} {D : Nat} {s : SlS} : Rd w0 (DsB D s :: L) ⟨D, 0, none⟩ (.int .i64 s.d.k) := fun w hs => by
  obtain ⟨hok, rs, hag, hs⟩ := hs.dsopen
  obtain ⟨hlen, A, cap, hs⟩ := hs.tbopen
  exact Rd.ds0 _ hs
attribute [local irreducible] wpList Calls Code.wp stV EnS.live EnS.slot rgP padA newSl descE newA cs3 hsV
set_option maxHeartbeats 2000000 in
theorem fit_c {w0 w : World} {L : List As} {M : Nat} {s : WoS} (hs : St w0 (DwB M s :: L) w) (c : Int) (v : V3) :
    Calls Tryz.prog 18 #[.pointer (some ⟨M, 0, none⟩), .int .i64 c, val3 v] w fun r w' => ∃ u : V3, r = .returned (val3 u) ∧ St w0 (DwB M s :: L) w' := by
  obtain ⟨m, hm⟩ : ∃ m, Hid (s.e.l.length = m) := ⟨_, rfl⟩
  by_cases h0 : c < 0
  · go_enter Tryz.func18, Tryz.ntmps18
    go_upto_region 1 with (first
      | (refine wpl_box_v (v := val3 v) rfl hs ?_; clear hs; intro g5 w hs; replace hs : St w0 (blk g5 (YtiafdlofcjbllaaGreatDoor.c3 v).toArray 38 :: _) w := hs)
      | (refine wpl_alloc zero3 hs ?_; clear hs; intro g6 w hs; replace hs : St w0 (blk g6 (YtiafdlofcjbllaaGreatDoor.c3 V3.z).toArray 38 :: _) w := hs))
    (go_wp2_with (first
      | (refine wpl_load3 (v := v) (g := g5) rfl (has3_tail (has3_slot (t := 38))) agg3 size3n hs ?_)
      | (refine wpl_store_agg (v := val3 v) rfl rfl (size3 _) hs WrA.slot3 ?_; clear hs; intro w hs)))
    refine bodyPost_at (results_cell1 Tryz.results18 rfl (hs.slot_run agg3 (size3 _))) rfl ?_
    first | exact ⟨v, rfl, hs.drop.drop⟩ | exact ⟨⟨v, rfl⟩, hs.drop.drop⟩
  · obtain ⟨j, rfl⟩ := Int.eq_ofNat_of_zero_le (show 0 ≤ c by omega)
    clear h0
    by_cases h1 : j < m
    · by_cases h7 : bits .and .i64 v.a 7 = 3
      · have d7 : (bits .and .i64 v.a 7 != 3) = false := by simp [h7]
        go_enter Tryz.func18, Tryz.ntmps18
        go_upto_region 1 with (first
          | (refine wpl_box_v (v := val3 v) rfl hs ?_; clear hs; intro g5 w hs; replace hs : St w0 (blk g5 (YtiafdlofcjbllaaGreatDoor.c3 v).toArray 38 :: _) w := hs)
          | (refine wpl_alloc zero3 hs ?_; clear hs; intro g6 w hs; replace hs : St w0 (blk g6 (YtiafdlofcjbllaaGreatDoor.c3 V3.z).toArray 38 :: _) w := hs))
        obtain ⟨B, cB, k1⟩ := St.dwlen hm.out hs.drop.drop
        obtain ⟨p0, p1, p2⟩ := Has3.facts (has3_tail (has3_slot (g := g5) (v := v) (t := 38))) hs
        go_upto_region 3 with (fail)
        clear k1 p0 p1 p2
        (go_wp2_with (first
          | (refine wpl_load3 (v := v) (g := g5) rfl (has3_tail (has3_slot (t := 38))) agg3 size3n hs ?_)
          | (refine wpl_store_agg (v := val3 v) rfl rfl (size3 _) hs WrA.slot3 ?_; clear hs; intro w hs)))
        refine bodyPost_at (results_cell1 Tryz.results18 rfl (hs.slot_run agg3 (size3 _))) rfl ?_
        first | exact ⟨v, rfl, hs.drop.drop⟩ | exact ⟨⟨v, rfl⟩, hs.drop.drop⟩
      · have d7 : (bits .and .i64 v.a 7 != 3) = true := by simp [h7]
        obtain ⟨⟨X, t⟩, hx⟩ : ∃ x, s.e.l[j]? = some x := ⟨_, List.getElem?_eq_getElem (by rw [hm.out]; exact h1)⟩
        obtain ⟨u, HU⟩ : ∃ z, Hid (mkV t.d.k v.a v.b = z) := ⟨_, rfl⟩
        have HX := Lib.hid hx
        clear hx h7
        go_enter Tryz.func18, Tryz.ntmps18
        go_upto_region 1 with (first
          | (refine wpl_box_v (v := val3 v) rfl hs ?_; clear hs; intro g5 w hs; replace hs : St w0 (blk g5 (YtiafdlofcjbllaaGreatDoor.c3 v).toArray 38 :: _) w := hs)
          | (refine wpl_alloc zero3 hs ?_; clear hs; intro g6 w hs; replace hs : St w0 (blk g6 (YtiafdlofcjbllaaGreatDoor.c3 V3.z).toArray 38 :: _) w := hs))
        obtain ⟨K, gB, cB, P, R, hK, _, hP, hs, hback⟩ := St.dwslotL hm.out HX.out hs.up2
        have HB := Lib.hid hback
        have k1 := Rd.blk hK _ hs
        replace hs : St w0 (blk g5 (YtiafdlofcjbllaaGreatDoor.c3 v).toArray 38 :: blk M K 59 :: own (some ⟨gB, 0, none⟩) m cB 146 1 P :: DsB X t :: blk g6 (YtiafdlofcjbllaaGreatDoor.c3 V3.z).toArray 38 :: R :: L) _ := hs.ent (by (repeat first | exact Ent.refl _ | refine Ent.step (by repeat first | exact Ent.refl _ | apply Ent.skip) ?_))
        obtain ⟨p0, p1, p2⟩ := Has3.facts (has3_slot (g := g5) (v := v) (t := 38)) hs
        clear hback
        go_upto_region 2 with (fail)
        clear k1 p0 p1 p2
        refine wp_region_plain [false, false, false, false, false, false, false, false, false, false, false, false, false, false, false, true, true] hs.only4 (by kernel_rfl) (by kernel_rfl) fun hne => ?_
        have r0 := (show Rd w0 [blk g5 (YtiafdlofcjbllaaGreatDoor.c3 v).toArray 38, blk M K 59, own (some ⟨gB, 0, none⟩) m cB 146 1 P, DsB X t] ⟨M, 1, none⟩ _ from (Rd.blk hK).tail).alln
        have r1 := (show Rd w0 [blk g5 (YtiafdlofcjbllaaGreatDoor.c3 v).toArray 38, blk M K 59, own (some ⟨gB, 0, none⟩) m cB 146 1 P, DsB X t] _ _ from (Rd.own (size := 1) hP).tail.tail).alln
        have r2 := (show Rd w0 [blk g5 (YtiafdlofcjbllaaGreatDoor.c3 v).toArray 38, blk M K 59, own (some ⟨gB, 0, none⟩) m cB 146 1 P, DsB X t] ⟨X, 0, none⟩ (.int .i64 t.d.k) from Rd.dsk.tail.tail.tail).alln
        have r3 := (show Rd w0 [blk g5 (YtiafdlofcjbllaaGreatDoor.c3 v).toArray 38, blk M K 59, own (some ⟨gB, 0, none⟩) m cB 146 1 P, DsB X t] ⟨g5, 1, none⟩ (.int .i64 v.a) from Rd.blk rfl).alln
        have r4 := (show Rd w0 [blk g5 (YtiafdlofcjbllaaGreatDoor.c3 v).toArray 38, blk M K 59, own (some ⟨gB, 0, none⟩) m cB 146 1 P, DsB X t] ⟨g5, 2, none⟩ (.int .i64 v.b) from Rd.blk rfl).alln
        simp only [pickOps]
        repeat (go_big_quiet_step (fail))
        refine wpQuiet_nil ?_
        clear hne r0 r1 r2 r3 r4
        simp only [chainIx]
        replace hs := hs.drew
        refine wpChainP_next rfl ?_
        (go_wp2_with (first
          | (go_at_call 67; refine (lvalue_c _ _ _ HU).mono ?_; rintro r w ⟨rfl, hg⟩; replace hs := hs.grew hg; clear hg)))
        refine ⟨hs.only4, ?_⟩
        refine wpChain_last rfl ?_
        replace hs : St w0 (blk g6 (YtiafdlofcjbllaaGreatDoor.c3 V3.z).toArray 38 :: blk g5 (YtiafdlofcjbllaaGreatDoor.c3 v).toArray 38 :: blk M K 59 :: own (some ⟨gB, 0, none⟩) m cB 146 1 P :: DsB X t :: R :: L) _ := hs.ent (by (repeat first | exact Ent.refl _ | refine Ent.step (by repeat first | exact Ent.refl _ | apply Ent.skip) ?_))
        (go_wp2_with (first
          | (refine wpl_store_agg (v := val3 u) rfl rfl (size3 _) hs WrA.slot3 ?_; clear hs; intro w hs)))
        refine bodyPost_at (results_cell1 Tryz.results18 rfl (hs.slot_run agg3 (size3 _))) rfl ?_
        have h5 := HB.out _ _ _ hs.drop.drop
        rw [WoS.set_same HX.out] at h5
        first | exact ⟨u, rfl, h5⟩ | exact ⟨⟨u, rfl⟩, h5⟩
    · have h2 : ¬ (j : Int) < (m : Int) := by omega
      go_enter Tryz.func18, Tryz.ntmps18
      go_upto_region 1 with (first
        | (refine wpl_box_v (v := val3 v) rfl hs ?_; clear hs; intro g5 w hs; replace hs : St w0 (blk g5 (YtiafdlofcjbllaaGreatDoor.c3 v).toArray 38 :: _) w := hs)
        | (refine wpl_alloc zero3 hs ?_; clear hs; intro g6 w hs; replace hs : St w0 (blk g6 (YtiafdlofcjbllaaGreatDoor.c3 V3.z).toArray 38 :: _) w := hs))
      obtain ⟨B, cB, k1⟩ := St.dwlen hm.out hs.drop.drop
      go_upto_region 3 with (fail)
      clear k1
      (go_wp2_with (first
        | (refine wpl_load3 (v := v) (g := g5) rfl (has3_tail (has3_slot (t := 38))) agg3 size3n hs ?_)
        | (refine wpl_store_agg (v := val3 v) rfl rfl (size3 _) hs WrA.slot3 ?_; clear hs; intro w hs)))
      refine bodyPost_at (results_cell1 Tryz.results18 rfl (hs.slot_run agg3 (size3 _))) rfl ?_
      first | exact ⟨v, rfl, hs.drop.drop⟩ | exact ⟨⟨v, rfl⟩, hs.drop.drop⟩
/-! ### Pick -/
set_option maxHeartbeats 2000000 in
theorem pick_c {w0 w : World} {L : List As} (hs : St w0 L w) {A : Option Addr} {n cA : Nat} {all : List Hdl} (hn : Hid (all.length = n)) (hr : RdS w0 L A (hsV all)) (z : Int) (h : Hdl) :
    Calls Tryz.prog 17 #[.slice A n cA, .int .i64 z, hv h] w fun r w' => ∃ v : Hdl, r = .returned (hv v) ∧ St w0 L w' := by
  obtain ⟨i, g⟩ := h
  by_cases h0 : 0 < n
  · have h0' : (0 : Int) < (n : Int) := by omega
    by_cases h1 : bits .and .i64 z 15 = 0
    · have d1 : (bits .and .i64 z 15 != 0) = false := by simp [h1]
      clear h1
      go_enter Tryz.func17, Tryz.ntmps17
      go_upto_region 1 with (first
        | (refine wpl_box_v (v := hv (i, g)) rfl hs ?_; clear hs; intro g5 w hs; replace hs : St w0 (blk g5 (h2 (i, g)).toArray 40 :: _) w := hs)
        | (refine wpl_alloc zeroH hs ?_; clear hs; intro g6 w hs; replace hs : St w0 (blk g6 (h2 (0, 0)).toArray 40 :: _) w := hs))
      (go_wp2_with (first
        | (refine wpl_load_agg (cs := h2 (i, g)) (b := g5) (o := 0) rfl aggH (sizeHd _) hs ?hh ?_; case hh => exact fun j x hx => (Rd.blk (by simpa using hx)).tail)
        | (refine wpl_store_agg (v := hv (i, g)) rfl rfl (sizeHd _) hs WrA.slotH ?_; clear hs; intro w hs)))
      refine bodyPost_at (results_cell1 Tryz.results17 rfl (hs.slot_run aggH (sizeHd _))) rfl ?_
      first | exact ⟨(i, g), rfl, hs.drop.drop⟩ | exact ⟨⟨i, g, rfl⟩, hs.drop.drop⟩
    · have d1 : (bits .and .i64 z 15 != 0) = true := by simp [h1]
      clear h1
      go_enter Tryz.func17, Tryz.ntmps17
      go_upto_region 1 with (first
        | (refine wpl_box_v (v := hv (i, g)) rfl hs ?_; clear hs; intro g5 w hs; replace hs : St w0 (blk g5 (h2 (i, g)).toArray 40 :: _) w := hs)
        | (refine wpl_alloc zeroH hs ?_; clear hs; intro g6 w hs; replace hs : St w0 (blk g6 (h2 (0, 0)).toArray 40 :: _) w := hs))
      have HW : ∀ x, bits .and .i64 x 65535 = ((x % 65536).toNat : Nat) := fun x => land_65535 x
      obtain ⟨q, hq⟩ := Int.eq_ofNat_of_zero_le (show 0 ≤ max (z / 16 % 65536) 0 % (n : Int) from Int.emod_nonneg _ (by omega))
      have hqn : q < n := by have := Int.emod_lt_of_pos (max (z / 16 % 65536) 0) h0'; omega
      obtain ⟨⟨i2, g2⟩, hx⟩ : ∃ x, all[q]? = some x := ⟨_, List.getElem?_eq_getElem (by rw [hn.out]; exact hqn)⟩
      have hcell := fun j x hj => hr.get (hsV_get hx j x hj)
      obtain ⟨b9, off, rfl, _⟩ := hcell 0 _ rfl
      have hld : ∀ j x, (h2 (i2, g2))[j]? = some x → Rd w0 L ⟨b9, off + q * 2 + j, none⟩ x := fun j x hj => by
        obtain ⟨b', o', he, hr⟩ := hcell j x hj
        injection he with he
        injection he with e1 e2
        subst e1; subst e2
        rw [Nat.add_assoc]; exact hr
      clear hcell hx hr
      (go_wp2_with (first
        | (refine wpl_load_agg (cs := h2 (i2, g2)) (b := b9) (o := off + q * 2) rfl aggH (sizeHd _) hs ?hh ?_; case hh => exact fun j x hj => (hld j x hj).tail.tail)
        | (refine wpl_store_agg (v := hv (i2, g2)) rfl rfl (sizeHd _) hs WrA.slotH ?_; clear hs; intro w hs)))
      refine bodyPost_at (results_cell1 Tryz.results17 rfl (hs.slot_run aggH (sizeHd _))) rfl ?_
      first | exact ⟨(i2, g2), rfl, hs.drop.drop⟩ | exact ⟨⟨i2, g2, rfl⟩, hs.drop.drop⟩
  · obtain rfl : n = 0 := by omega
    go_enter Tryz.func17, Tryz.ntmps17
    go_upto_region 1 with (first
      | (refine wpl_box_v (v := hv (i, g)) rfl hs ?_; clear hs; intro g5 w hs; replace hs : St w0 (blk g5 (h2 (i, g)).toArray 40 :: _) w := hs)
      | (refine wpl_alloc zeroH hs ?_; clear hs; intro g6 w hs; replace hs : St w0 (blk g6 (h2 (0, 0)).toArray 40 :: _) w := hs))
    (go_wp2_with (first
      | (refine wpl_load_agg (cs := h2 (i, g)) (b := g5) (o := 0) rfl aggH (sizeHd _) hs ?hh ?_; case hh => exact fun j x hx => (Rd.blk (by simpa using hx)).tail)
      | (refine wpl_store_agg (v := hv (i, g)) rfl rfl (sizeHd _) hs WrA.slotH ?_; clear hs; intro w hs)))
    refine bodyPost_at (results_cell1 Tryz.results17 rfl (hs.slot_run aggH (sizeHd _))) rfl ?_
    first | exact ⟨(i, g), rfl, hs.drop.drop⟩ | exact ⟨⟨i, g, rfl⟩, hs.drop.drop⟩
end Go.Proofs.YtiafdlofcjbllaaGreatDoor
