/-
  A world in memory (world.World): Create, Delete, Insert, Remove, Get, Set. (Printed by gen_wo7.py.)
-/
import Derived.Test.YtcnbmfaicbkhcaaGreatDoorWo6
import Derived.Test.YtcnbmfaicbkhcaaGreatDoorWoL2
import Derived.Deep.DeepCutAuto
import Derived.Deep.CutRange
set_option maxRecDepth 100000
namespace Go.Proofs.YtcnbmfaicbkhcaaGreatDoor
open Go Go.RowKit
attribute [local irreducible] wpList Calls Code.wp stV EnS.live EnS.slot okI okN pS tS memS getG pG insS delS getV pV tV okVal newSl SlS.put SlS.err SlS.putU SlS.putB descE SlS.take SlS.set SlS.errSet SlS.get SlS.has EnS.ins EnS.set EnS.rem EnS.get EnS.del WoS.ins WoS.rem WoS.get WoS.set WoS.may WoS.create WoS.del giveV

set_option maxHeartbeats 4000000 in
theorem wo_ins {w0 w : World} {L : List As} {W E A R X Q n : Nat} {s : WoS} (hs : St w0 (WoB W E A R X Q n s :: L) w) (hev : ∀ x ∈ s.e.l, x.2.evs.length < 4611686018427387904) {h : Hdl} {c : Int} {v u : V3} {b : Bool} {x : Int} {s' : WoS} (HV : Hid (s.ins h c v = (u, b, x, s'))) :
    Calls Tryz.prog 36 #[.pointer (some ⟨W, 0, none⟩), hv h, .int .i64 c, val3 v] w fun r w' => r = .returned (.tuple #[val3 u, .bool b, .int .i64 x]) ∧ St w0 (WoB W E A R X Q n s' :: L) w' := by
  obtain ⟨f, HM⟩ : ∃ z, Hid (s.may h = z) := ⟨_, rfl⟩
  by_cases h0 : f = 0
  · subst h0
    obtain ⟨⟨u2, b2, x2, e2⟩, HI⟩ : ∃ z, Hid (s.e.ins h c v = z) := ⟨_, rfl⟩
    have h1 := HV.out
    rw [WoS.ins_ok HM.out HI.out] at h1
    cases h1
    have ht : Hid (s.e.top = e2.top) := by have := EnS.ins_top (s := s.e) (h := h) (c := c) (v := v); rw [HI.out] at this; exact this.symm
    have HEV := Lib.hid hev
    obtain ⟨i, g⟩ := h
    clear HV hev
    go_enter Tryz.func36, Tryz.ntmps36
    go_upto_region 4 with
      (first
        | (refine wpl_box_v (v := hv (i, g)) rfl hs ?_; clear hs; intro g5 w hs; replace hs : St w0 (blk g5 (h2 (i, g)).toArray 39 :: _) w := hs)
        | (refine wpl_box_v (v := val3 v) rfl hs ?_; clear hs; intro g7 w hs; replace hs : St w0 (blk g7 (YtcnbmfaicbkhcaaGreatDoor.c3 v).toArray 41 :: _) w := hs)
        | (refine wpl_alloc zero3 hs ?_; clear hs; intro g8 w hs; replace hs : St w0 (blk g8 (YtcnbmfaicbkhcaaGreatDoor.c3 V3.z).toArray 41 :: _) w := hs)
        | (refine wpl_load_agg (cs := h2 (i, g)) (b := g5) (o := 0) rfl aggH (sizeHd _) hs ?hh ?_; case hh => exact fun j x hx => ((Rd.blk (by simpa using hx)).tail).tail)
        | (go_at_call 100; refine (womay_c (h := (i, g)) hs.up3 HM).mono ?_; rintro r w' ⟨rfl, hg⟩; replace hs := hs.grew hg; clear hg)
        | (refine wpl_buildS build3 rfl ?_)
        | (refine wpl_store_agg (v := val3 V3.z) rfl rfl (size3 _) hs WrA.slot3 ?_; clear hs; intro w hs))
    replace hs : St w0 (blk W (woC E X Q s.held n s.e.top) 151 :: blk g5 (h2 (i, g)).toArray 39 :: blk g7 (YtcnbmfaicbkhcaaGreatDoor.c3 v).toArray 41 :: EnB E A R s.e :: blk g8 (YtcnbmfaicbkhcaaGreatDoor.c3 V3.z).toArray 41 :: ReB X s.r :: QuB Q s.q :: L) _ := (hs.up3.woopen).ent (by (repeat first | exact Ent.refl _ | refine Ent.step (by repeat first | exact Ent.refl _ | apply Ent.skip) ?_))
    refine wp_mix 2 [0, 1, 2, 3, 4, 5, 6, 7] [8, 9, 10, 11, 12, 13, 14] hs.only3 (by kernel_rfl) (by kernel_rfl) fun hne => ?_
    have r0 := (show Rd w0 [blk W (woC E X Q s.held n s.e.top) 151, blk g5 (h2 (i, g)).toArray 39, blk g7 (YtcnbmfaicbkhcaaGreatDoor.c3 v).toArray 41] ⟨W, 0, none⟩ (.pointer (some ⟨E, 0, none⟩)) from Rd.blk (by rfl)).alln
    have r1 := (show Rd w0 [blk W (woC E X Q s.held n s.e.top) 151, blk g5 (h2 (i, g)).toArray 39, blk g7 (YtcnbmfaicbkhcaaGreatDoor.c3 v).toArray 41] ⟨g5, 0, none⟩ (.int .i64 i) from (Rd.blk rfl).tail).alln
    have r2 := (show Rd w0 [blk W (woC E X Q s.held n s.e.top) 151, blk g5 (h2 (i, g)).toArray 39, blk g7 (YtcnbmfaicbkhcaaGreatDoor.c3 v).toArray 41] ⟨g5, 1, none⟩ (.int .i64 g) from (Rd.blk rfl).tail).alln
    have r3 := (show Rd w0 [blk W (woC E X Q s.held n s.e.top) 151, blk g5 (h2 (i, g)).toArray 39, blk g7 (YtcnbmfaicbkhcaaGreatDoor.c3 v).toArray 41] ⟨g7, 0, none⟩ (.int .i64 v.k) from ((Rd.blk rfl).tail).tail).alln
    have r4 := (show Rd w0 [blk W (woC E X Q s.held n s.e.top) 151, blk g5 (h2 (i, g)).toArray 39, blk g7 (YtcnbmfaicbkhcaaGreatDoor.c3 v).toArray 41] ⟨g7, 1, none⟩ (.int .i64 v.a) from ((Rd.blk rfl).tail).tail).alln
    have r5 := (show Rd w0 [blk W (woC E X Q s.held n s.e.top) 151, blk g5 (h2 (i, g)).toArray 39, blk g7 (YtcnbmfaicbkhcaaGreatDoor.c3 v).toArray 41] ⟨g7, 2, none⟩ (.int .i64 v.b) from ((Rd.blk rfl).tail).tail).alln
    simp only [opsAt, List.getElem?_toArray, List.getElem?_cons_succ, List.getElem?_cons_zero]
    repeat (go_big_quiet_step (fail))
    refine wpQuiet_nil ?_
    clear hne r0 r1 r2 r3 r4 r5
    replace hs := hs.drew
    refine wpMix_next [8] (by kernel_rfl) (by simp) (fun c hc => ?_)
    simp only [List.mem_singleton] at hc
    subst hc
    refine ⟨_, rfl, ?_⟩
    go_wp2_with (first
      | (go_at_call 101; refine (en_ins (h := (i, g)) hs.up3 HEV.out HI).mono ?_; clear hs; rintro r w ⟨rfl, hs⟩; replace hs := hs.dn3))
    replace hs : St w0 (blk W (woC E X Q s.held n s.e.top) 151 :: blk g5 (h2 (i, g)).toArray 39 :: blk g7 (YtcnbmfaicbkhcaaGreatDoor.c3 v).toArray 41 :: EnB E A R e2 :: blk g8 (YtcnbmfaicbkhcaaGreatDoor.c3 V3.z).toArray 41 :: ReB X s.r :: QuB Q s.q :: L) w := hs.ent (by (repeat first | exact Ent.refl _ | refine Ent.step (by repeat first | exact Ent.refl _ | apply Ent.skip) ?_))
    refine mix_quiet [9, 10, 11] [12, 13, 14] hs.only3 (by kernel_rfl) (by kernel_rfl) fun hne => ?_
    simp only [opsAt, List.getElem?_toArray, List.getElem?_cons_succ, List.getElem?_cons_zero]
    repeat (go_big_quiet_step (fail))
    refine wpQuiet_nil ?_
    clear hne
    refine wpMix_next [12] (by kernel_rfl) (by simp) (fun c hc => ?_)
    simp only [List.mem_singleton] at hc
    subst hc
    refine ⟨_, rfl, ?_⟩
    refine wpl_store_agg (v := val3 u) rfl rfl (size3 _) (hs.ent (M := blk g8 (YtcnbmfaicbkhcaaGreatDoor.c3 V3.z).toArray 41 :: blk W (woC E X Q s.held n s.e.top) 151 :: blk g5 (h2 (i, g)).toArray 39 :: blk g7 (YtcnbmfaicbkhcaaGreatDoor.c3 v).toArray 41 :: EnB E A R e2 :: ReB X s.r :: QuB Q s.q :: L) (by (repeat first | exact Ent.refl _ | refine Ent.step (by repeat first | exact Ent.refl _ | apply Ent.skip) ?_))) WrA.slot3 ?_
    clear hs
    intro w hs
    replace hs : St w0 (blk W (woC E X Q s.held n s.e.top) 151 :: blk g5 (h2 (i, g)).toArray 39 :: blk g7 (YtcnbmfaicbkhcaaGreatDoor.c3 v).toArray 41 :: EnB E A R e2 :: blk g8 (YtcnbmfaicbkhcaaGreatDoor.c3 u).toArray 41 :: ReB X s.r :: QuB Q s.q :: L) w := hs.ent (by (repeat first | exact Ent.refl _ | refine Ent.step (by repeat first | exact Ent.refl _ | apply Ent.skip) ?_))
    refine wpList_nil ⟨rfl, ?_⟩
    refine mix_quiet [13, 14] [] hs.only3 (by kernel_rfl) (by kernel_rfl) fun hne => ?_
    simp only [opsAt, List.getElem?_toArray, List.getElem?_cons_succ, List.getElem?_cons_zero]
    try simp only [Act.put, List.setIfInBounds_toArray, List.set_cons_succ, List.set_cons_zero]
    repeat (go_big_quiet_step (fail))
    refine wpQuiet_nil ?_
    clear hne
    refine wpMix_end ?_
    go_wp2
    rw [ht.out] at hs
    refine bodyPost_at (results_cell_tmp2 Tryz.results36 rfl ((hs.ent (M := blk g8 (YtcnbmfaicbkhcaaGreatDoor.c3 u).toArray 41 :: blk W (woC E X Q s.held n e2.top) 151 :: blk g5 (h2 (i, g)).toArray 39 :: blk g7 (YtcnbmfaicbkhcaaGreatDoor.c3 v).toArray 41 :: EnB E A R e2 :: ReB X s.r :: QuB Q s.q :: L) (by (repeat first | exact Ent.refl _ | refine Ent.step (by repeat first | exact Ent.refl _ | apply Ent.skip) ?_))).slot_run agg3 (size3 _))) rfl ?_
    exact ⟨rfl, St.woshut (s := { s with e := e2 }) ((hs.ent (M := blk g8 (YtcnbmfaicbkhcaaGreatDoor.c3 u).toArray 41 :: blk g7 (YtcnbmfaicbkhcaaGreatDoor.c3 v).toArray 41 :: blk g5 (h2 (i, g)).toArray 39 :: blk W (woC E X Q s.held n e2.top) 151 :: EnB E A R e2 :: ReB X s.r :: QuB Q s.q :: L) (by (repeat first | exact Ent.refl _ | refine Ent.step (by repeat first | exact Ent.refl _ | apply Ent.skip) ?_))).drop.drop.drop)⟩
  · have e1 : (f == 0) = false := by simpa using h0
    have e2 : (f != 0) = true := by simpa using h0
    have h1 := HV.out
    rw [WoS.ins_bad (by rw [HM.out]; exact h0), HM.out] at h1
    cases h1
    clear HV h0 hev
    obtain ⟨i, g⟩ := h
    go_enter Tryz.func36, Tryz.ntmps36
    go_wp2_with
      (first
        | (refine wpl_box_v (v := hv (i, g)) rfl hs ?_; clear hs; intro g5 w hs; replace hs : St w0 (blk g5 (h2 (i, g)).toArray 39 :: _) w := hs)
        | (refine wpl_box_v (v := val3 v) rfl hs ?_; clear hs; intro g7 w hs; replace hs : St w0 (blk g7 (YtcnbmfaicbkhcaaGreatDoor.c3 v).toArray 41 :: _) w := hs)
        | (refine wpl_alloc zero3 hs ?_; clear hs; intro g8 w hs; replace hs : St w0 (blk g8 (YtcnbmfaicbkhcaaGreatDoor.c3 V3.z).toArray 41 :: _) w := hs)
        | (refine wpl_load_agg (cs := h2 (i, g)) (b := g5) (o := 0) rfl aggH (sizeHd _) hs ?hh ?_; case hh => exact fun j x hx => ((Rd.blk (by simpa using hx)).tail).tail)
        | (go_at_call 100; refine (womay_c (h := (i, g)) hs.up3 HM).mono ?_; rintro r w' ⟨rfl, hg⟩; replace hs := hs.grew hg; clear hg)
        | (refine wpl_buildS build3 rfl ?_)
        | (refine wpl_store_agg (v := val3 V3.z) rfl rfl (size3 _) hs WrA.slot3 ?_; clear hs; intro w hs))
    refine bodyPost_at (results_cell_tmp2 Tryz.results36 rfl (hs.slot_run agg3 (size3 _))) rfl ?_
    exact ⟨rfl, hs.drop.drop.drop⟩

set_option maxHeartbeats 4000000 in
theorem wo_del {w0 w : World} {L : List As} {W E A R X Q n : Nat} {s : WoS} (hs : St w0 (WoB W E A R X Q n s :: L) w) (hev : ∀ x ∈ s.e.l, x.2.evs.length < 4611686018427387904) {h : Hdl} {m x : Int} {s' : WoS} (HV : Hid (s.del h = (m, x, s'))) :
    Calls Tryz.prog 39 #[.pointer (some ⟨W, 0, none⟩), hv h] w fun r w' => r = .returned (.tuple #[.int .i64 m, .int .i64 x]) ∧ St w0 (WoB W E A R X Q n s' :: L) w' := by
  obtain ⟨f, HM⟩ : ∃ z, Hid (s.may h = z) := ⟨_, rfl⟩
  by_cases h0 : f = 0
  · subst h0
    obtain ⟨⟨m2, x2, e2⟩, HI⟩ : ∃ z, Hid (s.e.del h = z) := ⟨_, rfl⟩
    have h1 := HV.out
    rw [WoS.del_ok HM.out HI.out] at h1
    cases h1
    have ht : Hid (s.e.top = e2.top) := by have := EnS.del_top (s := s.e) (h := h); rw [HI.out] at this; exact this.symm
    have HEV := Lib.hid hev
    obtain ⟨i, g⟩ := h
    clear HV hev
    go_enter Tryz.func39, Tryz.ntmps39
    go_upto_region 4 with
      (first
        | (refine wpl_box_v (v := hv (i, g)) rfl hs ?_; clear hs; intro g5 w hs; replace hs : St w0 (blk g5 (h2 (i, g)).toArray 39 :: _) w := hs)
        | (refine wpl_box_v (v := val3 v) rfl hs ?_; clear hs; intro g7 w hs; replace hs : St w0 (blk g7 (YtcnbmfaicbkhcaaGreatDoor.c3 v).toArray 41 :: _) w := hs)
        | (refine wpl_alloc zero3 hs ?_; clear hs; intro g8 w hs; replace hs : St w0 (blk g8 (YtcnbmfaicbkhcaaGreatDoor.c3 V3.z).toArray 41 :: _) w := hs)
        | (refine wpl_load_agg (cs := h2 (i, g)) (b := g5) (o := 0) rfl aggH (sizeHd _) hs ?hh ?_; case hh => exact fun j x hx => Rd.blk (by simpa using hx))
        | (go_at_call 100; refine (womay_c (h := (i, g)) hs.rot HM).mono ?_; rintro r w' ⟨rfl, hg⟩; replace hs := hs.grew hg; clear hg)
        | (refine wpl_buildS build3 rfl ?_)
        | (refine wpl_store_agg (v := val3 V3.z) rfl rfl (size3 _) hs WrA.slot3 ?_; clear hs; intro w hs))
    replace hs : St w0 (blk W (woC E X Q s.held n s.e.top) 151 :: blk g5 (h2 (i, g)).toArray 39 :: EnB E A R s.e :: ReB X s.r :: QuB Q s.q :: L) _ := (hs.rot.woopen).ent (by (repeat first | exact Ent.refl _ | refine Ent.step (by repeat first | exact Ent.refl _ | apply Ent.skip) ?_))
    refine wp_mix 1 [0, 1, 2, 3, 4, 5] [6, 7, 8, 9, 10] hs.only2 (by kernel_rfl) (by kernel_rfl) fun hne => ?_
    have r0 := (show Rd w0 [blk W (woC E X Q s.held n s.e.top) 151, blk g5 (h2 (i, g)).toArray 39] ⟨W, 0, none⟩ (.pointer (some ⟨E, 0, none⟩)) from Rd.blk (by rfl)).alln
    have r1 := (show Rd w0 [blk W (woC E X Q s.held n s.e.top) 151, blk g5 (h2 (i, g)).toArray 39] ⟨g5, 0, none⟩ (.int .i64 i) from (Rd.blk rfl).tail).alln
    have r2 := (show Rd w0 [blk W (woC E X Q s.held n s.e.top) 151, blk g5 (h2 (i, g)).toArray 39] ⟨g5, 1, none⟩ (.int .i64 g) from (Rd.blk rfl).tail).alln
    simp only [opsAt, List.getElem?_toArray, List.getElem?_cons_succ, List.getElem?_cons_zero]
    repeat (go_big_quiet_step (fail))
    refine wpQuiet_nil ?_
    clear hne r0 r1 r2
    replace hs := hs.drew
    refine wpMix_next [6] (by kernel_rfl) (by simp) (fun c hc => ?_)
    simp only [List.mem_singleton] at hc
    subst hc
    refine ⟨_, rfl, ?_⟩
    go_wp2_with (first
      | (go_at_call 104; refine (en_del (h := (i, g)) hs.up2 HEV.out HI).mono ?_; clear hs; rintro r w ⟨rfl, hs⟩; replace hs := hs.dn2))
    replace hs : St w0 (blk W (woC E X Q s.held n s.e.top) 151 :: blk g5 (h2 (i, g)).toArray 39 :: EnB E A R e2 :: ReB X s.r :: QuB Q s.q :: L) w := hs.ent (by (repeat first | exact Ent.refl _ | refine Ent.step (by repeat first | exact Ent.refl _ | apply Ent.skip) ?_))
    refine mix_quiet [7, 8, 9, 10] [] hs.only2 (by kernel_rfl) (by kernel_rfl) fun hne => ?_
    simp only [opsAt, List.getElem?_toArray, List.getElem?_cons_succ, List.getElem?_cons_zero]
    repeat (go_big_quiet_step (fail))
    refine wpQuiet_nil ?_
    clear hne
    refine wpMix_end ?_
    go_wp2
    go_ret2
    rw [ht.out] at hs
    exact ⟨rfl, St.woshut (s := { s with e := e2 }) ((hs.ent (M := blk g5 (h2 (i, g)).toArray 39 :: blk W (woC E X Q s.held n e2.top) 151 :: EnB E A R e2 :: ReB X s.r :: QuB Q s.q :: L) (by (repeat first | exact Ent.refl _ | refine Ent.step (by repeat first | exact Ent.refl _ | apply Ent.skip) ?_))).drop)⟩
  · have e1 : (f == 0) = false := by simpa using h0
    have e2 : (f != 0) = true := by simpa using h0
    have h1 := HV.out
    rw [WoS.del_bad (by rw [HM.out]; exact h0), HM.out] at h1
    cases h1
    clear HV h0 hev
    obtain ⟨i, g⟩ := h
    go_enter Tryz.func39, Tryz.ntmps39
    go_wp2_with
      (first
        | (refine wpl_box_v (v := hv (i, g)) rfl hs ?_; clear hs; intro g5 w hs; replace hs : St w0 (blk g5 (h2 (i, g)).toArray 39 :: _) w := hs)
        | (refine wpl_box_v (v := val3 v) rfl hs ?_; clear hs; intro g7 w hs; replace hs : St w0 (blk g7 (YtcnbmfaicbkhcaaGreatDoor.c3 v).toArray 41 :: _) w := hs)
        | (refine wpl_alloc zero3 hs ?_; clear hs; intro g8 w hs; replace hs : St w0 (blk g8 (YtcnbmfaicbkhcaaGreatDoor.c3 V3.z).toArray 41 :: _) w := hs)
        | (refine wpl_load_agg (cs := h2 (i, g)) (b := g5) (o := 0) rfl aggH (sizeHd _) hs ?hh ?_; case hh => exact fun j x hx => Rd.blk (by simpa using hx))
        | (go_at_call 100; refine (womay_c (h := (i, g)) hs.rot HM).mono ?_; rintro r w' ⟨rfl, hg⟩; replace hs := hs.grew hg; clear hg)
        | (refine wpl_buildS build3 rfl ?_)
        | (refine wpl_store_agg (v := val3 V3.z) rfl rfl (size3 _) hs WrA.slot3 ?_; clear hs; intro w hs))
    go_ret2
    exact ⟨rfl, hs.drop⟩

set_option maxHeartbeats 4000000 in
theorem wo_create {w0 w : World} {L : List As} {W E A R X Q n : Nat} {s : WoS} (hT : Tab w0) (hs : St w0 (WoB W E A R X Q n s :: L) w) {d : Hdl} {x : Int} {s' : WoS} (HV : Hid (s.create = (d, x, s'))) :
    Calls Tryz.prog 35 #[.pointer (some ⟨W, 0, none⟩)] w fun r w' => r = .returned (.tuple #[hv d, .int .i64 x]) ∧ St w0 (WoB W E A R X Q n s' :: L) w' := by
  obtain ⟨f, HM⟩ : ∃ z, Hid (s.free = z) := ⟨_, rfl⟩
  by_cases h0 : f = 0
  · subst h0
    obtain ⟨⟨d2, x2, cs2⟩, HI⟩ : ∃ z, Hid (giveV 1 s.e.cs = z) := ⟨_, rfl⟩
    have h1 := HV.out
    rw [WoS.create_ok HM.out HI.out] at h1
    cases h1
    clear HV
    go_enter Tryz.func35, Tryz.ntmps35
    go_upto_region 4 with (first
      | (refine wpl_alloc zeroH hs ?_; clear hs; intro g2 w hs; replace hs : St w0 (blk g2 (h2 (0, 0)).toArray 39 :: _) w := hs)
      | (go_at_call 98; refine (wofree_c hs.drop).mono ?_; rw [HM.out]; rintro r w' ⟨rfl, hg⟩; replace hs := hs.grew hg; clear hg))
    replace hs := hs.rot.woopen
    have kW := Rd.blk (k := 0) (v := .pointer (some ⟨E, 0, none⟩)) (by rfl) _ hs
    have k0 := Rd.en0 _ hs.drop
    replace hs : St w0 (EnB E A R s.e :: blk g2 (h2 (0, 0)).toArray 39 :: blk W (woC E X Q s.held n s.e.top) 151 :: ReB X s.r :: QuB Q s.q :: L) _ := hs.ent (by (repeat first | exact Ent.refl _ | refine Ent.step (by repeat first | exact Ent.refl _ | apply Ent.skip) ?_))
    (go_wp2_with (first
      | (go_at_call 99; refine (en_create hT hs HI).mono ?_; clear hs kW k0; rintro r w ⟨rfl, hs⟩)
      | (refine wpl_store_agg (v := hv d) rfl rfl (sizeHd _) hs.rot WrA.slotH ?_; clear hs; intro w hs)))
    refine bodyPost_at (results_cell_tmp Tryz.results35 rfl (hs.slot_run aggH (sizeHd _))) rfl ?_
    exact ⟨rfl, St.woshut (s := { s with e := ⟨s.e.top, cs2, s.e.l⟩ }) (hs.drop.ent (by (repeat first | exact Ent.refl _ | refine Ent.step (by repeat first | exact Ent.refl _ | apply Ent.skip) ?_)))⟩
  · have e1 : (f == 0) = false := by simpa using h0
    have e2 : (f != 0) = true := by simpa using h0
    have h1 := HV.out
    rw [WoS.create_bad (by rw [HM.out]; exact h0), HM.out] at h1
    cases h1
    clear HV h0
    go_enter Tryz.func35, Tryz.ntmps35
    (go_wp2_with (first
      | (refine wpl_alloc zeroH hs ?_; clear hs; intro g2 w hs; replace hs : St w0 (blk g2 (h2 (0, 0)).toArray 39 :: _) w := hs)
      | (go_at_call 98; refine (wofree_c hs.drop).mono ?_; rw [HM.out]; rintro r w' ⟨rfl, hg⟩; replace hs := hs.grew hg; clear hg)
      | (refine wpl_buildS build_h0 rfl ?_)
      | (refine wpl_store_agg (v := hv (0, 0)) rfl rfl (sizeHd _) hs WrA.slotH ?_; clear hs; intro w hs)))
    refine bodyPost_at (results_cell_tmp Tryz.results35 rfl (hs.slot_run aggH (sizeHd _))) rfl ?_
    exact ⟨rfl, hs.drop⟩

end Go.Proofs.YtcnbmfaicbkhcaaGreatDoor
