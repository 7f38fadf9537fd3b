/-
  WorldStale: the walk.
-/
import Derived.Test.YtiafdlofcjbllaaGreatDoorWo13
import Derived.Test.YtiafdlofcjbllaaGreatDoorOpsB
import Derived.Test.YtiafdlofcjbllaaGreatDoorJA
set_option maxRecDepth 100000
namespace Go.Proofs.YtiafdlofcjbllaaGreatDoor
open Go Go.RowKit
structure StK (c1 c2 c3 : List ACell) : Prop where
  cr1 : giveV 1 (newA 10) = ((0, 1), 0, c1)
  cr2 : giveV 1 c1 = ((1, 1), 0, c2)
  live : ∀ l, (EnS.mk 4 c2 l).live (0, 1) = 0
  del : (delA 4 c2 (0, 1)).2 = c3
  st0 : stV c3 (0, 1) = 0
  st1 : stV c3 (1, 1) = 1
theorem stK : ∃ c1 c2 c3, StK c1 c2 c3 := ⟨(newA 10).set 0 (1, 1), ((newA 10).set 0 (1, 1)).set 1 (1, 1), (delA 4 (((newA 10).set 0 (1, 1)).set 1 (1, 1)) (0, 1)).2, by kernel_rfl, by kernel_rfl, fun l => by kernel_rfl, by kernel_rfl, by kernel_rfl, by kernel_rfl⟩
/-- What the first calls come to. -/
structure StA (s0 s1 s2 s3 : WoS) (m : Int) : Prop where
  cr1 : s0.create = ((0, 1), 0, s1)
  cr2 : s1.create = ((1, 1), 0, s2)
  ev : EvL 0 s2.e.l
  del : s2.del (0, 1) = (m, 0, s3)
  st0 : stV s3.e.cs (0, 1) = 0
  st1 : stV s3.e.cs (1, 1) = 1
  held : s3.held = false
  q : s3.q = []
  ev3 : EvL 1 s3.e.l
theorem staA {l : List Cmp} {rs : List Int} (hev : EvL 0 l) : ∃ s1 s2 s3 m, StA ⟨⟨4, newA 10, l⟩, [], rs, false⟩ s1 s2 s3 m := by
  obtain ⟨c1, c2, c3, h⟩ := stK
  have hd : (EnS.mk 4 c2 l).del (0, 1) = ((((ofN l 0 l.length).length : Nat) : Int), (0 : Int), (⟨4, c3, strL l 0⟩ : EnS)) := by
    unfold EnS.del
    rw [if_pos (h.live l)]
    show (_, _, EnS.mk 4 (delA 4 c2 (0, 1)).2 _) = _
    rw [h.del]
  refine ⟨⟨⟨4, c1, l⟩, [], rs, false⟩, ⟨⟨4, c2, l⟩, [], rs, false⟩, ⟨⟨4, c3, strL l 0⟩, [], rs, false⟩, _, ⟨WoS.create_ok rfl h.cr1, WoS.create_ok rfl h.cr2, hev, WoS.del_ok ?_ hd, h.st0, h.st1, rfl, rfl, hev.strip 0⟩⟩
  have h2 : (EnS.mk 4 c2 l).live (0, 1) ≠ 4 := by rw [h.live l]; decide
  exact WoS.may_not4 h2
/-- What a stale handle is told. -/
structure StS (t : WoS) : Prop where
  get : ∀ c, t.get (0, 1) c = (V3.z, 4)
  rem : ∀ c, t.rem (0, 1) c = (V3.z, 4, t)
  ins : ∀ c v, t.ins (0, 1) c v = (V3.z, false, 4, t)
  set : ∀ c v, t.set (0, 1) c v = (4, t)
  del : t.del (0, 1) = (0, 4, t)
  d1 : t.defer [⟨1, (1, 1), 0, V3.z⟩, ⟨1, (0, 1), 0, V3.z⟩] = (4, t)
  d2 : ∀ c : Int, 0 ≤ c → t.defer [⟨3, (0, 1), c, V3.z⟩] = (4, t)
theorem stS {t : WoS} (h : stV t.e.cs (0, 1) = 0) : StS t := by
  have hm : t.may (0, 1) = 4 := by unfold WoS.may; rw [if_pos h]
  have hl : t.e.live (0, 1) = 4 := by unfold EnS.live; rw [if_pos h]
  have hn : t.e.live (0, 1) ≠ 0 := by rw [hl]; decide
  have h0 : t.may (0, 1) ≠ 0 := by rw [hm]; decide
  refine ⟨fun c => ?_, fun c => ?_, fun c v => ?_, fun c v => ?_, ?_, ?_, fun c hc => ?_⟩
  · unfold WoS.get; rw [EnS.get_no hn, hl]
  · rw [WoS.rem_bad h0, hm]
  · rw [WoS.ins_bad h0, hm]
  · rw [WoS.set_ok (EnS.set_no hn), hl]
  · rw [WoS.del_bad h0, hm]
  · exact WoS.defer_bad (WoS.defE_4 (by rfl) (by simp [h])) (by decide)
  · refine WoS.defer_bad (WoS.defE_4 ?_ (by simp [h])) (by decide)
    simp [OpW.ok, hc, V3.z]
attribute [local irreducible] wpList Calls Code.wp okI okN pS tS memS getG pG insS delS getV pV tV okVal newSl SlS.put SlS.err SlS.putU SlS.putB descE SlS.take SlS.set SlS.errSet SlS.get SlS.has stV EnS.live EnS.get EnS.slot EnS.ins EnS.set EnS.rem EnS.parts EnS.del ofN strL delA newA giveV cs3 errDs descsL mkV WoS.give WoS.defer WoS.maint WoS.get WoS.set WoS.ins WoS.rem WoS.del WoS.create i8v
theorem build_op1 (k i g : Int) (w : World) : (Instr.build 99 #[(0, .int .i64 k), (1, hv (i, g))]).run Tryz.prog w = .ok (valW ⟨k, (i, g), 0, V3.z⟩) w := by kernel_rfl
theorem build_op3 (k i g c : Int) (w : World) : (Instr.build 99 #[(0, .int .i64 k), (1, hv (i, g)), (2, .int .i64 c)]).run Tryz.prog w = .ok (valW ⟨k, (i, g), c, V3.z⟩) w := by kernel_rfl
set_option maxHeartbeats 16000000 in
theorem wostale_c {w0 : World} (hT : Tab w0) {va : Value} {za : List Int} (hva : IntArg w0 va za) (c : Int) (v : V3) (held : Bool) :
    Calls Tryz.prog 8 #[va, .int .i64 c, val3 v, .bool held] w0 (LawPost w0) := by
  obtain ⟨A0, na, ca, rfl, hna, hnc, hcm, hra, -⟩ := hva
  unfold maxLen at hcm
  have HNA := Lib.hid hna
  have hnb : na ≤ 9223372036854775807 := by omega
  clear hna hnc hcm
  have hs := St.start w0
  obtain ⟨ds, hds⟩ : ∃ z, Hid (descsL za = z) := ⟨_, rfl⟩
  have hl8 : ds.length ≤ 8 := by rw [← hds.out]; exact descsL_len za
  have HER : Hid (errDs 0 ds = 0) := errDs_ok (by rw [← hds.out]; exact descsL_ok za) (by omega)
  go_enter Tryz.func8, Tryz.ntmps8
  go_upto_region 2 with (first
    | (refine wpl_box_v (v := val3 v) rfl hs ?_; clear hs; intro g6 w hs; replace hs : St w0 [blk g6 (c3 v).toArray 38] w := hs)
    | (go_at_call 58; refine (config_c (N := 10) (q3 := 3) hs HNA hnb hra hds (by rw [Hid]; rfl) (by rw [Hid]; rfl)).mono ?_; clear hs; rintro r w ⟨B, m, cB, G, hm, rfl, hs⟩; have hm8 : m ≤ 8 := hm.out ▸ hl8)
    | (go_at_call 47; refine (wo_new (n := 10) (top := 4) hs (by decide) (by decide) (by decide) (by decide) hm (by omega) (RdS.own hs) HER (B := some ⟨G, 0, none⟩) (fun h => nomatch h) (k := 2) (rs := [3, -7]) rfl (by decide) (by decide) RdS.blk.tail).mono ?_; clear hs; rintro r w ⟨W, E, A, R, X, Q, l, HNL, rfl, hs⟩))
  obtain ⟨s1, s2, s3, mm, HA⟩ := staA (rs := [3, -7]) HNL.out.pt.ev
  have HA := Lib.hid HA
  obtain ⟨s0, HS0⟩ : ∃ z, Hid ((⟨⟨4, newA 10, l⟩, [], [3, -7], false⟩ : WoS) = z) := ⟨_, rfl⟩
  rw [HS0.out] at hs HA
  clear HNL HER hl8 hm8 hds hra HNA
  go_upto_region 5 with (first
    | (go_at_call 52; refine (wo_create hT hs (Lib.hid HA.out.cr1)).mono ?_; clear hs; rintro r w ⟨rfl, hs⟩)
    | (refine wpl_alloc zeroH hs ?_; clear hs; intro g11 w hs)
    | (refine wpl_store_agg (v := hv (0, 1)) rfl rfl (by rw [sizeHd]; rfl) hs WrA.slotH ?_; clear hs; intro w hs))
  go_upto_region 6 with (first
    | (go_at_call 52; refine (wo_create hT hs.rot (Lib.hid HA.out.cr2)).mono ?_; clear hs; rintro r w ⟨rfl, hs⟩)
    | (refine wpl_alloc zeroH hs ?_; clear hs; intro g13 w hs)
    | (refine wpl_store_agg (v := hv (1, 1)) rfl rfl (by rw [sizeHd]; rfl) hs WrA.slotH ?_; clear hs; intro w hs))
  replace hs : St w0 [WoB W E A R X Q 10 s2, blk g11 (h2 (0, 1)).toArray 40, blk g13 (h2 (1, 1)).toArray 40, blk g6 (c3 v).toArray 38] w :=
    (hs.ent (M := own B m cB 97 3 (cs3 ds) :: blk G (i8v [3, -7]).toArray 2 :: [WoB W E A R X Q 10 s2, blk g11 (h2 (0, 1)).toArray 40, blk g13 (h2 (1, 1)).toArray 40, blk g6 (c3 v).toArray 38]) (by (repeat first | exact Ent.refl _ | refine Ent.step (by repeat first | exact Ent.refl _ | apply Ent.skip) ?_))).drop.drop
  have HEV2 := Lib.hid (HA.out.ev.lt (by decide))
  go_upto_region 9 with (first
    | (refine wpl_load_agg (cs := h2 (0, 1)) (b := g11) (o := 0) rfl aggH (sizeHd _) hs ?hh ?_; case hh => exact fun j x hx => (Rd.blk (by simpa using hx)).tail)
    | (go_at_call 61; refine (wo_del (h := (0, 1)) hs HEV2.out (Lib.hid HA.out.del)).mono ?_; clear hs; rintro r w ⟨rfl, hs⟩))
  cases held
  · obtain ⟨t, HTD⟩ : ∃ z, Hid (s3 = z) := ⟨_, rfl⟩
    have HT0 : Hid (stV t.e.cs (0, 1) = 0) := by rw [← HTD.out]; exact HA.out.st0
    have HT1 : Hid (stV t.e.cs (1, 1) = 1) := by rw [← HTD.out]; exact HA.out.st1
    have HE1 : Hid (EvL 1 t.e.l) := by rw [← HTD.out]; exact HA.out.ev3
    have HTQ : Hid (t.q.length ≤ 10000) := by rw [Hid, ← HTD.out, HA.out.q]; decide
    have HTL : Hid (t.q.length = 0) := by rw [Hid, ← HTD.out, HA.out.q]; rfl
    rw [HTD.out] at hs
    clear HA HS0 HTD HEV2
    have HEV : Hid (∀ x ∈ t.e.l, x.2.evs.length < 4611686018427387904) := HE1.out.lt (by decide)
    have HS := Lib.hid (stS HT0.out)
    go_upto_region 12 with (first
      | (refine wpl_load_agg (cs := h2 (0, 1)) (b := g11) (o := 0) rfl aggH (sizeHd _) hs ?hh ?_; case hh => exact fun j x hx => (Rd.blk (by simpa using hx)).tail)
      | (go_at_call 61; refine (wo_del (h := (0, 1)) hs HEV.out (Lib.hid HS.out.del)).mono ?_; clear hs; rintro r w ⟨rfl, hs⟩))
    go_upto_region 13 with (first
      | (refine wpl_load_agg (cs := h2 (0, 1)) (b := g11) (o := 0) rfl aggH (sizeHd _) hs ?hh ?_; case hh => exact fun j x hx => (Rd.blk (by simpa using hx)).tail)
      | (refine wpl_load3 (v := v) (g := g6) rfl (has3_tail (has3_tail (has3_tail (has3_slot (t := 38))))) agg3 size3n hs ?_)
      | (refine wpl_alloc zero3 hs ?_; clear hs; intro g19 w hs)
      | (refine wpl_store_agg (v := val3 V3.z) rfl rfl (size3 _) hs WrA.slot3 ?_; clear hs; intro w hs; replace hs := hs.drop)
      | (go_at_call 63; refine (wo_ins (h := (0, 1)) hs HEV.out (Lib.hid (HS.out.ins _ _))).mono ?_; clear hs; rintro r w ⟨rfl, hs⟩))
    go_upto_region 14 with (first
      | (refine wpl_load_agg (cs := h2 (0, 1)) (b := g11) (o := 0) rfl aggH (sizeHd _) hs ?hh ?_; case hh => exact fun j x hx => (Rd.blk (by simpa using hx)).tail)
      | (refine wpl_alloc zero3 hs ?_; clear hs; intro g22 w hs)
      | (refine wpl_store_agg (v := val3 V3.z) rfl rfl (size3 _) hs WrA.slot3 ?_; clear hs; intro w hs; replace hs := hs.drop)
      | (go_at_call 64; refine (wo_rem (h := (0, 1)) hs HEV.out (Lib.hid (HS.out.rem _))).mono ?_; clear hs; rintro r w ⟨rfl, hs⟩))
    go_upto_region 15 with (first
      | (refine wpl_load_agg (cs := h2 (0, 1)) (b := g11) (o := 0) rfl aggH (sizeHd _) hs ?hh ?_; case hh => exact fun j x hx => (Rd.blk (by simpa using hx)).tail)
      | (refine wpl_alloc zero3 hs ?_; clear hs; intro g24 w hs)
      | (refine wpl_store_agg (v := val3 V3.z) rfl rfl (size3 _) hs WrA.slot3 ?_; clear hs; intro w hs; replace hs := hs.drop)
      | (go_at_call 55; refine (wo_get (h := (0, 1)) hs (Lib.hid (HS.out.get _))).mono ?_; clear hs; rintro r w ⟨rfl, hs⟩))
    go_upto_region 16 with (first
      | (refine wpl_load_agg (cs := h2 (0, 1)) (b := g11) (o := 0) rfl aggH (sizeHd _) hs ?hh ?_; case hh => exact fun j x hx => (Rd.blk (by simpa using hx)).tail)
      | (refine wpl_load3 (v := v) (g := g6) rfl (has3_tail (has3_tail (has3_tail (has3_slot (t := 38))))) agg3 size3n hs ?_)
      | (go_at_call 65; refine (wo_set (h := (0, 1)) hs HEV.out (Lib.hid (HS.out.set _ _))).mono ?_; clear hs; rintro r w ⟨rfl, hs⟩))
    go_upto_region 17 with (first
      | (refine wpl_load_agg (cs := h2 (0, 1)) (b := g11) (o := 0) rfl aggH (sizeHd _) hs ?hh ?_; case hh => exact fun j x hx => (Rd.blk (by simpa using hx)).tail)
      | (refine wpl_load_agg (cs := h2 (1, 1)) (b := g13) (o := 0) rfl aggH (sizeHd _) hs ?hh ?_; case hh => exact fun j x hx => (Rd.blk (by simpa using hx)).tail.tail)
      | (refine wpl_buildS (build_op1 1 1 1) rfl ?_)
      | (refine wpl_buildS (build_op1 1 0 1) rfl ?_)
      | (refine wpl_buildRun (build_ops2 ⟨1, (1, 1), 0, V3.z⟩ ⟨1, (0, 1), 0, V3.z⟩) rfl hs ?_; clear hs; intro G2 w hs; replace hs : St w0 (WoB W E A R X Q 10 t :: blk g11 (h2 (0, 1)).toArray 40 :: blk g13 (h2 (1, 1)).toArray 40 :: blk G2 (c7w ⟨1, (1, 1), 0, V3.z⟩ ++ c7w ⟨1, (0, 1), 0, V3.z⟩).toArray 99 :: _) w := hs.ent (by (repeat first | exact Ent.refl _ | refine Ent.step (by repeat first | exact Ent.refl _ | apply Ent.skip) ?_)))
      | (go_at_call 53; refine (wo_defer (l := [⟨1, (1, 1), 0, V3.z⟩, ⟨1, (0, 1), 0, V3.z⟩]) HTQ.out (by decide) hs (by rw [c7_two]; exact RdS.blk.tail.tail) (Lib.hid HS.out.d1)).mono ?_; clear hs; rintro r w ⟨rfl, hs⟩))
    go_upto_region 18 with (first
      | (refine wpl_load_agg (cs := h2 (0, 1)) (b := g11) (o := 0) rfl aggH (sizeHd _) hs ?hh ?_; case hh => exact fun j x hx => (Rd.blk (by simpa using hx)).tail)
      | (refine wpl_buildS (build_op3 3 0 1 _) rfl ?_)
      | (refine wpl_build1 (v := valW ⟨3, (0, 1), max c 0, V3.z⟩) elemW (by decide) rfl rfl hs ?_; clear hs; intro G3 w hs; replace hs : St w0 (WoB W E A R X Q 10 t :: blk g13 (h2 (1, 1)).toArray 40 :: blk G3 (c7w ⟨3, (0, 1), max c 0, V3.z⟩).toArray 99 :: _) w := hs.ent (by (repeat first | exact Ent.refl _ | refine Ent.step (by repeat first | exact Ent.refl _ | apply Ent.skip) ?_)))
      | (go_at_call 53; refine (wo_defer (l := [⟨3, (0, 1), max c 0, V3.z⟩]) HTQ.out (show 1 ≤ 1000000 by decide) hs (by rw [c7_single]; exact RdS.blk.tail) (Lib.hid (HS.out.d2 _ (Int.le_max_right _ _)))).mono ?_; clear hs; rintro r w ⟨rfl, hs⟩))
    go_upto_region 19 with (fail)
    simp only [List.append_eq, List.cons_append, List.nil_append]
    have n0 : World.cell? _ ⟨g13, 0, none⟩ = some (.int .i64 1) := Rd.blk (by rfl) _ hs.drop
    have n1 : World.cell? _ ⟨g13, 1, none⟩ = some (.int .i64 1) := Rd.blk (by rfl) _ hs.drop
    refine wp_region_grow (by kernel_rfl) (by kernel_rfl) fun hne => ?_
    have f0 := fun p : GW _ => p.grew.cell n0
    have f1 := fun p : GW _ => p.grew.cell n1
    repeat (go_big_quiet_step (first
      | (go_at_call 56; exact in_gsame (wo_queue (hs.grew (GW.grew _))))
      | (go_at_call 57; exact in_grew (wo_qlen (hs.grew (GW.grew _)) HTL))
      | (go_at_call 66; exact in_gsame (wo_ents (hs.grew (GW.grew _))))
      | (go_at_call 39; exact in_gsame (wo_alloc (hs.grew (GW.grew _))))
      | (go_at_call 41; exact in_grew (wo_state (h := (1, 1)) (hs.grew (GW.grew _)) HT1))
      | (go_at_call 46; exact in_grew (awake16 (hT.grew (hs.grew (GW.grew _)).below)))))
    refine wpQuiet_nil ?_
    clear hne f0 f1 n0 n1
    intro u hu
    replace hs := hs.grew hu
    clear hu
    go_wp2
    go_ret
    exact ⟨rfl, St.front (L := []) hs⟩
  · have HF : Hid (s3.free = 0) := WoS.free_free HA.out.held
    have HH := Lib.hid (wohold_c hs)
    obtain ⟨t, HTD⟩ : ∃ z, Hid (({ s3 with held := true } : WoS) = z) := ⟨_, rfl⟩
    rw [HTD.out, HF.out] at HH
    have HT0 : Hid (stV t.e.cs (0, 1) = 0) := by rw [← HTD.out]; exact HA.out.st0
    have HT1 : Hid (stV t.e.cs (1, 1) = 1) := by rw [← HTD.out]; exact HA.out.st1
    have HE1 : Hid (EvL 1 t.e.l) := by rw [← HTD.out]; exact HA.out.ev3
    have HTQ : Hid (t.q.length ≤ 10000) := by rw [Hid, ← HTD.out]; show s3.q.length ≤ 10000; rw [HA.out.q]; decide
    have HTL : Hid (t.q.length = 0) := by rw [Hid, ← HTD.out]; show s3.q.length = 0; rw [HA.out.q]; rfl
    clear HA HS0 HTD HEV2
    go_upto_region 11 with (first
      | (go_at_call 62; refine HH.out.mono ?_; clear hs; rintro r w ⟨rfl, hs⟩))
    have HEV : Hid (∀ x ∈ t.e.l, x.2.evs.length < 4611686018427387904) := HE1.out.lt (by decide)
    have HS := Lib.hid (stS HT0.out)
    go_upto_region 12 with (first
      | (refine wpl_load_agg (cs := h2 (0, 1)) (b := g11) (o := 0) rfl aggH (sizeHd _) hs ?hh ?_; case hh => exact fun j x hx => (Rd.blk (by simpa using hx)).tail)
      | (go_at_call 61; refine (wo_del (h := (0, 1)) hs HEV.out (Lib.hid HS.out.del)).mono ?_; clear hs; rintro r w ⟨rfl, hs⟩))
    go_upto_region 13 with (first
      | (refine wpl_load_agg (cs := h2 (0, 1)) (b := g11) (o := 0) rfl aggH (sizeHd _) hs ?hh ?_; case hh => exact fun j x hx => (Rd.blk (by simpa using hx)).tail)
      | (refine wpl_load3 (v := v) (g := g6) rfl (has3_tail (has3_tail (has3_tail (has3_slot (t := 38))))) agg3 size3n hs ?_)
      | (refine wpl_alloc zero3 hs ?_; clear hs; intro g19 w hs)
      | (refine wpl_store_agg (v := val3 V3.z) rfl rfl (size3 _) hs WrA.slot3 ?_; clear hs; intro w hs; replace hs := hs.drop)
      | (go_at_call 63; refine (wo_ins (h := (0, 1)) hs HEV.out (Lib.hid (HS.out.ins _ _))).mono ?_; clear hs; rintro r w ⟨rfl, hs⟩))
    go_upto_region 14 with (first
      | (refine wpl_load_agg (cs := h2 (0, 1)) (b := g11) (o := 0) rfl aggH (sizeHd _) hs ?hh ?_; case hh => exact fun j x hx => (Rd.blk (by simpa using hx)).tail)
      | (refine wpl_alloc zero3 hs ?_; clear hs; intro g22 w hs)
      | (refine wpl_store_agg (v := val3 V3.z) rfl rfl (size3 _) hs WrA.slot3 ?_; clear hs; intro w hs; replace hs := hs.drop)
      | (go_at_call 64; refine (wo_rem (h := (0, 1)) hs HEV.out (Lib.hid (HS.out.rem _))).mono ?_; clear hs; rintro r w ⟨rfl, hs⟩))
    go_upto_region 15 with (first
      | (refine wpl_load_agg (cs := h2 (0, 1)) (b := g11) (o := 0) rfl aggH (sizeHd _) hs ?hh ?_; case hh => exact fun j x hx => (Rd.blk (by simpa using hx)).tail)
      | (refine wpl_alloc zero3 hs ?_; clear hs; intro g24 w hs)
      | (refine wpl_store_agg (v := val3 V3.z) rfl rfl (size3 _) hs WrA.slot3 ?_; clear hs; intro w hs; replace hs := hs.drop)
      | (go_at_call 55; refine (wo_get (h := (0, 1)) hs (Lib.hid (HS.out.get _))).mono ?_; clear hs; rintro r w ⟨rfl, hs⟩))
    go_upto_region 16 with (first
      | (refine wpl_load_agg (cs := h2 (0, 1)) (b := g11) (o := 0) rfl aggH (sizeHd _) hs ?hh ?_; case hh => exact fun j x hx => (Rd.blk (by simpa using hx)).tail)
      | (refine wpl_load3 (v := v) (g := g6) rfl (has3_tail (has3_tail (has3_tail (has3_slot (t := 38))))) agg3 size3n hs ?_)
      | (go_at_call 65; refine (wo_set (h := (0, 1)) hs HEV.out (Lib.hid (HS.out.set _ _))).mono ?_; clear hs; rintro r w ⟨rfl, hs⟩))
    go_upto_region 17 with (first
      | (refine wpl_load_agg (cs := h2 (0, 1)) (b := g11) (o := 0) rfl aggH (sizeHd _) hs ?hh ?_; case hh => exact fun j x hx => (Rd.blk (by simpa using hx)).tail)
      | (refine wpl_load_agg (cs := h2 (1, 1)) (b := g13) (o := 0) rfl aggH (sizeHd _) hs ?hh ?_; case hh => exact fun j x hx => (Rd.blk (by simpa using hx)).tail.tail)
      | (refine wpl_buildS (build_op1 1 1 1) rfl ?_)
      | (refine wpl_buildS (build_op1 1 0 1) rfl ?_)
      | (refine wpl_buildRun (build_ops2 ⟨1, (1, 1), 0, V3.z⟩ ⟨1, (0, 1), 0, V3.z⟩) rfl hs ?_; clear hs; intro G2 w hs; replace hs : St w0 (WoB W E A R X Q 10 t :: blk g11 (h2 (0, 1)).toArray 40 :: blk g13 (h2 (1, 1)).toArray 40 :: blk G2 (c7w ⟨1, (1, 1), 0, V3.z⟩ ++ c7w ⟨1, (0, 1), 0, V3.z⟩).toArray 99 :: _) w := hs.ent (by (repeat first | exact Ent.refl _ | refine Ent.step (by repeat first | exact Ent.refl _ | apply Ent.skip) ?_)))
      | (go_at_call 53; refine (wo_defer (l := [⟨1, (1, 1), 0, V3.z⟩, ⟨1, (0, 1), 0, V3.z⟩]) HTQ.out (by decide) hs (by rw [c7_two]; exact RdS.blk.tail.tail) (Lib.hid HS.out.d1)).mono ?_; clear hs; rintro r w ⟨rfl, hs⟩))
    go_upto_region 18 with (first
      | (refine wpl_load_agg (cs := h2 (0, 1)) (b := g11) (o := 0) rfl aggH (sizeHd _) hs ?hh ?_; case hh => exact fun j x hx => (Rd.blk (by simpa using hx)).tail)
      | (refine wpl_buildS (build_op3 3 0 1 _) rfl ?_)
      | (refine wpl_build1 (v := valW ⟨3, (0, 1), max c 0, V3.z⟩) elemW (by decide) rfl rfl hs ?_; clear hs; intro G3 w hs; replace hs : St w0 (WoB W E A R X Q 10 t :: blk g13 (h2 (1, 1)).toArray 40 :: blk G3 (c7w ⟨3, (0, 1), max c 0, V3.z⟩).toArray 99 :: _) w := hs.ent (by (repeat first | exact Ent.refl _ | refine Ent.step (by repeat first | exact Ent.refl _ | apply Ent.skip) ?_)))
      | (go_at_call 53; refine (wo_defer (l := [⟨3, (0, 1), max c 0, V3.z⟩]) HTQ.out (show 1 ≤ 1000000 by decide) hs (by rw [c7_single]; exact RdS.blk.tail) (Lib.hid (HS.out.d2 _ (Int.le_max_right _ _)))).mono ?_; clear hs; rintro r w ⟨rfl, hs⟩))
    go_upto_region 19 with (fail)
    simp only [List.append_eq, List.cons_append, List.nil_append]
    have n0 : World.cell? _ ⟨g13, 0, none⟩ = some (.int .i64 1) := Rd.blk (by rfl) _ hs.drop
    have n1 : World.cell? _ ⟨g13, 1, none⟩ = some (.int .i64 1) := Rd.blk (by rfl) _ hs.drop
    refine wp_region_grow (by kernel_rfl) (by kernel_rfl) fun hne => ?_
    have f0 := fun p : GW _ => p.grew.cell n0
    have f1 := fun p : GW _ => p.grew.cell n1
    repeat (go_big_quiet_step (first
      | (go_at_call 56; exact in_gsame (wo_queue (hs.grew (GW.grew _))))
      | (go_at_call 57; exact in_grew (wo_qlen (hs.grew (GW.grew _)) HTL))
      | (go_at_call 66; exact in_gsame (wo_ents (hs.grew (GW.grew _))))
      | (go_at_call 39; exact in_gsame (wo_alloc (hs.grew (GW.grew _))))
      | (go_at_call 41; exact in_grew (wo_state (h := (1, 1)) (hs.grew (GW.grew _)) HT1))
      | (go_at_call 46; exact in_grew (awake16 (hT.grew (hs.grew (GW.grew _)).below)))))
    refine wpQuiet_nil ?_
    clear hne f0 f1 n0 n1
    intro u hu
    replace hs := hs.grew hu
    clear hu
    go_wp2
    go_ret
    exact ⟨rfl, St.front (L := []) hs⟩
end Go.Proofs.YtiafdlofcjbllaaGreatDoor
