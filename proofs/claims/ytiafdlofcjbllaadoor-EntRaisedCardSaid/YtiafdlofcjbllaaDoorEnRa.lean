/-
  EntRaised: the walk. (Printed by gen_enra.py.)
-/
import Derived.Test.YtiafdlofcjbllaaDoorEnLw
import Derived.Test.YtiafdlofcjbllaaDoorJA
set_option maxRecDepth 100000
namespace Go.Proofs.YtiafdlofcjbllaaDoor
open Go Go.RowKit
/-- What the handles of EntRaised come to. -/
structure RaK (c1 c2 : List ACell) : Prop where
  cr : giveV 2 (newA 4) = ((0, 1), 0, c1)
  live : ∀ l, (EnS.mk 2 c1 l).live (0, 1) = 5
  mg : mergeA c1 = c2
  one : (idxS 2 c1).length = 1
  all : allH c1 (idxS 2 c1) = [(0, 1)]
  live2 : ∀ l, (EnS.mk 2 c2 l).live (0, 1) = 0
theorem raK : ∃ c1 c2, RaK c1 c2 := ⟨(newA 4).set 0 (2, 1), (newA 4).set 0 (1, 1), by kernel_rfl, fun l => by kernel_rfl, by kernel_rfl, by kernel_rfl, by kernel_rfl, fun l => by kernel_rfl⟩
structure RaS (s : EnS) : Prop where
  get : ∀ c, s.get (0, 1) c = (V3.z, 5)
  rem : ∀ c, s.rem (0, 1) c = (V3.z, 5, s)
  ins : ∀ c v, s.ins (0, 1) c v = (V3.z, false, 5, s)
  set : ∀ c v, s.set (0, 1) c v = (5, s)
  del : s.del (0, 1) = (0, 5, s)
  parts : s.parts (0, 1) = ([], 5)
theorem raS {s : EnS} (h : s.live (0, 1) = 5) : RaS s := by
  have h0 : s.live (0, 1) ≠ 0 := by rw [h]; decide
  refine ⟨fun c => by rw [EnS.get_no h0, h], fun c => ?_, fun c v => by rw [EnS.ins_no h0, h], fun c v => by rw [EnS.set_no h0, h], by rw [EnS.del_no h0, h], by rw [EnS.parts_no h0, h]⟩
  exact EnS.rem_no (by rw [EnS.get_no h0, h]) (by decide)
theorem hsV_one (h : Hdl) : hsV [h] = h2 h := by simp [hsV]
attribute [local irreducible] wpList Calls Code.wp okI okN pS tS memS getG pG insS delS getV pV tV okVal newSl SlS.put SlS.err SlS.putU SlS.putB descE SlS.take SlS.set SlS.errSet SlS.get SlS.has stV EnS.live EnS.get EnS.slot EnS.ins EnS.set EnS.rem EnS.parts EnS.del ofN strL delA newA giveV cs3 errDs descsL mkV mergeA allH idxS hsV
set_option maxHeartbeats 8000000 in
theorem entraised_c {w0 : World} (hT : Tab w0) {va : Value} {za : List Int} (hva : IntArg w0 va za) (c : Int) (v : V3) :
    Calls Tryd.prog 6 #[va, .int .i64 c, val3 v] w0 (LawPost w0) := by
  obtain ⟨A, na, ca, rfl, hna, hnc, hcm, hra, -⟩ := hva
  unfold maxLen at hcm
  have HNA := Lib.hid hna
  have hnb : na ≤ 9223372036854775807 := by omega
  clear hna hnc hcm
  have hs := St.start w0
  obtain ⟨ds, hds⟩ : ∃ z, Hid (descsL za = z) := ⟨_, rfl⟩
  have HOK : Hid (∀ d ∈ ds, descE d = 0) := by rw [Hid, ← hds.out]; exact descsL_ok za
  have hl8 : ds.length ≤ 8 := by rw [← hds.out]; exact descsL_len za
  have HER : Hid (errDs 0 ds = 0) := errDs_ok HOK.out (by omega)
  obtain ⟨c1, c2, HK⟩ := raK
  have HK := Lib.hid HK
  go_enter Tryd.func6, Tryd.ntmps6
  go_upto_region 2 with (first
    | (refine wpl_box_v (v := val3 v) rfl hs ?_; clear hs; intro g5 w hs; replace hs : St w0 [blk g5 (c3 v).toArray 50] w := hs)
    | (go_at_call 10; refine (descs_c hs HNA hnb hra hds).mono ?_; clear hs; rintro r w ⟨B, m, cB, hm, rfl, hs⟩))
  have hm8 : m ≤ 8 := by rw [← hm.out]; exact hl8
  clear hl8 hra hnb HNA hds
  go_upto_region 5 with (first
    | (go_at_call 8; refine (en_new_ok (n := 4) (top := 2) hs (by decide) (by decide) (by decide) (by decide) hm (by omega) (RdS.own hs) HER).mono ?_; clear hs; rintro r w ⟨E, A1, R, l, HNL, rfl, hs⟩))
  have HP : Hid (PtI ds l 0) := HNL.out.pt
  clear HNL HER
  have k0 := Rd.en0 _ hs
  go_upto_region 6 with (first
    | (go_at_call 23; refine (en_raise (s := EnS.mk 2 (newA 4) l) hT hs (Lib.hid HK.out.cr)).mono ?_; clear hs k0; rintro r w ⟨rfl, hs⟩)
    | (refine wpl_alloc zeroH hs ?_; clear hs; intro g10 w hs)
    | (refine wpl_store_agg (v := hv (0, 1)) rfl rfl (by rw [sizeHd]; rfl) hs WrA.slotH ?_; clear hs; intro w hs))
  obtain ⟨s1, HS1⟩ : ∃ z, Hid (EnS.mk 2 c1 l = z) := ⟨_, rfl⟩
  have HST : Hid (RaS s1) := by rw [Hid, ← HS1.out]; exact raS (HK.out.live l)
  have HEV : Hid (∀ x ∈ s1.l, x.2.evs.length < 4611686018427387904) := by rw [Hid, ← HS1.out]; exact HP.out.ev.lt (by decide)
  replace hs : St w0 [EnB E A1 R s1, blk g10 (h2 (0, 1)).toArray 38, blk g5 (c3 v).toArray 50] w := by
    rw [← HS1.out]
    exact (hs.ent (M := own B m cB 33 3 (cs3 ds) :: EnB E A1 R (EnS.mk 2 c1 l) :: blk g10 (h2 (0, 1)).toArray 38 :: [blk g5 (c3 v).toArray 50]) (by (repeat first | exact Ent.refl _ | refine Ent.step (by first | exact Ent.refl _ | exact Ent.skip (Ent.refl _) | exact Ent.skip (Ent.skip (Ent.refl _)) | exact Ent.skip (Ent.skip (Ent.skip (Ent.refl _))) | exact Ent.skip (Ent.skip (Ent.skip (Ent.skip (Ent.refl _)))) | exact Ent.skip (Ent.skip (Ent.skip (Ent.skip (Ent.skip (Ent.refl _))))) | exact Ent.skip (Ent.skip (Ent.skip (Ent.skip (Ent.skip (Ent.skip (Ent.refl _)))))) | exact Ent.skip (Ent.skip (Ent.skip (Ent.skip (Ent.skip (Ent.skip (Ent.skip (Ent.refl _))))))) | exact Ent.skip (Ent.skip (Ent.skip (Ent.skip (Ent.skip (Ent.skip (Ent.skip (Ent.skip (Ent.refl _)))))))) | exact Ent.skip (Ent.skip (Ent.skip (Ent.skip (Ent.skip (Ent.skip (Ent.skip (Ent.skip (Ent.skip (Ent.refl _)))))))))) ?_))).drop
  go_upto_region 8 with (first
    | (refine wpl_load_agg (cs := h2 (0, 1)) (b := g10) (o := 0) rfl aggH (sizeHd _) hs ?hh ?_; case hh => exact fun j x hx => (Rd.blk (by simpa using hx)).tail)
    | (refine wpl_load3 (v := v) (g := g5) rfl (has3_tail (has3_tail (has3_slot (t := 50)))) agg3 size3n hs ?_)
    | (go_at_call 19; refine (en_del (h := (0, 1)) hs HEV.out (Lib.hid HST.out.del)).mono ?_; clear hs; rintro r w ⟨rfl, hs⟩)
    | (go_at_call 16; refine (en_ins (h := (0, 1)) hs HEV.out (Lib.hid (HST.out.ins _ _))).mono ?_; clear hs; rintro r w ⟨rfl, hs⟩)
    | (refine wpl_alloc zero3 hs ?_; clear hs; intro g14 w hs)
    | (refine wpl_store_agg (v := val3 V3.z) rfl rfl (size3 _) hs WrA.slot3 ?_; clear hs; intro w hs; replace hs := hs.drop))
  go_upto_region 9 with (first
    | (refine wpl_load_agg (cs := h2 (0, 1)) (b := g10) (o := 0) rfl aggH (sizeHd _) hs ?hh ?_; case hh => exact fun j x hx => (Rd.blk (by simpa using hx)).tail)
    | (go_at_call 12; refine (en_rem (h := (0, 1)) hs HEV.out (Lib.hid (HST.out.rem _))).mono ?_; clear hs; rintro r w ⟨rfl, hs⟩)
    | (refine wpl_alloc zero3 hs ?_; clear hs; intro g17 w hs)
    | (refine wpl_store_agg (v := val3 V3.z) rfl rfl (size3 _) hs WrA.slot3 ?_; clear hs; intro w hs; replace hs := hs.drop))
  go_upto_region 10 with (first
    | (refine wpl_load_agg (cs := h2 (0, 1)) (b := g10) (o := 0) rfl aggH (sizeHd _) hs ?hh ?_; case hh => exact fun j x hx => (Rd.blk (by simpa using hx)).tail)
    | (go_at_call 22; refine (en_get (h := (0, 1)) hs (Lib.hid (HST.out.get _))).mono ?_; clear hs; rintro r w ⟨rfl, hs⟩)
    | (refine wpl_alloc zero3 hs ?_; clear hs; intro g19 w hs)
    | (refine wpl_store_agg (v := val3 V3.z) rfl rfl (size3 _) hs WrA.slot3 ?_; clear hs; intro w hs; replace hs := hs.drop))
  go_upto_region 15 with (first
    | (refine wpl_load_agg (cs := h2 (0, 1)) (b := g10) (o := 0) rfl aggH (sizeHd _) hs ?hh ?_; case hh => exact fun j x hx => (Rd.blk (by simpa using hx)).tail)
    | (refine wpl_load3 (v := v) (g := g5) rfl (has3_tail (has3_tail (has3_slot (t := 50)))) agg3 size3n hs ?_)
    | (go_at_call 21; refine (en_set (h := (0, 1)) hs HEV.out (Lib.hid (HST.out.set _ _))).mono ?_; clear hs; rintro r w ⟨rfl, hs⟩)
    | (go_at_call 18; refine (en_parts (h := (0, 1)) hs (Lib.hid HST.out.parts)).mono ?_; clear hs; rintro r w ⟨B3, m3, cB3, hm3, rfl, hs⟩; replace hs := hs.drop))
  have HPT : Hid ((EnS.mk 2 c2 l).parts (0, 1) = ([], 0)) := by
    rw [Hid, EnS.parts_in (HK.out.live2 l)]
    show (ofN l 0 _, _) = _
    rw [ofN_none fun c => HP.out.none (Nat.zero_le _) 0]
  have H1 : Hid ((idxS 2 (EnS.mk 2 c1 l).cs).length = 1) := HK.out.one
  rw [← HS1.out] at hs
  clear HST HEV HS1 HP
  have k0 := Rd.en0 _ hs
  go_upto_region 16 with (first
    | (go_at_call 24; refine (en_merge hT hs H1).mono ?_; clear hs k0; rintro r w ⟨BM, cM, rfl, hs⟩))
  replace hs : St w0 [EnB E A1 R (EnS.mk 2 c2 l), blk g10 (h2 (0, 1)).toArray 38, own BM 1 cM 38 2 (h2 (0, 1)), blk g5 (c3 v).toArray 50] w := by
    have h1 : St w0 (own BM 1 cM 38 2 (hsV (allH c1 (idxS 2 c1))) :: EnB E A1 R (EnS.mk 2 (mergeA c1) l) :: blk g10 (h2 (0, 1)).toArray 38 :: [blk g5 (c3 v).toArray 50]) w := hs
    rw [HK.out.mg, HK.out.all, hsV_one] at h1
    exact h1.ent (by (repeat first | exact Ent.refl _ | refine Ent.step (by first | exact Ent.refl _ | exact Ent.skip (Ent.refl _) | exact Ent.skip (Ent.skip (Ent.refl _)) | exact Ent.skip (Ent.skip (Ent.skip (Ent.refl _))) | exact Ent.skip (Ent.skip (Ent.skip (Ent.skip (Ent.refl _)))) | exact Ent.skip (Ent.skip (Ent.skip (Ent.skip (Ent.skip (Ent.refl _))))) | exact Ent.skip (Ent.skip (Ent.skip (Ent.skip (Ent.skip (Ent.skip (Ent.refl _)))))) | exact Ent.skip (Ent.skip (Ent.skip (Ent.skip (Ent.skip (Ent.skip (Ent.skip (Ent.refl _))))))) | exact Ent.skip (Ent.skip (Ent.skip (Ent.skip (Ent.skip (Ent.skip (Ent.skip (Ent.skip (Ent.refl _)))))))) | exact Ent.skip (Ent.skip (Ent.skip (Ent.skip (Ent.skip (Ent.skip (Ent.skip (Ent.skip (Ent.skip (Ent.refl _)))))))))) ?_))
  clear HK H1
  go_upto_region 17 with (first
    | (refine wpl_load_agg (cs := h2 (0, 1)) (b := g10) (o := 0) rfl aggH (sizeHd _) hs ?hh ?_; case hh => exact fun j x hx => (Rd.blk (by simpa using hx)).tail)
    | (go_at_call 18; refine (en_parts (h := (0, 1)) hs HPT).mono ?_; clear hs; rintro r w ⟨B4, m4, cB4, hm4, rfl, hs⟩; replace hs := hs.drop))
  obtain rfl : m4 = 0 := hm4.out.symm
  obtain ⟨gM, rfl⟩ := hs.up2.own_at (show 0 < 1 by decide)
  have r0 : World.cell? _ ⟨g10, 0, none⟩ = some (.int .i64 0) := Rd.blk (by rfl) _ hs.drop
  have r1 : World.cell? _ ⟨g10, 1, none⟩ = some (.int .i64 1) := Rd.blk (by rfl) _ hs.drop
  have r2 : World.cell? _ ⟨gM, 0, none⟩ = some (.int .i64 0) := Rd.own (xs := h2 (0, 1)) (by rfl) _ hs.drop.drop
  have r3 : World.cell? _ ⟨gM, 1, none⟩ = some (.int .i64 1) := Rd.own (xs := h2 (0, 1)) (by rfl) _ hs.drop.drop
  refine wp_region_grow (by kernel_rfl) (by kernel_rfl) fun hne => ?_
  have q0 := fun p : GW _ => p.grew.cell r0
  have q1 := fun p : GW _ => p.grew.cell r1
  have q2 := fun p : GW _ => p.grew.cell r2
  have q3 := fun p : GW _ => p.grew.cell r3
  repeat (go_big_quiet_step (first
    | (go_at_call 7; exact in_grew (awake15 ((hT.grew hs.below).grew (GW.grew _))))))
  refine wpQuiet_nil ?_
  clear hne q0 q1 q2 q3 r0 r1 r2 r3
  intro u hu
  replace hs := hs.grew hu
  clear hu
  go_wp2
  go_ret
  exact ⟨rfl, hs.drop.drop.drop.drop⟩
end Go.Proofs.YtiafdlofcjbllaaDoor
