/-
  Things with parts (ent.Ents), 4: Insert, Set, Remove.
-/
import Derived.Test.YtcnbmfaicbkhcaaGreatDoorEn2
import Derived.Deep.DeepCutAuto
import Derived.Deep.CutBlock
set_option maxRecDepth 100000
namespace Go.Proofs.YtcnbmfaicbkhcaaGreatDoor
open Go Go.RowKit
section
variable {s : EnS} {h : Hdl} {c : Int} {v : V3}
theorem EnS.ins_no (h0 : s.live h ≠ 0) : s.ins h c v = (V3.z, false, s.live h, s) := by unfold EnS.ins; rw [if_neg h0]
theorem EnS.ins_comp (h0 : s.live h = 0) (hc : s.slot c = none) : s.ins h c v = (V3.z, false, 11, s) := by unfold EnS.ins; rw [if_pos h0, hc]
theorem EnS.ins_in (h0 : s.live h = 0) {x : Cmp} (hc : s.slot c = some x) : s.ins h c v = (x.2.putU h.1 v, x.2.putB h.1 v, x.2.err h.1 v, ⟨s.top, s.cs, s.l.set c.toNat (x.1, x.2.put h.1 v)⟩) := by unfold EnS.ins; rw [if_pos h0, hc]
end
attribute [local irreducible] wpList Calls Code.wp okI okN pS tS memS getG pG insS delS getV pV tV okVal newSl SlS.put SlS.err SlS.putU SlS.putB descE SlS.take SlS.set SlS.errSet SlS.get SlS.has stV EnS.live EnS.get EnS.slot EnS.ins EnS.set EnS.rem
set_option maxHeartbeats 4000000 in
theorem en_ins {w0 w : World} {L : List As} {E A R : Nat} {s : EnS} (hs : St w0 (EnB E A R s :: L) w) (hev : ∀ x ∈ s.l, x.2.evs.length < 4611686018427387904) {h : Hdl} {c : Int} {v u : V3} {b : Bool} {e : Int} {s' : EnS} (HV : Hid (s.ins h c v = (u, b, e, s'))) :
    Calls Tryz.prog 101 #[.pointer (some ⟨E, 0, none⟩), hv h, .int .i64 c, val3 v] w fun r w' => r = .returned (.tuple #[val3 u, .bool b, .int .i64 e]) ∧ St w0 (EnB E A R s' :: L) w' := by
  obtain ⟨f, HL⟩ : ∃ z, Hid (s.live h = z) := ⟨_, rfl⟩
  obtain ⟨i, g⟩ := h
  by_cases h0 : f = 0
  · subst h0
    cases hc : s.slot c with
    | none =>
      have hno := EnS.slot_none hc
      have h1 := HV.out
      rw [EnS.ins_comp HL.out hc] at h1
      cases h1
      clear HV hc hev
      go_enter Tryz.func101, Tryz.ntmps101
      go_upto_region 4 with (first
        | (refine wpl_box_v (v := hv (i, g)) rfl hs ?_; clear hs; intro g5 w hs; replace hs : St w0 (blk g5 (h2 (i, g)).toArray 39 :: _) w := hs)
        | (refine wpl_box_v (v := val3 v) rfl hs ?_; clear hs; intro g7 w hs)
        | (refine wpl_load_agg (cs := h2 (i, g)) (b := g5) (o := 0) rfl aggH (sizeHd _) hs ?hh ?_; case hh => exact fun j x hx => (Rd.blk (by simpa using hx)).tail.tail)
        | (go_at_call 173; refine (en_live (h := (i, g)) hs.drop.drop.drop HL).mono ?_; rintro r w' ⟨rfl, hg⟩; replace hs := hs.grew hg; clear hg)
        | (refine wpl_alloc zero3 hs ?_; clear hs; intro g8 w hs))
      have k1 := Rd.en1 _ hs.drop.drop.drop
      (go_wp2_with (first
        | (go_at_call 180; refine (rg_slot_no hs.drop.drop.drop.enopen.rot hno).mono ?_; clear k1 hno; rintro r w' ⟨rfl, rfl⟩)
        | (refine wpl_buildS build3 rfl ?_)
        | (refine wpl_store_agg (v := val3 V3.z) rfl rfl (size3 _) hs WrA.slot3 ?_; clear hs; intro w hs)))
      refine bodyPost_at (results_cell_tmp2 Tryz.results101 rfl (hs.slot_run agg3 (size3 _))) rfl ?_
      exact ⟨rfl, hs.drop.drop.drop⟩
    | some x =>
      obtain ⟨j, rfl, hj⟩ := EnS.slot_some hc
      have h1 := HV.out
      rw [EnS.ins_in HL.out hc] at h1
      have hx := hev _ (EnS.slot_mem hc)
      obtain ⟨X, t⟩ := x
      have HX := Lib.hid hj
      simp only [Int.toNat_natCast] at h1 hx
      obtain ⟨l', HL'⟩ : ∃ z, Hid (s.l.set j (X, t.put i v) = z) := ⟨_, rfl⟩
      obtain ⟨u2, HU⟩ : ∃ z, Hid (t.putU i v = z) := ⟨_, rfl⟩
      obtain ⟨b2, HB⟩ : ∃ z, Hid (t.putB i v = z) := ⟨_, rfl⟩
      obtain ⟨e2, HE⟩ : ∃ z, Hid (t.err i v = z) := ⟨_, rfl⟩
      rw [HL'.out, HU.out, HB.out, HE.out] at h1
      cases h1
      clear HV hc hj hev
      have HEV := Lib.hid hx
      clear hx
      go_enter Tryz.func101, Tryz.ntmps101
      go_upto_region 4 with (first
        | (refine wpl_box_v (v := hv (i, g)) rfl hs ?_; clear hs; intro g5 w hs; replace hs : St w0 (blk g5 (h2 (i, g)).toArray 39 :: _) w := hs)
        | (refine wpl_box_v (v := val3 v) rfl hs ?_; clear hs; intro g7 w hs)
        | (refine wpl_load_agg (cs := h2 (i, g)) (b := g5) (o := 0) rfl aggH (sizeHd _) hs ?hh ?_; case hh => exact fun j x hx => (Rd.blk (by simpa using hx)).tail.tail)
        | (go_at_call 173; refine (en_live (h := (i, g)) hs.drop.drop.drop HL).mono ?_; rintro r w' ⟨rfl, hg⟩; replace hs := hs.grew hg; clear hg)
        | (refine wpl_alloc zero3 hs ?_; clear hs; intro g8 w hs))
      have k1 := Rd.en1 _ hs.drop.drop.drop
      go_upto_region 7 with (first
        | (go_at_call 180; refine (rg_slot hs.drop.drop.drop.enopen.rot HX.out (X := X) (Lib.hid rfl)).mono ?_; clear k1; rintro r w' ⟨rfl, rfl⟩))
      replace hs : St w0 (RgB R s.l :: blk g5 (h2 (i, g)).toArray 39 :: blk g7 (c3 v).toArray 41 :: blk g8 (c3 V3.z).toArray 41 :: AlB A s.top s.cs :: blk E (enC A R) 158 :: L) _ := (hs.ent (M := EnB E A R s :: blk g5 (h2 (i, g)).toArray 39 :: blk g7 (c3 v).toArray 41 :: blk g8 (c3 V3.z).toArray 41 :: L) (by (repeat first | exact Ent.refl _ | refine Ent.step (by repeat first | exact Ent.refl _ | apply Ent.skip) ?_))).enopen.ent (by (repeat first | exact Ent.refl _ | refine Ent.step (by repeat first | exact Ent.refl _ | apply Ent.skip) ?_))
      have k2 : World.cell? _ ⟨g5, 0, none⟩ = some (.int .i64 i) := Rd.blk (by rfl) _ hs.drop
      (go_wp2_with (first
        | (refine wpl_load3 (v := v) (g := g7) rfl (has3_tail (has3_tail (has3_slot (t := 41)))) agg3 size3n hs ?_)
        | (go_at_call 181; refine (rg_put hs HX HEV.out HU HB HE HL').mono ?_; clear hs k2; rintro r w ⟨rfl, hs⟩; replace hs : St w0 (blk g8 (c3 V3.z).toArray 41 :: RgB R l' :: blk g5 (h2 (i, g)).toArray 39 :: blk g7 (c3 v).toArray 41 :: AlB A s.top s.cs :: blk E (enC A R) 158 :: L) _ := hs.ent (by (repeat first | exact Ent.refl _ | refine Ent.step (by repeat first | exact Ent.refl _ | apply Ent.skip) ?_)))
        | (refine wpl_store_agg (v := val3 u) rfl rfl (size3 _) hs WrA.slot3 ?_; clear hs; intro w hs)))
      refine bodyPost_at (results_cell_tmp2 Tryz.results101 rfl (hs.slot_run agg3 (size3 _))) rfl ?_
      exact ⟨rfl, St.enshut (s := ⟨s.top, s.cs, l'⟩) (hs.ent (M := blk g8 (c3 u).toArray 41 :: blk g5 (h2 (i, g)).toArray 39 :: blk g7 (c3 v).toArray 41 :: AlB A s.top s.cs :: RgB R l' :: blk E (enC A R) 158 :: L) (by (repeat first | exact Ent.refl _ | refine Ent.step (by repeat first | exact Ent.refl _ | apply Ent.skip) ?_))).drop.drop.drop⟩
  · have e1 : (f == 0) = false := by simpa using h0
    have e2 : (f != 0) = true := by simpa using h0
    have h1 := HV.out
    rw [EnS.ins_no (by rw [HL.out]; exact h0), HL.out] at h1
    cases h1
    clear HV h0 hev
    go_enter Tryz.func101, Tryz.ntmps101
    (go_wp2_with (first
      | (refine wpl_box_v (v := hv (i, g)) rfl hs ?_; clear hs; intro g5 w hs; replace hs : St w0 (blk g5 (h2 (i, g)).toArray 39 :: _) w := hs)
      | (refine wpl_box_v (v := val3 v) rfl hs ?_; clear hs; intro g7 w hs)
      | (refine wpl_load_agg (cs := h2 (i, g)) (b := g5) (o := 0) rfl aggH (sizeHd _) hs ?hh ?_; case hh => exact fun j x hx => (Rd.blk (by simpa using hx)).tail.tail)
      | (go_at_call 173; refine (en_live (h := (i, g)) hs.drop.drop.drop HL).mono ?_; rintro r w' ⟨rfl, hg⟩; replace hs := hs.grew hg; clear hg)
      | (refine wpl_alloc zero3 hs ?_; clear hs; intro g8 w hs)
      | (refine wpl_buildS build3 rfl ?_)
      | (refine wpl_store_agg (v := val3 V3.z) rfl rfl (size3 _) hs WrA.slot3 ?_; clear hs; intro w hs)))
    refine bodyPost_at (results_cell_tmp2 Tryz.results101 rfl (hs.slot_run agg3 (size3 _))) rfl ?_
    exact ⟨rfl, hs.drop.drop.drop⟩
end Go.Proofs.YtcnbmfaicbkhcaaGreatDoor
