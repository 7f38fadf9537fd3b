/-
  Things with parts (ent.Ents), 5: Parts, Delete.
-/
import Derived.Test.YtcnbmfaicbkhcaaGreatDoorEn3
set_option maxRecDepth 100000
namespace Go.Proofs.YtcnbmfaicbkhcaaGreatDoor
open Go Go.RowKit
section
variable {s : EnS} {h : Hdl}
theorem EnS.del_no (h0 : s.live h ≠ 0) : s.del h = (0, s.live h, s) := by unfold EnS.del; rw [if_neg h0]
theorem EnS.del_in (h0 : s.live h = 0) : s.del h = ((((ofN s.l h.1 s.l.length).length : Nat) : Int), 0, ⟨s.top, (delA s.top s.cs h).2, strL s.l h.1⟩) := by unfold EnS.del; rw [if_pos h0]
end
attribute [local irreducible] wpList Calls Code.wp okI okN pS tS memS getG pG insS delS getV pV tV okVal newSl SlS.put SlS.err SlS.putU SlS.putB descE SlS.take SlS.set SlS.errSet SlS.get SlS.has stV EnS.live EnS.get EnS.slot EnS.ins EnS.set EnS.rem EnS.parts EnS.del ofN strL delA
set_option maxHeartbeats 4000000 in
theorem en_del {w0 w : World} {L : List As} {E A R : Nat} {s : EnS} (hs : St w0 (EnB E A R s :: L) w) (hev : ∀ x ∈ s.l, x.2.evs.length < 4611686018427387904) {h : Hdl} {n e : Int} {s' : EnS} (HV : Hid (s.del h = (n, e, s'))) :
    Calls Tryz.prog 104 #[.pointer (some ⟨E, 0, none⟩), hv h] w fun r w' => r = .returned (.tuple #[.int .i64 n, .int .i64 e]) ∧ St w0 (EnB E A R s' :: L) w' := by
  obtain ⟨f, HL⟩ : ∃ z, Hid (s.live h = z) := ⟨_, rfl⟩
  have hfew := en_few hs
  obtain ⟨i, g⟩ := h
  by_cases h0 : f = 0
  · subst h0
    have HW : (Lit.int .i64 i).wf = true := EnS.live_wf HL.out hfew
    have h1 := HV.out
    rw [EnS.del_in HL.out] at h1
    obtain ⟨⟨x, c⟩, HD⟩ : ∃ z, Hid (delA s.top s.cs (i, g) = z) := ⟨_, rfl⟩
    obtain ⟨m, HM⟩ : ∃ z, Hid ((ofN s.l i s.l.length).length = z) := ⟨_, rfl⟩
    obtain ⟨l', HL'⟩ : ∃ z, Hid (strL s.l i = z) := ⟨_, rfl⟩
    rw [HD.out] at h1
    simp only at h1
    rw [HM.out, HL'.out] at h1
    cases h1
    have HEV := Lib.hid hev
    clear HV hfew hev
    go_enter Tryz.func104, Tryz.ntmps104
    go_upto_region 4 with (first
      | (refine wpl_box_v (v := hv (i, g)) rfl hs ?_; clear hs; intro g3 w hs; replace hs : St w0 (blk g3 (h2 (i, g)).toArray 39 :: _) w := hs)
      | (refine wpl_load_agg (cs := h2 (i, g)) (b := g3) (o := 0) rfl aggH (sizeHd _) hs ?hh ?_; case hh => exact fun j x hx => (Rd.blk (by simpa using hx)))
      | (go_at_call 173; refine (en_live (h := (i, g)) hs.drop HL).mono ?_; rintro r w' ⟨rfl, hg⟩; replace hs := hs.grew hg; clear hg))
    replace hs : St w0 (blk E (enC A R) 158 :: blk g3 (h2 (i, g)).toArray 39 :: RgB R s.l :: AlB A s.top s.cs :: L) _ := (hs.rot.enopen).ent (by (repeat first | exact Ent.refl _ | refine Ent.step (by repeat first | exact Ent.refl _ | apply Ent.skip) ?_))
    have r0 := ((Rd.blk (w0 := w0) (g := E) (k := 0) (cs := enC A R) (v := .pointer (some ⟨A, 0, none⟩)) (t := 158) (L := [blk g3 (h2 (i, g)).toArray 39]) (by rfl))).alln
    have r1 := ((Rd.blk (w0 := w0) (g := E) (k := 1) (cs := enC A R) (v := .pointer (some ⟨R, 0, none⟩)) (t := 158) (L := [blk g3 (h2 (i, g)).toArray 39]) (by rfl))).alln
    have r2 := ((Rd.blk (w0 := w0) (g := g3) (k := 0) (cs := (h2 (i, g)).toArray) (v := .int .i64 i) (t := 39) (L := []) (by rfl)).tail (p := blk E (enC A R) 158)).alln
    have r3 := ((Rd.blk (w0 := w0) (g := g3) (k := 1) (cs := (h2 (i, g)).toArray) (v := .int .i64 g) (t := 39) (L := []) (by rfl)).tail (p := blk E (enC A R) 158)).alln
    refine wp_region_plain [false, false, false, false, false, false, false, true, true] hs.only2 (by kernel_rfl) (by kernel_rfl) fun hne => ?_
    simp only [pickOps]
    repeat (go_big_quiet_step (fail))
    refine wpQuiet_nil ?_
    clear hne
    simp only [chainIx]
    replace hs := hs.drew
    refine wpChainP_next rfl ?_
    (go_wp2_with (first
      | (go_at_call 197; refine (rg_strip hs.up2 HW HEV.out HM HL').mono ?_; clear hs; rintro r w ⟨rfl, hs⟩; replace hs := hs.dn2)))
    refine ⟨hs.only2, ?_⟩
    refine wpChain_last rfl ?_
    go_upto_region 5 with (fail)
    refine wp_region_plain [false, false, false, false, false, false, true] hs.only2 (by kernel_rfl) (by kernel_rfl) fun hne => ?_
    simp only [pickOps]
    repeat (go_big_quiet_step (fail))
    refine wpQuiet_nil ?_
    clear hne r0 r1 r2 r3
    simp only [chainIx]
    replace hs := hs.drew
    refine wpChain_last rfl ?_
    (go_wp2_with (first
      | (go_at_call 198; refine (delete_c hs.up3 HD).mono ?_; clear hs; rintro r w ⟨rfl, hs⟩; replace hs := hs.dn3)))
    go_ret2
    exact ⟨rfl, St.enshut (s := ⟨s.top, c, l'⟩) (hs.ent (M := blk g3 (h2 (i, g)).toArray 39 :: AlB A s.top c :: RgB R l' :: blk E (enC A R) 158 :: L) (by (repeat first | exact Ent.refl _ | refine Ent.step (by repeat first | exact Ent.refl _ | apply Ent.skip) ?_))).drop⟩
  · have h1 := HV.out
    rw [EnS.del_no (by rw [HL.out]; exact h0), HL.out] at h1
    injection h1 with h1 h2
    injection h2 with h2 h3
    subst h1
    subst h2
    subst h3
    clear HV hfew hev
    have e1 : (f == 0) = false := by simpa using h0
    have e2 : (f != 0) = true := by simpa using h0
    clear h0
    go_enter Tryz.func104, Tryz.ntmps104
    (go_wp2_with (first
      | (refine wpl_box_v (v := hv (i, g)) rfl hs ?_; clear hs; intro g3 w hs; replace hs : St w0 (blk g3 (h2 (i, g)).toArray 39 :: _) w := hs)
      | (refine wpl_load_agg (cs := h2 (i, g)) (b := g3) (o := 0) rfl aggH (sizeHd _) hs ?hh ?_; case hh => exact fun j x hx => (Rd.blk (by simpa using hx)))
      | (go_at_call 173; refine (en_live (h := (i, g)) hs.drop HL).mono ?_; rintro r w' ⟨rfl, hg⟩; replace hs := hs.grew hg; clear hg)))
    go_ret2
    exact ⟨rfl, hs.drop⟩
end Go.Proofs.YtcnbmfaicbkhcaaGreatDoor
