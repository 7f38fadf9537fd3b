/-
  Things with parts (ent.Ents), 2: what memory holds; live.
-/
import Derived.Test.YtcnbmfaicbkhcaaGreatDoorEnLaw
import Derived.Deep.DeepCutAuto
import Derived.Deep.CutBlock
set_option maxRecDepth 100000
namespace Go.Proofs.YtcnbmfaicbkhcaaGreatDoor
open Go Go.RowKit
def enC (A R : Nat) : Array Value := #[.pointer (some ⟨A, 0, none⟩), .pointer (some ⟨R, 0, none⟩)]
def EnB (E A R : Nat) (s : EnS) : As := star (blk E (enC A R) 158) (star (AlB A s.top s.cs) (RgB R s.l))
section
variable {w0 w : World} {L : List As} {E A R : Nat} {s : EnS}
theorem St.enopen (hs : St w0 (EnB E A R s :: L) w) : St w0 (AlB A s.top s.cs :: RgB R s.l :: YtcnbmfaicbkhcaaGreatDoor.blk E (enC A R) 158 :: L) w :=
  (hs.ent ((Ent.open2 fun _ h => h).trans (Ent.cons _ (Ent.open2 fun _ h => h)))).up2.up2
theorem St.enshut (hs : St w0 (AlB A s.top s.cs :: RgB R s.l :: YtcnbmfaicbkhcaaGreatDoor.blk E (enC A R) 158 :: L) w) : St w0 (EnB E A R s :: L) w :=
  (St.dn2 (St.dn2 hs)).ent ((Ent.cons _ (Ent.shut2 fun _ h => h)).trans (Ent.shut2 fun _ h => h))
theorem Rd.en0 : Rd w0 (EnB E A R s :: L) ⟨E, 0, none⟩ (.pointer (some ⟨A, 0, none⟩)) := fun w hs => Rd.blk rfl w hs.enopen.up2
theorem Rd.en1 : Rd w0 (EnB E A R s :: L) ⟨E, 1, none⟩ (.pointer (some ⟨R, 0, none⟩)) := fun w hs => Rd.blk rfl w hs.enopen.up2
theorem en_few (hs : St w0 (EnB E A R s :: L) w) : s.cs.length ≤ 65536 := (hs.enopen.alopen).1.few
end
attribute [local irreducible] wpList Calls Code.wp stV EnS.live
set_option maxHeartbeats 1000000 in
theorem en_live {w0 w : World} {L : List As} {E A R : Nat} {s : EnS} (hs : St w0 (EnB E A R s :: L) w) {h : Hdl} {e : Int} (he : Hid (s.live h = e)) :
    Calls Tryz.prog 173 #[.pointer (some ⟨E, 0, none⟩), hv h] w fun r w' => r = .returned (.int .i64 e) ∧ Grew w w' := by
  obtain ⟨i, g⟩ := h
  rcases stV_cases s.cs (i, g) with h1 | h1 | h1
  · obtain rfl : e = 4 := by rw [← he.out]; unfold EnS.live; rw [if_pos h1]
    have HS := Lib.hid h1
    clear h1
    have hw := St.start w
    go_enter Tryz.func173, Tryz.ntmps173
    go_upto_region 1 with (first
      | (refine wpl_box_v (v := hv (i, g)) rfl hw ?_; clear hw; intro g3 w1 hw; replace hw : St w [blk g3 (h2 (i, g)).toArray 39] w1 := hw))
    have hs1 := hs.grew hw.made_grew
    have hs2 := hs1.enopen
    have k0 := Rd.en0 _ hs1
    have k1 : World.cell? _ ⟨g3, 0, none⟩ = some (.int .i64 i) := Rd.blk (by rfl) _ hw
    have k2 : World.cell? _ ⟨g3, 1, none⟩ = some (.int .i64 g) := Rd.blk (by rfl) _ hw
    refine wp_region_grow (by kernel_rfl) (by kernel_rfl) fun hne => ?_
    have g0 := fun p : GW _ => p.grew.cell k0
    have g1 := fun p : GW _ => p.grew.cell k1
    have g2 := fun p : GW _ => p.grew.cell k2
    repeat (go_big_quiet_step (first
      | (go_at_call 20; exact in_grew (state_c (h := (i, g)) (hs2.grew (GW.grew _)) HS))))
    refine wpQuiet_nil ?_
    clear hne g0 g1 g2 k0 k1 k2
    intro u hu
    replace hw := hw.grew hu
    clear hu
    go_wp2
    go_ret
    exact ⟨rfl, hw.made_grew⟩
  · obtain rfl : e = 5 := by rw [← he.out]; unfold EnS.live; rw [if_neg (by rw [h1]; decide), if_pos h1]
    have HS := Lib.hid h1
    clear h1
    have hw := St.start w
    go_enter Tryz.func173, Tryz.ntmps173
    go_upto_region 1 with (first
      | (refine wpl_box_v (v := hv (i, g)) rfl hw ?_; clear hw; intro g3 w1 hw; replace hw : St w [blk g3 (h2 (i, g)).toArray 39] w1 := hw))
    have hs1 := hs.grew hw.made_grew
    have hs2 := hs1.enopen
    have k0 := Rd.en0 _ hs1
    have k1 : World.cell? _ ⟨g3, 0, none⟩ = some (.int .i64 i) := Rd.blk (by rfl) _ hw
    have k2 : World.cell? _ ⟨g3, 1, none⟩ = some (.int .i64 g) := Rd.blk (by rfl) _ hw
    refine wp_region_grow (by kernel_rfl) (by kernel_rfl) fun hne => ?_
    have g0 := fun p : GW _ => p.grew.cell k0
    have g1 := fun p : GW _ => p.grew.cell k1
    have g2 := fun p : GW _ => p.grew.cell k2
    repeat (go_big_quiet_step (first
      | (go_at_call 20; exact in_grew (state_c (h := (i, g)) (hs2.grew (GW.grew _)) HS))))
    refine wpQuiet_nil ?_
    clear hne g0 g1 g2 k0 k1 k2
    intro u hu
    replace hw := hw.grew hu
    clear hu
    go_wp2
    go_ret
    exact ⟨rfl, hw.made_grew⟩
  · obtain rfl : e = 0 := by rw [← he.out]; exact EnS.live_zero.2 h1
    have HS := Lib.hid h1
    clear h1
    have hw := St.start w
    go_enter Tryz.func173, Tryz.ntmps173
    go_upto_region 1 with (first
      | (refine wpl_box_v (v := hv (i, g)) rfl hw ?_; clear hw; intro g3 w1 hw; replace hw : St w [blk g3 (h2 (i, g)).toArray 39] w1 := hw))
    have hs1 := hs.grew hw.made_grew
    have hs2 := hs1.enopen
    have k0 := Rd.en0 _ hs1
    have k1 : World.cell? _ ⟨g3, 0, none⟩ = some (.int .i64 i) := Rd.blk (by rfl) _ hw
    have k2 : World.cell? _ ⟨g3, 1, none⟩ = some (.int .i64 g) := Rd.blk (by rfl) _ hw
    refine wp_region_grow (by kernel_rfl) (by kernel_rfl) fun hne => ?_
    have g0 := fun p : GW _ => p.grew.cell k0
    have g1 := fun p : GW _ => p.grew.cell k1
    have g2 := fun p : GW _ => p.grew.cell k2
    repeat (go_big_quiet_step (first
      | (go_at_call 20; exact in_grew (state_c (h := (i, g)) (hs2.grew (GW.grew _)) HS))))
    refine wpQuiet_nil ?_
    clear hne g0 g1 g2 k0 k1 k2
    intro u hu
    replace hw := hw.grew hu
    clear hu
    go_wp2
    go_ret
    exact ⟨rfl, hw.made_grew⟩
/-! ### Create, Raise, Merge -/
section
variable {w0 w : World} {L : List As} {E A R : Nat} {s : EnS}
theorem en_create (hT : Tab w0) (hs : St w0 (EnB E A R s :: L) w) {v : Hdl} {x : Int} {c : List ACell} (HV : Hid (giveV 1 s.cs = (v, x, c))) :
    Calls Tryz.prog 99 #[.pointer (some ⟨A, 0, none⟩)] w fun e w' => e = .returned (.tuple #[hv v, .int .i64 x]) ∧ St w0 (EnB E A R ⟨s.top, c, s.l⟩ :: L) w' :=
  (create_c hT hs.enopen HV).mono fun _ _ ⟨h1, h2⟩ => ⟨h1, St.enshut (s := ⟨s.top, c, s.l⟩) h2⟩
end
end Go.Proofs.YtcnbmfaicbkhcaaGreatDoor
