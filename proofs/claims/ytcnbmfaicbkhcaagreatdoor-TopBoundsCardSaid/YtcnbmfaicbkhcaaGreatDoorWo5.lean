/-
  A world in memory (world.World): WoB; free, Held, Hold's field.
-/
import Derived.Test.YtcnbmfaicbkhcaaGreatDoorWo4
set_option maxRecDepth 100000
namespace Go.Proofs.YtcnbmfaicbkhcaaGreatDoor
open Go Go.RowKit
attribute [local irreducible] wpList Calls Code.wp
def woC (E X Q : Nat) (held : Bool) (n : Nat) (top : Int) : Array Value := #[.pointer (some ⟨E, 0, none⟩), .pointer (some ⟨X, 0, none⟩), .pointer (some ⟨Q, 0, none⟩), .bool held, .int .i64 (n : Nat), .int .i64 top]
/-- A world: its block, its things, its numbers, what waits. -/
def WoB (W E A R X Q n : Nat) (s : WoS) : As := star (blk W (woC E X Q s.held n s.e.top) 151) (star (EnB E A R s.e) (star (ReB X s.r) (QuB Q s.q)))
section
variable {w0 w : World} {L : List As} {W E A R X Q n : Nat} {s : WoS}
theorem St.woopen (hs : St w0 (WoB W E A R X Q n s :: L) w) : St w0 (YtcnbmfaicbkhcaaGreatDoor.blk W (woC E X Q s.held n s.e.top) 151 :: EnB E A R s.e :: ReB X s.r :: QuB Q s.q :: L) w :=
  hs.ent ((Ent.open2 fun _ h => h).trans (Ent.cons _ ((Ent.open2 fun _ h => h).trans (Ent.cons _ (Ent.open2 fun _ h => h)))))
theorem St.woshut (hs : St w0 (YtcnbmfaicbkhcaaGreatDoor.blk W (woC E X Q s.held n s.e.top) 151 :: EnB E A R s.e :: ReB X s.r :: QuB Q s.q :: L) w) : St w0 (WoB W E A R X Q n s :: L) w :=
  hs.ent ((Ent.cons _ ((Ent.cons _ (Ent.shut2 fun _ h => h)).trans (Ent.shut2 fun _ h => h))).trans (Ent.shut2 fun _ h => h))
theorem wofree_c (hs : St w0 (WoB W E A R X Q n s :: L) w) : Calls Tryz.prog 98 #[.pointer (some ⟨W, 0, none⟩)] w fun e w' => e = .returned (.int .i64 s.free) ∧ Grew w w' := by
  have hs := hs.woopen
  obtain ⟨b, hb⟩ : ∃ b, Hid (s.held = b) := ⟨_, rfl⟩
  have e : s.free = if b then 13 else 0 := by unfold WoS.free; rw [hb.out]
  rw [e]
  have c3 := Rd.blk (w0 := w0) (g := W) (k := 3) (cs := woC E X Q s.held n s.e.top) (t := 151) (v := .bool s.held) rfl _ hs
  rw [hb.out] at c3
  clear hs e hb
  cases b
  · go_enter Tryz.func98, Tryz.ntmps98
    go_wp2
    go_ret
    exact ⟨rfl, Grew.refl _⟩
  · go_enter Tryz.func98, Tryz.ntmps98
    go_wp2
    go_ret
    exact ⟨rfl, Grew.refl _⟩
end
attribute [local irreducible] stV EnS.live
set_option maxHeartbeats 1000000 in
theorem womay_c {w0 w : World} {L : List As} {W E A R X Q n : Nat} {s : WoS} (hs : St w0 (WoB W E A R X Q n s :: L) w) {h : Hdl} {e : Int} (he : Hid (s.may h = e)) :
    Calls Tryz.prog 100 #[.pointer (some ⟨W, 0, none⟩), hv h] w fun r w' => r = .returned (.int .i64 e) ∧ Grew w w' := by
  obtain ⟨i, g⟩ := h
  obtain ⟨f, hf⟩ : ∃ f, Hid (s.free = f) := ⟨_, rfl⟩
  rcases stV_cases s.e.cs (i, g) with h1 | h1 | h1
  · obtain rfl : e = 4 := by rw [← he.out]; unfold WoS.may; rw [if_pos h1]
    have HS := Lib.hid h1
    clear h1
    have hw := St.start w
    go_enter Tryz.func100, Tryz.ntmps100
    go_upto_region 1 with (first
      | (refine wpl_box_v (v := hv (i, g)) rfl hw ?_; clear hw; intro g3 w1 hw; replace hw : St w [blk g3 (h2 (i, g)).toArray 39] w1 := hw))
    have hs1 := hs.grew hw.made_grew
    have hs2 := hs1.woopen
    have hs3 := hs2.drop.enopen
    have kW := Rd.blk (k := 0) (v := .pointer (some ⟨E, 0, none⟩)) (by rfl) _ hs2
    have k0 := Rd.en0 _ hs2.drop
    have k1 : World.cell? _ ⟨g3, 0, none⟩ = some (.int .i64 i) := Rd.blk (by rfl) _ hw
    have k2 : World.cell? _ ⟨g3, 1, none⟩ = some (.int .i64 g) := Rd.blk (by rfl) _ hw
    refine wp_region_grow (by kernel_rfl) (by kernel_rfl) fun hne => ?_
    have gW := fun p : GW _ => p.grew.cell kW
    have g0 := fun p : GW _ => p.grew.cell k0
    have g1 := fun p : GW _ => p.grew.cell k1
    have g2 := fun p : GW _ => p.grew.cell k2
    repeat (go_big_quiet_step (first
      | (go_at_call 20; exact in_grew (state_c (h := (i, g)) (hs3.grew (GW.grew _)) HS))))
    refine wpQuiet_nil ?_
    clear hne gW g0 g1 g2 kW k0 k1 k2
    intro u hu
    replace hw := hw.grew hu
    have hs4 := hs1.grew hu
    clear hu hs2 hs3
    go_wp2
    go_ret
    exact ⟨rfl, hw.made_grew⟩
  · obtain rfl : e = f := by rw [← he.out, ← hf.out]; unfold WoS.may; rw [if_neg (by rw [h1]; decide)]
    have HS := Lib.hid h1
    clear h1
    have hw := St.start w
    go_enter Tryz.func100, Tryz.ntmps100
    go_upto_region 1 with (first
      | (refine wpl_box_v (v := hv (i, g)) rfl hw ?_; clear hw; intro g3 w1 hw; replace hw : St w [blk g3 (h2 (i, g)).toArray 39] w1 := hw))
    have hs1 := hs.grew hw.made_grew
    have hs2 := hs1.woopen
    have hs3 := hs2.drop.enopen
    have kW := Rd.blk (k := 0) (v := .pointer (some ⟨E, 0, none⟩)) (by rfl) _ hs2
    have k0 := Rd.en0 _ hs2.drop
    have k1 : World.cell? _ ⟨g3, 0, none⟩ = some (.int .i64 i) := Rd.blk (by rfl) _ hw
    have k2 : World.cell? _ ⟨g3, 1, none⟩ = some (.int .i64 g) := Rd.blk (by rfl) _ hw
    refine wp_region_grow (by kernel_rfl) (by kernel_rfl) fun hne => ?_
    have gW := fun p : GW _ => p.grew.cell kW
    have g0 := fun p : GW _ => p.grew.cell k0
    have g1 := fun p : GW _ => p.grew.cell k1
    have g2 := fun p : GW _ => p.grew.cell k2
    repeat (go_big_quiet_step (first
      | (go_at_call 20; exact in_grew (state_c (h := (i, g)) (hs3.grew (GW.grew _)) HS))))
    refine wpQuiet_nil ?_
    clear hne gW g0 g1 g2 kW k0 k1 k2
    intro u hu
    replace hw := hw.grew hu
    have hs4 := hs1.grew hu
    clear hu hs2 hs3
    have HF := Lib.hid (wofree_c hs4)
    rw [hf.out] at HF
    go_wp2_with (first
      | (go_at_call 98; refine HF.out.mono ?_; rintro r w' ⟨rfl, hg⟩))
    go_ret
    exact ⟨rfl, hw.made_grew.trans hg⟩
  · obtain rfl : e = f := by rw [← he.out, ← hf.out]; unfold WoS.may; rw [if_neg (by rw [h1]; decide)]
    have HS := Lib.hid h1
    clear h1
    have hw := St.start w
    go_enter Tryz.func100, Tryz.ntmps100
    go_upto_region 1 with (first
      | (refine wpl_box_v (v := hv (i, g)) rfl hw ?_; clear hw; intro g3 w1 hw; replace hw : St w [blk g3 (h2 (i, g)).toArray 39] w1 := hw))
    have hs1 := hs.grew hw.made_grew
    have hs2 := hs1.woopen
    have hs3 := hs2.drop.enopen
    have kW := Rd.blk (k := 0) (v := .pointer (some ⟨E, 0, none⟩)) (by rfl) _ hs2
    have k0 := Rd.en0 _ hs2.drop
    have k1 : World.cell? _ ⟨g3, 0, none⟩ = some (.int .i64 i) := Rd.blk (by rfl) _ hw
    have k2 : World.cell? _ ⟨g3, 1, none⟩ = some (.int .i64 g) := Rd.blk (by rfl) _ hw
    refine wp_region_grow (by kernel_rfl) (by kernel_rfl) fun hne => ?_
    have gW := fun p : GW _ => p.grew.cell kW
    have g0 := fun p : GW _ => p.grew.cell k0
    have g1 := fun p : GW _ => p.grew.cell k1
    have g2 := fun p : GW _ => p.grew.cell k2
    repeat (go_big_quiet_step (first
      | (go_at_call 20; exact in_grew (state_c (h := (i, g)) (hs3.grew (GW.grew _)) HS))))
    refine wpQuiet_nil ?_
    clear hne gW g0 g1 g2 kW k0 k1 k2
    intro u hu
    replace hw := hw.grew hu
    have hs4 := hs1.grew hu
    clear hu hs2 hs3
    have HF := Lib.hid (wofree_c hs4)
    rw [hf.out] at HF
    go_wp2_with (first
      | (go_at_call 98; refine HF.out.mono ?_; rintro r w' ⟨rfl, hg⟩))
    go_ret
    exact ⟨rfl, hw.made_grew.trans hg⟩
end Go.Proofs.YtcnbmfaicbkhcaaGreatDoor
