/-
  A world in memory (world.World): knows, the functions that Defer hands over. (Printed by gen_wo8.py.)
-/
import Derived.Test.YtiafdlofcjbllaaGreatDoorWo6
import Derived.Test.YtiafdlofcjbllaaGreatDoorWoL2
import Derived.Deep.DeepCutAuto
set_option maxRecDepth 100000
namespace Go.Proofs.YtiafdlofcjbllaaGreatDoor
open Go Go.RowKit
section
variable {s : WoS} {o : OpW}
theorem WoS.kn_del (h1 : o.k = 1) : s.kn o = (true, true) := by unfold WoS.kn; rw [if_pos h1]
theorem WoS.kn_none (h1 : o.k ≠ 1) (hc : s.e.slot o.c = none) : s.kn o = (false, true) := by unfold WoS.kn; rw [if_neg h1, hc]
theorem WoS.kn_rem {x : Cmp} (h1 : o.k = 3) (hc : s.e.slot o.c = some x) : s.kn o = (true, true) := by unfold WoS.kn; rw [if_neg (by omega), hc]; simp [h1]
theorem WoS.kn_ins {x : Cmp} (h1 : o.k ≠ 1) (h3 : o.k ≠ 3) (hc : s.e.slot o.c = some x) : s.kn o = (true, o.v.k == x.2.d.k) := by unfold WoS.kn; rw [if_neg h1, hc]; simp [h3]; rfl
end
attribute [local irreducible] wpList Calls Code.wp stV EnS.live EnS.slot okI okN pS tS memS getG pG insS delS getV pV tV okVal newSl SlS.put SlS.err SlS.putU SlS.putB descE SlS.take SlS.set SlS.errSet SlS.get SlS.has WoS.kn
theorem field_desc (a b c : Int) (w : World) : (Instr.field 97 (.agg #[.int .i64 a, .int .i64 b, .int .i64 c]) 0).run Tryz.prog w = .ok (.int .i64 a) w := by kernel_rfl
set_option maxHeartbeats 4000000 in
theorem wo_knows {w0 w : World} {L : List As} {W E A R X Q n : Nat} {s : WoS} (hs : St w0 (WoB W E A R X Q n s :: L) w) (o : OpW) {a b : Bool} (HV : Hid (s.kn o = (a, b))) :
    Calls Tryz.prog 105 #[.pointer (some ⟨W, 0, none⟩), valW o] w fun r w' => r = .returned (.tuple #[.bool a, .bool b]) ∧ Grew w w' := by
  obtain ⟨k, d, c, v⟩ := o
  by_cases h1 : k = 1
  · have h2 := HV.out
    rw [WoS.kn_del (show (⟨k, d, c, v⟩ : OpW).k = 1 from h1)] at h2
    cases h2
    have d1 : (k == 1) = true := by simp [h1]
    clear HV h1
    have hw := St.start w
    go_enter Tryz.func105, Tryz.ntmps105
    go_upto_region 1 with (first
      | (refine wpl_box_v (v := valW ⟨k, d, c, v⟩) rfl hw ?_; clear hw; intro g1 w1 hw; replace hw : St w [blk g1 (c7w ⟨k, d, c, v⟩).toArray 99] w1 := hw))
    have c0 : World.cell? _ ⟨g1, 0, none⟩ = some (.int .i64 k) := (opW_facts hw).1 _ hw
    go_wp2
    go_ret2
    exact ⟨rfl, hw.made_grew⟩
  · have d1 : (k == 1) = false := by simp [h1]
    cases hc : s.e.slot c with
    | none =>
      have h2 := HV.out
      rw [WoS.kn_none (show (⟨k, d, c, v⟩ : OpW).k ≠ 1 from h1) hc] at h2
      cases h2
      have hno := EnS.slot_none hc
      clear HV hc h1
      have hw := St.start w
      go_enter Tryz.func105, Tryz.ntmps105
      go_upto_region 1 with (first
        | (refine wpl_box_v (v := valW ⟨k, d, c, v⟩) rfl hw ?_; clear hw; intro g1 w1 hw; replace hw : St w [blk g1 (c7w ⟨k, d, c, v⟩).toArray 99] w1 := hw))
      have c0 : World.cell? _ ⟨g1, 0, none⟩ = some (.int .i64 k) := (opW_facts hw).1 _ hw
      go_upto_region 3 with (fail)
      clear c0
      have hs1 := hs.grew hw.made_grew
      have hs2 := hs1.woopen
      have kW := Rd.blk (k := 0) (v := .pointer (some ⟨E, 0, none⟩)) (by rfl) _ hs2
      have k1 := Rd.en1 _ hs2.drop
      have c3 : World.cell? _ ⟨g1, 3, none⟩ = some (.int .i64 c) := (opW_facts hw).2.1 _ hw
      have hs3 := hs2.drop.enopen.rot
      refine wp_region_grow (by kernel_rfl) (by kernel_rfl) fun hne => ?_
      have f0 := fun p : GW _ => p.grew.cell kW
      have f1 := fun p : GW _ => p.grew.cell k1
      have f2 := fun p : GW _ => p.grew.cell c3
      repeat (go_big_quiet_step (first
        | (go_at_call 86; exact in_gsame (rg_slot_no (hs3.grew (GW.grew _)) hno))))
      refine wpQuiet_nil ?_
      clear hne f0 f1 f2 kW k1 c3
      intro u hu
      replace hw := hw.grew hu
      replace hs3 := hs3.grew hu
      clear hu hs1 hs2
      go_wp2
      go_ret2
      exact ⟨rfl, hw.made_grew⟩
    | some x =>
      obtain ⟨j, rfl, hj⟩ := EnS.slot_some hc
      obtain ⟨Y, t⟩ := x
      have HX := Lib.hid hj
      by_cases h3 : k = 3
      · have h2 := HV.out
        rw [WoS.kn_rem (show (⟨k, d, (j : Int), v⟩ : OpW).k = 3 from h3) hc] at h2
        cases h2
        have d3 : (k == 3) = true := by simp [h3]
        clear HV hc h1 h3 hj
        have hw := St.start w
        go_enter Tryz.func105, Tryz.ntmps105
        go_upto_region 1 with (first
          | (refine wpl_box_v (v := valW ⟨k, d, (j : Int), v⟩) rfl hw ?_; clear hw; intro g1 w1 hw; replace hw : St w [blk g1 (c7w ⟨k, d, (j : Int), v⟩).toArray 99] w1 := hw))
        have c0 : World.cell? _ ⟨g1, 0, none⟩ = some (.int .i64 k) := (opW_facts hw).1 _ hw
        go_upto_region 3 with (fail)
        clear c0
        have hs1 := hs.grew hw.made_grew
        have hs2 := hs1.woopen
        have kW := Rd.blk (k := 0) (v := .pointer (some ⟨E, 0, none⟩)) (by rfl) _ hs2
        have k1 := Rd.en1 _ hs2.drop
        have c3 : World.cell? _ ⟨g1, 3, none⟩ = some (.int .i64 (j : Int)) := (opW_facts hw).2.1 _ hw
        have hs3 := hs2.drop.enopen.rot
        refine wp_region_grow (by kernel_rfl) (by kernel_rfl) fun hne => ?_
        have f0 := fun p : GW _ => p.grew.cell kW
        have f1 := fun p : GW _ => p.grew.cell k1
        have f2 := fun p : GW _ => p.grew.cell c3
        repeat (go_big_quiet_step (first
          | (go_at_call 86; exact in_gsame (rg_slot (hs3.grew (GW.grew _)) HX.out (X := Y) (Lib.hid rfl)))))
        refine wpQuiet_nil ?_
        clear hne f0 f1 f2 kW k1 c3
        intro u hu
        replace hw := hw.grew hu
        replace hs3 := hs3.grew hu
        clear hu hs1 hs2
        have c0 : World.cell? _ ⟨g1, 0, none⟩ = some (.int .i64 k) := (opW_facts hw).1 _ hw
        go_upto_region 6 with (fail)
        refine wp_region_grow (by kernel_rfl) (by kernel_rfl) fun hne => ?_
        have f0 := fun p : GW _ => p.grew.cell c0
        repeat (go_big_quiet_step (fail))
        refine wpQuiet_nil ?_
        clear hne f0 c0
        intro u hu
        replace hw := hw.grew hu
        clear hu
        go_wp2
        go_ret2
        exact ⟨rfl, hw.made_grew⟩
      · have h2 := HV.out
        rw [WoS.kn_ins (show (⟨k, d, (j : Int), v⟩ : OpW).k ≠ 1 from h1) h3 hc] at h2
        simp only at h2
        obtain ⟨z, HZ⟩ : ∃ z, Hid (t.d = z) := ⟨_, rfl⟩
        rw [HZ.out] at h2
        cases h2
        have d3 : (k == 3) = false := by simp [h3]
        clear HV hc h1 h3 hj
        have hw := St.start w
        go_enter Tryz.func105, Tryz.ntmps105
        go_upto_region 1 with (first
          | (refine wpl_box_v (v := valW ⟨k, d, (j : Int), v⟩) rfl hw ?_; clear hw; intro g1 w1 hw; replace hw : St w [blk g1 (c7w ⟨k, d, (j : Int), v⟩).toArray 99] w1 := hw))
        have c0 : World.cell? _ ⟨g1, 0, none⟩ = some (.int .i64 k) := (opW_facts hw).1 _ hw
        go_upto_region 3 with (fail)
        clear c0
        have hs1 := hs.grew hw.made_grew
        have hs2 := hs1.woopen
        have kW := Rd.blk (k := 0) (v := .pointer (some ⟨E, 0, none⟩)) (by rfl) _ hs2
        have k1 := Rd.en1 _ hs2.drop
        have c3 : World.cell? _ ⟨g1, 3, none⟩ = some (.int .i64 (j : Int)) := (opW_facts hw).2.1 _ hw
        have hs3 := hs2.drop.enopen.rot
        refine wp_region_grow (by kernel_rfl) (by kernel_rfl) fun hne => ?_
        have f0 := fun p : GW _ => p.grew.cell kW
        have f1 := fun p : GW _ => p.grew.cell k1
        have f2 := fun p : GW _ => p.grew.cell c3
        repeat (go_big_quiet_step (first
          | (go_at_call 86; exact in_gsame (rg_slot (hs3.grew (GW.grew _)) HX.out (X := Y) (Lib.hid rfl)))))
        refine wpQuiet_nil ?_
        clear hne f0 f1 f2 kW k1 c3
        intro u hu
        replace hw := hw.grew hu
        replace hs3 := hs3.grew hu
        clear hu hs1 hs2
        have c0 : World.cell? _ ⟨g1, 0, none⟩ = some (.int .i64 k) := (opW_facts hw).1 _ hw
        have fd := field_desc z.k z.a z.b
        have c4 : World.cell? _ ⟨g1, 4, none⟩ = some (.int .i64 v.k) := (opW_facts hw).2.2 0 _ rfl _ hw
        go_upto_region 6 with (fail)
        refine wp_region_grow (by kernel_rfl) (by kernel_rfl) fun hne => ?_
        have f0 := fun p : GW _ => p.grew.cell c0
        have f1 := fun p : GW _ => p.grew.cell c4
        repeat (go_big_quiet_step (first
          | (go_at_call 146; exact in_grew (v := .agg #[.int .i64 z.k, .int .i64 z.a, .int .i64 z.b]) (rg_desc (hs3.grew (GW.grew _)) HX HZ))))
        refine wpQuiet_nil ?_
        clear hne f0 f1 c0 c4
        intro u hu
        replace hw := hw.grew hu
        clear hu
        go_wp2
        go_ret2
        exact ⟨rfl, hw.made_grew⟩
set_option maxHeartbeats 4000000 in
theorem stD_c {w0 w : World} {L : List As} {W E A R X Q n g : Nat} {s : WoS} (hs : St w0 (WoB W E A R X Q n s :: L) w) (hg : w.cell? ⟨g, 0, none⟩ = some (.pointer (some ⟨W, 0, none⟩))) (o : OpW) :
    Calls Tryz.prog 109 #[valW o, .pointer (some ⟨g, 0, none⟩)] w fun r w' => r = .returned (.bool (decide (stV s.e.cs o.h = 0))) ∧ Grew w w' := by
  obtain ⟨k, ⟨i, d⟩, c, v⟩ := o
  obtain ⟨z, HZ⟩ : ∃ z, Hid (stV s.e.cs (i, d) = z) := ⟨_, rfl⟩
  rw [HZ.out]
  have hw := St.start w
  go_enter Tryz.func109, Tryz.ntmps109
  go_upto_region 1 with (first
    | (refine wpl_box_v (v := valW ⟨k, (i, d), c, v⟩) rfl hw ?_; clear hw; intro g1 w1 hw; replace hw : St w [blk g1 (c7w ⟨k, (i, d), c, v⟩).toArray 99] w1 := hw))
  have hs2 := (hs.grew hw.made_grew).woopen
  have kg := hw.made_grew.cell hg
  have kW := Rd.blk (k := 0) (v := .pointer (some ⟨E, 0, none⟩)) (by rfl) _ hs2
  have k0 := Rd.en0 _ hs2.drop
  have c1 : World.cell? _ ⟨g1, 1, none⟩ = some (.int .i64 i) := Rd.blk (by rfl) _ hw
  have c2 : World.cell? _ ⟨g1, 2, none⟩ = some (.int .i64 d) := Rd.blk (by rfl) _ hw
  have hs3 := hs2.drop.enopen
  clear hg
  refine wp_region_grow (by kernel_rfl) (by kernel_rfl) fun hne => ?_
  have f0 := fun p : GW _ => p.grew.cell kW
  have f1 := fun p : GW _ => p.grew.cell k0
  have f2 := fun p : GW _ => p.grew.cell c1
  have f3 := fun p : GW _ => p.grew.cell c2
  have f4 := fun p : GW _ => p.grew.cell kg
  repeat (go_big_quiet_step (first
    | (go_at_call 41; exact in_grew (state_c (h := (i, d)) (hs3.grew (GW.grew _)) HZ))))
  refine wpQuiet_nil ?_
  clear hne f0 f1 f2 f3 f4 kW k0 c1 c2 kg
  intro u hu
  replace hw := hw.grew hu
  clear hu
  go_wp2
  go_ret
  exact ⟨rfl, hw.made_grew⟩
theorem indexS_c {w w0 : World} {L : List As} {W E A R X Q n g : Nat} {s : WoS} {K : List As} (hent : Ent L (WoB W E A R X Q n s :: K)) (hgp : Rd w0 L ⟨g, 0, none⟩ (.pointer (some ⟨W, 0, none⟩))) {l : List OpW} {D : Option Addr} {cap : Nat} (hl : l.length ≤ 4000000000) (hs : St w0 L w) (hr : RdS w0 L D (l.flatMap c7w)) :
    Calls Tryz.prog 147 #[.slice D l.length cap, .func (Fn.func 109) #[] #[.pointer (some ⟨g, 0, none⟩)]] w fun r w' => ∃ i : Int, r = .returned (.int .i64 i) ∧ decide (i ≥ 0) = l.any (fun o => decide (stV s.e.cs o.h = 0)) ∧ Grew w w' := by
  have HB := Lib.hid (fun w o (q : St w0 L w) => stD_c (w := w) (q.ent hent) (hgp _ q) o)
  clear hent hgp
  obtain ⟨m, hn⟩ : ∃ m, Hid (l.length = m) := ⟨_, rfl⟩
  rw [hn.out]
  have hl' : m ≤ 4000000000 := hn.out ▸ hl
  clear hl
  go_enter Tryz.func147, Tryz.ntmps147
  go_wp2
  go_loopw [8] (fun cv wr => ∃ k : Nat, k ≤ m ∧ Hid ((l.take k).any (fun o => decide (stV s.e.cs o.h = 0)) = false) ∧ cv = .int .i64 (k : Nat) ∧ Grew w wr) (fun cv _ => m - (intOf cv).toNat)
  case atStart => exact ⟨0, by omega, rfl, rfl, Grew.refl _⟩
  case round =>
    obtain ⟨k, hk, hf, rfl, hg⟩ := hrel
    by_cases hkn : k < m
    · obtain ⟨o, ho⟩ : ∃ o, Hid (l[k]? = some o) := ⟨l[k]'(by rw [hn.out]; exact hkn), List.getElem?_eq_getElem _⟩
      have hs2 := hs.grew hg
      obtain ⟨ad, rfl, hsp, _⟩ := hr (k * 7) (.int .i64 o.k) (flat_get c7len ho.out 0 _ rfl)
      obtain ⟨gb, off, sp⟩ := ad
      obtain rfl : sp = none := hsp
      have hrd : ∀ j u, (c7w o)[j]? = some u → Rd w0 L ⟨gb, off + k * 7 + j, none⟩ u := fun j u hu => by
        obtain ⟨ad, hh, _, h⟩ := hr (k * 7 + j) u (flat_get c7len ho.out j u hu)
        injection hh with hh
        subst hh
        rwa [Nat.add_assoc]
      obtain ⟨b, hb⟩ : ∃ b, Hid ((fun o => decide (stV s.e.cs o.h = 0)) o = b) := ⟨_, rfl⟩
      have HC : Hid (∀ w (_ : St w0 L w), Calls Tryz.prog 109 #[valW o, .pointer (some ⟨g, 0, none⟩)] w fun e w' => e = .returned (.bool b) ∧ Grew w w') := fun w q => by rw [← hb.out]; exact HB.out w o q
      cases b
      · go_wp2_with (first
          | (refine wpl_load_agg (cs := c7w o) (b := gb) (o := off + k * 7) rfl aggW (sizeW o) hs2 hrd ?_)
          | (go_at_call 109; refine (HC.out _ hs2).mono ?_; rintro r w' ⟨rfl, hg2⟩))
        go_roundw
        case rel => exact ⟨k + 1, by omega, by rw [Hid, any_take ho.out, hf.out, hb.out]; rfl, by simp, hg.trans hg2⟩
        case measure => simp [intOf]; omega
      · go_wp2_with (first
          | (refine wpl_load_agg (cs := c7w o) (b := gb) (o := off + k * 7) rfl aggW (sizeW o) hs2 hrd ?_)
          | (go_at_call 109; refine (HC.out _ hs2).mono ?_; rintro r w' ⟨rfl, hg2⟩))
        go_ret
        exact ⟨(k : Nat), rfl, by rw [any_of ho.out hb.out]; simp, hg.trans hg2⟩
    · obtain rfl : k = m := by omega
      go_wp2
      go_ret
      exact ⟨-1, rfl, by rw [← hn.out, List.take_length] at hf; rw [hf.out]; rfl, hg⟩
theorem containsS_c {w w0 : World} {L : List As} {W E A R X Q n g : Nat} {s : WoS} {K : List As} (hent : Ent L (WoB W E A R X Q n s :: K)) (hgp : Rd w0 L ⟨g, 0, none⟩ (.pointer (some ⟨W, 0, none⟩))) {l : List OpW} {D : Option Addr} {cap : Nat} (hl : l.length ≤ 4000000000) (hs : St w0 L w) (hr : RdS w0 L D (l.flatMap c7w)) :
    Calls Tryz.prog 106 #[.slice D l.length cap, .func (Fn.func 109) #[] #[.pointer (some ⟨g, 0, none⟩)]] w fun r w' => r = .returned (.bool (l.any (fun o => decide (stV s.e.cs o.h = 0)))) ∧ Grew w w' := by
  have HB := Lib.hid (indexS_c (cap := cap) hent hgp hl hs hr)
  clear hent hgp
  obtain ⟨m, hn⟩ : ∃ m, Hid (l.length = m) := ⟨_, rfl⟩
  rw [hn.out] at HB ⊢
  obtain ⟨b, hb⟩ : ∃ b, Hid (l.any (fun o => decide (stV s.e.cs o.h = 0)) = b) := ⟨_, rfl⟩
  rw [hb.out] at HB ⊢
  clear hl hr
  go_enter Tryz.func106, Tryz.ntmps106
  go_wp2_with (first
    | (go_at_call 147; refine HB.out.mono ?_; rintro r w' ⟨i, rfl, hi, hg⟩))
  go_ret
  exact ⟨by rw [← hi]; rfl, hg⟩

end Go.Proofs.YtiafdlofcjbllaaGreatDoor
