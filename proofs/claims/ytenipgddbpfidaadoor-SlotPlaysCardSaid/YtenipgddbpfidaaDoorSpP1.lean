/-
  SlotPlays: the walk, its beginning. (Printed by gen_rgplays.py 297.)
-/
import Derived.Test.YtenipgddbpfidaaDoorSpP2
import Derived.Test.YtenipgddbpfidaaDoorJX
import Derived.Test.YtenipgddbpfidaaDoorJU
import Derived.Test.YtenipgddbpfidaaDoorPart
import Derived.Deep.DeepCutAuto
import Derived.Deep.CutRange
import Derived.Deep.CutBlock
set_option maxRecDepth 100000
namespace Go.Proofs.YtenipgddbpfidaaDoor
open Go Go.RowKit
attribute [local irreducible] wpList Calls Code.wp okI okN pS tS memS getG pG insS delS getV pV tV okVal newSl SlS.put SlS.err SlS.putU SlS.putB descE mkD mkV SlS.take SlS.set SlS.errSet SlS.get SlS.has kdE
set_option maxHeartbeats 8000000 in
theorem spp_head {w0 : World} (hT : Tab w0) (raw : V3) (a b c : Int) {va : Value} {xs : List OpS} (hva : RowsArg c5o Q5o w0 va xs) :
    Calls Tryd.prog 3 #[val3 raw, .int .i64 a, .int .i64 b, .int .i64 c, va] w0 (LawPost w0) := by
  obtain ⟨A, ca, rfl, hnc, hcm, hra, hQ⟩ := hva
  clear hnc hcm
  obtain ⟨n, hn⟩ : ∃ n, Hid (xs.length = n) := ⟨_, rfl⟩
  rw [hn.out]
  have HQ := Lib.hid hQ
  clear hQ
  have hs := St.start w0
  obtain ⟨e0, he0⟩ : ∃ e, Hid (descE raw = e) := ⟨_, rfl⟩
  obtain ⟨d, HD⟩ : ∃ d, Hid (mkD a b c = d) := ⟨_, rfl⟩
  have HDE : Hid (descE d = 0) := by rw [Hid, ← HD.out]; exact mkD_ok a b c
  go_enter Tryd.func3, Tryd.ntmps3
  go_upto_region 2 with (first
    | (refine wpl_box_v (v := val3 raw) rfl hs ?_; clear hs; intro g5 w hs)
    | (refine wpl_load3 (v := raw) rfl (has3_slot (t := 23)) agg3D (size3Dn (v := V3.z)) hs ?_)
    | (go_at_call 9; refine (descmay_c raw he0).mono ?_; rintro r w ⟨rfl, hg⟩; replace hs := hs.grew hg; clear hg))
  go_cut [12, 13] from 48 to 52 (fun xv ev wx => ev = .int .i64 e0 ∧ Hid (e0 = 0 → ∃ x : Nat, xv = .pointer (some ⟨x, 0, none⟩)) ∧ Hid (e0 ≠ 0 → xv = .pointer none) ∧ St w0 [blk g5 (c3 raw).toArray 23] wx)
  case first =>
    by_cases h0 : e0 = 0
    · subst h0
      go_wp2_with (first
        | (refine wpl_load3 (v := raw) rfl (has3_slot (t := 23)) agg3D (size3Dn (v := V3.z)) hs ?_)
        | (go_at_call 10; refine (sl_new hs raw he0).mono ?_; clear hs; rintro r w ⟨X, pv, F, rfl, hs⟩))
      go_meet
      exact ⟨rfl, fun _ => ⟨X, rfl⟩, fun h => absurd rfl h, hs.drop⟩
    · go_wp2_with (first
        | (refine wpl_load3 (v := raw) rfl (has3_slot (t := 23)) agg3D (size3Dn (v := V3.z)) hs ?_)
        | (go_at_call 10; refine (sl_new_no raw he0 h0).mono ?_; rintro r w ⟨rfl, hg⟩; replace hs := hs.grew hg; clear hg))
      go_meet
      exact ⟨rfl, fun h => absurd h h0, fun _ => rfl, hs⟩
  case rest =>
  clear hs
  obtain ⟨rfl, hx1, hx2, hs⟩ := hcut
  go_upto_region 3 with (fail)
  go_cut [68] from 53 to 68 (fun bv wx => bv = .bool false ∧ St w0 [blk g5 (c3 raw).toArray 23] wx)
  case first =>
    obtain ⟨k0, k1, k2⟩ := Has3.facts (has3_slot (w0 := w0) (L := []) (g := g5) (v := raw) (t := 23)) hs
    have hcs : e0 = 0 ∨ e0 = 1 ∨ e0 = 9 := by rw [← he0.out]; exact descE_cases raw
    rcases hcs with rfl | rfl | rfl
    · obtain ⟨x, rfl⟩ := hx1.out rfl
      clear hx1 hx2
      go_wp2_with (first
        | (refine wpl_load3 (v := raw) rfl (has3_slot (t := 23)) agg3D (size3Dn (v := V3.z)) hs ?_)
        | (go_at_call 11; refine (scheck_c raw he0).mono ?_; rintro r w ⟨rfl, hg⟩; replace hs := hs.grew hg; clear hg k0 k1 k2))
      go_meet
      exact ⟨rfl, hs⟩
    · obtain rfl := hx2.out (by decide)
      clear hx1 hx2
      go_wp2_with (first
        | (refine wpl_load3 (v := raw) rfl (has3_slot (t := 23)) agg3D (size3Dn (v := V3.z)) hs ?_)
        | (go_at_call 11; refine (scheck_c raw he0).mono ?_; rintro r w ⟨rfl, hg⟩; replace hs := hs.grew hg; clear hg k0 k1 k2))
      go_meet
      exact ⟨rfl, hs⟩
    · obtain rfl := hx2.out (by decide)
      clear hx1 hx2
      go_wp2_with (first
        | (refine wpl_load3 (v := raw) rfl (has3_slot (t := 23)) agg3D (size3Dn (v := V3.z)) hs ?_)
        | (go_at_call 11; refine (scheck_c raw he0).mono ?_; rintro r w ⟨rfl, hg⟩; replace hs := hs.grew hg; clear hg k0 k1 k2))
      go_meet
      exact ⟨rfl, hs⟩
  case rest =>
  clear hs hx1 hx2 he0
  obtain ⟨rfl, hs⟩ := hcut
  replace hs := hs.drop
  go_upto_region 7 with (first
    | (go_at_call 12; refine (ldesc_c _ _ _ HD).mono ?_; rintro r w ⟨rfl, hg⟩; replace hs := hs.grew hg; clear hg)
    | (refine wpl_alloc zero3D hs ?_; clear hs; intro g14 w hs)
    | (refine wpl_store_agg (v := val3 d) rfl rfl (size3D _) hs WrA.slot3 ?_; clear hs; intro w hs)
    | (refine wpl_load3 (v := d) rfl (has3_slot (t := 23)) agg3D (size3Dn (v := V3.z)) hs ?_)
    | (go_at_call 10; refine (sl_new hs d HDE).mono ?_; clear hs; rintro r w ⟨X, v, F, rfl, hs⟩))
  obtain ⟨pF, HPF⟩ : ∃ p, Hid (fpV (newSl d v F).F = p) := ⟨_, rfl⟩
  have hbb : 0 < d.b ∨ ¬ 0 < d.b := by omega
  have hok := hs.slwf.ok
  go_cut [102] from 78 to 102 (fun bv wx => bv = .bool false ∧ St w0 [SlB X (newSl d v F), blk g14 (c3 d).toArray 23] wx)
  case first =>
    have hsd : Hid ((newSl d v F).d = d) := by unfold newSl; rfl
    have hh := has3_slot (w0 := w0) (L := []) (g := g14) (v := d) (t := 23)
    obtain ⟨c0, c1, c2⟩ := Has3.gfacts hh hs.drop
    have HDESC : Hid (∀ (wb : World) (hs : St w0 [SlB X (newSl d v F), blk g14 (c3 d).toArray 23] wb), Calls Tryd.prog 13 #[.pointer (some ⟨X, 0, none⟩)] wb fun r w' => r = .returned (.agg #[.int .i64 d.k, .int .i64 d.a, .int .i64 d.b]) ∧ Grew wb w') := fun wb hs => by
      have := sl_desc hs
      rwa [hsd.out] at this
    rcases hbb with hb | hb
    · obtain ⟨f, rfl⟩ := newF_some hok hb
      obtain rfl : pF = .pointer (some ⟨f, 0, none⟩) := by rw [← HPF.out]; exact (newSl_F d v f).out
      refine wp_region_grow (by kernel_rfl) (by kernel_rfl) fun hne => ?_
      repeat ((go_big_quiet_step ((first
        | (go_at_call 13; exact in_grew (HDESC.out _ (hs.grew (GW.grew _))))
        | (go_at_call 14; exact in_gsame (sl_flag_v (hs.grew (GW.grew _)) HPF))
        | (go_at_call 15; exact in_grew awake11)))))
      refine wpQuiet_nil ?_
      intro u hu
      go_wp2
      go_meet
      exact ⟨rfl, hs.grew hu⟩
    · obtain rfl := newF_none hok hb
      obtain rfl : pF = .pointer none := by rw [← HPF.out]; exact (newSl_F0 d v).out
      refine wp_region_grow (by kernel_rfl) (by kernel_rfl) fun hne => ?_
      repeat ((go_big_quiet_step ((first
        | (go_at_call 13; exact in_grew (HDESC.out _ (hs.grew (GW.grew _))))
        | (go_at_call 14; exact in_gsame (sl_flag_v (hs.grew (GW.grew _)) HPF))
        | (go_at_call 15; exact in_grew awake11)))))
      refine wpQuiet_nil ?_
      intro u hu
      go_wp2
      go_meet
      exact ⟨rfl, hs.grew hu⟩
  case rest =>
  clear hs HPF hbb hok
  obtain ⟨rfl, hs⟩ := hcut
  go_upto_region 9 with (fail)
  exact spp_tail hT hn hra HQ HDE hs (by assumption)
end Go.Proofs.YtenipgddbpfidaaDoor
