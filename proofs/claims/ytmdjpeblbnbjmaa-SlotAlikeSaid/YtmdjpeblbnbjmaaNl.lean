/-
  The contracts of a place that keeps no values (null).
-/
import Derived.Test.YtmdjpeblbnbjmaaDnLaw
set_option maxRecDepth 100000
namespace Go.Proofs.Ytmdjpeblbnbjmaa
open Go Go.RowKit
attribute [local irreducible] wpList Calls Code.wp okI okN pS tS memS getG insS delS

def tagV : V3 := ⟨3, 0, 0⟩
theorem tag_c {w : World} : Calls Try.prog 105 #[] w fun e w' => e = .returned (val3 tagV) ∧ Grew w w' := by
  have hw := St.start w
  go_enter Try.func105, Try.ntmps105
  go_wp2_with (first
    | (refine wpl_alloc zero3 hw ?_; clear hw; intro g0 w1 hw)
    | (refine wpl_store_agg (v := val3 tagV) rfl rfl (size3 _) hw WrA.slot3 ?_; clear hw; intro w2 hw))
  refine bodyPost_at (results_cell1 Try.results105 rfl (hw.slot_run agg3 (size3 _))) rfl ?_
  exact ⟨rfl, hw.made_grew⟩
/-- What null has at an index. -/
def nlG (b : Bool) : V3 := if b then tagV else V3.z
theorem nl_get {w0 w : World} {L : List As} {T : Nat} {S : List Nat} (hs : St w0 (HSet T S :: L) w) {i : Int} {b : Bool} (hb : Hid (memS S i = b)) :
    Calls Try.prog 102 #[.agg #[.pointer (some ⟨T, 0, none⟩)], .int .i64 i] w fun e w' => e = .returned (.tuple #[val3 (nlG b), .bool b]) ∧ Grew w w' := by
  cases b
  all_goals
    go_enter Try.func102, Try.ntmps102
    have hw := St.start w
    go_wp2_with (first
      | (refine wpl_box_v (v := .agg #[.pointer (some ⟨T, 0, none⟩)]) rfl hw ?_; clear hw; intro g2 w1 hw; have hc := Rd.blk (k := 0) (v := .pointer (some ⟨T, 0, none⟩)) rfl w1 hw)
      | (refine wpl_alloc zero3 hw ?_; clear hw hc; intro g4 w2 hw; have hc := (Rd.blk (k := 0) (v := .pointer (some ⟨T, 0, none⟩)) rfl).tail w2 hw)
      | (go_at_call 52; refine (has_gv (hs.grew hw.made_grew) hb).mono ?_; clear hc; rintro e w3 ⟨rfl, hg⟩; replace hw := hw.grew hg; clear hg)
      | (go_at_call 105; refine tag_c.mono ?_; rintro e w3 ⟨rfl, hg⟩; replace hw := hw.grew hg; clear hg)
      | (refine wpl_store_agg (v := val3 tagV) rfl rfl (size3 _) hw WrA.slot3 ?_; clear hw; intro w4 hw)
      | (refine wpl_store_agg (v := val3 V3.z) rfl rfl (size3 _) hw WrA.slot3 ?_; clear hw; intro w4 hw))
    refine bodyPost_at (results_cell_tmp Try.results102 rfl (hw.slot_run agg3 (size3 _))) rfl ?_
    exact ⟨rfl, hw.made_grew⟩
theorem nl_put {w0 w : World} {L : List As} {T : Nat} {S : List Nat} (hs : St w0 (HSet T S :: L) w) {i : Nat} (hi : i < 65536) (v : V3) {b : Bool} (hb : Hid (memS S (i : Nat) = b)) {S' : List Nat} (hS : Hid (insS i S = S')) :
    Calls Try.prog 103 #[.agg #[.pointer (some ⟨T, 0, none⟩)], .int .i64 (i : Nat), val3 v] w fun e w' => e = .returned (.tuple #[val3 (nlG b), .bool b]) ∧ St w0 (HSet T S' :: L) w' := by
  have hi2 : i < 16777216 := by omega
  go_enter Try.func103, Try.ntmps103
  go_upto_region 1 with (first
    | (refine wpl_box_v (v := .agg #[.pointer (some ⟨T, 0, none⟩)]) rfl hs ?_; clear hs; intro g3 w hs)
    | (refine wpl_box_v (v := val3 v) rfl hs ?_; clear hs; intro g5 w hs)
    | (refine wpl_alloc zero3 hs ?_; clear hs; intro g6 w hs))
  replace hs : St w0 (HSet T S :: blk g3 #[.pointer (some ⟨T, 0, none⟩)] 112 :: blk g6 (c3 V3.z).toArray 40 :: L) w := (hs.rot.drop).ent (by (repeat first | exact Ent.refl _ | refine Ent.step (by first | exact Ent.refl _ | exact Ent.skip (Ent.refl _) | exact Ent.skip (Ent.skip (Ent.refl _)) | exact Ent.skip (Ent.skip (Ent.skip (Ent.refl _))) | exact Ent.skip (Ent.skip (Ent.skip (Ent.skip (Ent.refl _)))) | exact Ent.skip (Ent.skip (Ent.skip (Ent.skip (Ent.skip (Ent.refl _))))) | exact Ent.skip (Ent.skip (Ent.skip (Ent.skip (Ent.skip (Ent.skip (Ent.refl _)))))) | exact Ent.skip (Ent.skip (Ent.skip (Ent.skip (Ent.skip (Ent.skip (Ent.skip (Ent.refl _))))))) | exact Ent.skip (Ent.skip (Ent.skip (Ent.skip (Ent.skip (Ent.skip (Ent.skip (Ent.skip (Ent.refl _)))))))) | exact Ent.skip (Ent.skip (Ent.skip (Ent.skip (Ent.skip (Ent.skip (Ent.skip (Ent.skip (Ent.skip (Ent.refl _)))))))))) ?_))
  have hr3 := fun L => (Rd.blk (w0 := w0) (g := g3) (k := 0) (cs := #[.pointer (some ⟨T, 0, none⟩)]) (t := 112) (L := L) (v := .pointer (some ⟨T, 0, none⟩)) rfl).tail (p := HSet T S)
  have hc := hr3 _ _ hs
  go_upto_region 2 with (first
    | (go_at_call 102; refine (nl_get hs hb).mono ?_; rintro e w3 ⟨rfl, hg⟩; replace hs := hs.grew hg; clear hg hc)
    | (refine wpl_alloc zero3 hs ?_; clear hs; intro g8 w hs)
    | (refine wpl_store_agg (v := val3 (nlG b)) rfl rfl (size3 _) hs WrA.slot3 ?_; clear hs; intro w hs))
  replace hs := hs.rot.ent (Ent.cons _ (Ent.swap _ _ _))
  have hc := hr3 _ _ hs
  go_wp2_with (first
    | (go_at_call 40; refine (add_any hs i hi2 hS).mono ?_; clear hs hc; rintro e w ⟨b', x', rfl, hs⟩)
    | (refine wpl_load3 (v := nlG b) rfl ?hh agg3 size3n hs ?_; case hh => exact has3_tail (has3_tail has3_slot))
    | (refine wpl_store_agg (v := val3 (nlG b)) rfl rfl (size3 _) (hs.ent (Ent.skip (Ent.skip (Ent.skip (Ent.refl _))))) WrA.slot3 ?_; clear hs; intro w hs))
  refine bodyPost_at (results_cell_tmp Try.results103 rfl (hs.slot_run agg3 (size3 _))) rfl ?_
  exact ⟨rfl, ((hs.drop.rot.drop).rot.drop)⟩
theorem remove_all {w0 w : World} {L : List As} {T : Nat} {S : List Nat} (hs : St w0 (HSet T S :: L) w) (i : Int) {S' : List Nat} (hS : Hid (remS S i = S')) :
    Calls Try.prog 44 #[.pointer (some ⟨T, 0, none⟩), .int .i64 i] w fun e w' => ∃ b x, e = .returned (.tuple #[.bool b, .int .i64 x]) ∧ St w0 (HSet T S' :: L) w' :=
  (remove_h hs i).mono fun e w' ⟨h1, h2⟩ => ⟨_, _, h1, by rw [← hS.out]; exact h2⟩
theorem nl_take {w0 w : World} {L : List As} {T : Nat} {S : List Nat} (hs : St w0 (HSet T S :: L) w) {i : Int} {b : Bool} (hb : Hid (memS S i = b)) {S' : List Nat} (hS : Hid (remS S i = S')) :
    Calls Try.prog 104 #[.agg #[.pointer (some ⟨T, 0, none⟩)], .int .i64 i] w fun e w' => e = .returned (.tuple #[val3 (nlG b), .bool b]) ∧ St w0 (HSet T S' :: L) w' := by
  go_enter Try.func104, Try.ntmps104
  go_upto_region 1 with (first
    | (refine wpl_box_v (v := .agg #[.pointer (some ⟨T, 0, none⟩)]) rfl hs ?_; clear hs; intro g3 w hs)
    | (refine wpl_alloc zero3 hs ?_; clear hs; intro g6 w hs))
  replace hs : St w0 (HSet T S :: blk g3 #[.pointer (some ⟨T, 0, none⟩)] 112 :: blk g6 (c3 V3.z).toArray 40 :: L) w := hs.ent (by (repeat first | exact Ent.refl _ | refine Ent.step (by first | exact Ent.refl _ | exact Ent.skip (Ent.refl _) | exact Ent.skip (Ent.skip (Ent.refl _)) | exact Ent.skip (Ent.skip (Ent.skip (Ent.refl _))) | exact Ent.skip (Ent.skip (Ent.skip (Ent.skip (Ent.refl _)))) | exact Ent.skip (Ent.skip (Ent.skip (Ent.skip (Ent.skip (Ent.refl _))))) | exact Ent.skip (Ent.skip (Ent.skip (Ent.skip (Ent.skip (Ent.skip (Ent.refl _)))))) | exact Ent.skip (Ent.skip (Ent.skip (Ent.skip (Ent.skip (Ent.skip (Ent.skip (Ent.refl _))))))) | exact Ent.skip (Ent.skip (Ent.skip (Ent.skip (Ent.skip (Ent.skip (Ent.skip (Ent.skip (Ent.refl _)))))))) | exact Ent.skip (Ent.skip (Ent.skip (Ent.skip (Ent.skip (Ent.skip (Ent.skip (Ent.skip (Ent.skip (Ent.refl _)))))))))) ?_))
  have hr3 := fun L => (Rd.blk (w0 := w0) (g := g3) (k := 0) (cs := #[.pointer (some ⟨T, 0, none⟩)]) (t := 112) (L := L) (v := .pointer (some ⟨T, 0, none⟩)) rfl).tail (p := HSet T S)
  have hc := hr3 _ _ hs
  go_upto_region 2 with (first
    | (go_at_call 102; refine (nl_get hs hb).mono ?_; rintro e w3 ⟨rfl, hg⟩; replace hs := hs.grew hg; clear hg hc)
    | (refine wpl_alloc zero3 hs ?_; clear hs; intro g8 w hs)
    | (refine wpl_store_agg (v := val3 (nlG b)) rfl rfl (size3 _) hs WrA.slot3 ?_; clear hs; intro w hs))
  replace hs := hs.rot.ent (Ent.cons _ (Ent.swap _ _ _))
  have hc := hr3 _ _ hs
  go_wp2_with (first
    | (go_at_call 44; refine (remove_all hs i hS).mono ?_; clear hs hc; rintro e w ⟨b', x', rfl, hs⟩)
    | (refine wpl_load3 (v := nlG b) rfl ?hh agg3 size3n hs ?_; case hh => exact has3_tail (has3_tail has3_slot))
    | (refine wpl_store_agg (v := val3 (nlG b)) rfl rfl (size3 _) (hs.ent (Ent.skip (Ent.skip (Ent.skip (Ent.refl _))))) WrA.slot3 ?_; clear hs; intro w hs))
  refine bodyPost_at (results_cell_tmp Try.results104 rfl (hs.slot_run agg3 (size3 _))) rfl ?_
  exact ⟨rfl, ((hs.drop.rot.drop).rot.drop)⟩
end Go.Proofs.Ytmdjpeblbnbjmaa
