/-
  One kind of place behind another (slot.Slot), 4: Put refused, Take, Set, Flag, Desc, Mask.
-/
import Derived.Test.YtmdjpeblbnbjmaaSt3
set_option maxRecDepth 100000
namespace Go.Proofs.Ytmdjpeblbnbjmaa
open Go Go.RowKit
attribute [local irreducible] wpList Calls Code.wp okI okN pS tS memS getG pG insS delS getV pV tV okVal errV ntE

theorem put_out {w0 w : World} {L : List As} {X M : Nat} {v0 : Value} {d : V3} {F : Option Nat} (hs : St w0 (blk X (slC v0 d M F) 67 :: L) w) {i : Int} {v : V3} {e : Int} (he : Hid (errV d.k i v = e)) (h0 : e ≠ 0) :
    Calls Try.prog 18 #[.pointer (some ⟨X, 0, none⟩), .int .i64 i, val3 v] w fun r w' => r = .returned (.tuple #[val3 V3.z, .bool false, .int .i64 e]) ∧ Grew w w' := by
  have d0 : (e == 0) = false := by simpa using h0
  have hw := St.start w
  have HC := Lib.hid (fun (w : World) (hs : St w0 (blk X (slC v0 d M F) 67 :: L) w) => scheck_v hs he)
  clear he
  go_enter Try.func18, Try.ntmps18
  go_upto_region 1 with (first
    | (refine wpl_box_v (v := val3 v) rfl hw ?_; clear hw; intro g5 w1 hw)
    | (refine wpl_alloc zero3 hw ?_; clear hw; intro g6 w1 hw))
  replace hw : St _ [blk g6 (c3 V3.z).toArray 40, blk g5 (c3 v).toArray 40] _ := hw
  go_wp2_with (first
    | (refine wpl_load3 (v := v) rfl ?hh agg3 size3n hw ?_; case hh => exact has3_tail has3_slot)
    | (go_at_call 39; refine (HC.out _ (hs.grew hw.made_grew)).mono ?_; rintro r w3 ⟨rfl, hg2⟩; replace hw := hw.grew hg2; clear hg2)
    | (refine wpl_store_agg (v := val3 V3.z) rfl rfl (size3 _) hw WrA.slot3 ?_; clear hw; intro w2 hw))
  refine bodyPost_at (results_cell_tmp2 Try.results18 rfl (hw.slot_run agg3 (size3 _))) rfl ?_
  exact ⟨rfl, hw.made_grew⟩
set_option maxHeartbeats 1000000 in
theorem take_c {w0 w : World} {L : List As} {X M : Nat} {v0 : Value} {d : V3} {F : Option Nat} {S : List Nat} {g : Nat → V3} {evs : List Ev} {rds : List Nat} {bd : Int}
    (hs : St w0 (blk X (slC v0 d M F) 67 :: PlB d.k v0 S g :: HSet M S :: FlP F bd evs rds :: L) w) {i : Int} (hi : (Lit.int .i64 i).wf = true) {u : V3} (hl : evs.length < 4611686018427387904)
    {b : Bool} {S' : List Nat} (hu : Hid (getG S g i = u)) (hb : Hid (memS S i = b)) (hS : Hid (tS S i = S')) {evs' : List Ev} (hev : Hid ((if b then ntE F evs 3 i else evs) = evs')) :
    Calls Try.prog 31 #[.pointer (some ⟨X, 0, none⟩), .int .i64 i] w fun r w' => r = .returned (.tuple #[val3 u, .bool b]) ∧
      St w0 (blk X (slC v0 d M F) 67 :: PlB d.k v0 S' g :: HSet M S' :: FlP F bd evs' rds :: L) w' := by
  have hsm := (hs.rot.plcases).1
  have HT := Lib.hid (fun (w : World) (L : List As) (hs : St w0 (PlB d.k v0 S g :: L) w) => pl_take hs hi hu hb hS)
  have HN := Lib.hid (fun (w : World) (L : List As) (h0 : 0 ≤ i) (hs : St w0 (blk X (slC v0 d M F) 67 :: FlP F bd evs rds :: L) w) => sl_note (k := 3) hs (by decide) (by decide) h0 hl)
  have HR : Hid (remS S i = S') := by rw [Hid, rem_tS hsm]; exact hS.out
  have hr0 := fun L => Rd.sl0 (w0 := w0) (X := X) (v := v0) (d := d) (M := M) (F := F) (L := L) (t := 67)
  have hr4 := fun L => Rd.sl4 (w0 := w0) (X := X) (v := v0) (d := d) (M := M) (F := F) (L := L) (t := 67)
  clear hsm hl
  go_enter Try.func31, Try.ntmps31
  go_upto_region 1 with (first
    | (refine wpl_alloc zero3 hs ?_; clear hs; intro g4 w hs))
  replace hs : St w0 (blk X (slC v0 d M F) 67 :: PlB d.k v0 S g :: HSet M S :: FlP F bd evs rds :: blk g4 (c3 V3.z).toArray 40 :: L) w := hs.ent (by (repeat first | exact Ent.refl _ | refine Ent.step (by first | exact Ent.refl _ | exact Ent.skip (Ent.refl _) | exact Ent.skip (Ent.skip (Ent.refl _)) | exact Ent.skip (Ent.skip (Ent.skip (Ent.refl _))) | exact Ent.skip (Ent.skip (Ent.skip (Ent.skip (Ent.refl _)))) | exact Ent.skip (Ent.skip (Ent.skip (Ent.skip (Ent.skip (Ent.refl _))))) | exact Ent.skip (Ent.skip (Ent.skip (Ent.skip (Ent.skip (Ent.skip (Ent.refl _)))))) | exact Ent.skip (Ent.skip (Ent.skip (Ent.skip (Ent.skip (Ent.skip (Ent.skip (Ent.refl _))))))) | exact Ent.skip (Ent.skip (Ent.skip (Ent.skip (Ent.skip (Ent.skip (Ent.skip (Ent.skip (Ent.refl _)))))))) | exact Ent.skip (Ent.skip (Ent.skip (Ent.skip (Ent.skip (Ent.skip (Ent.skip (Ent.skip (Ent.skip (Ent.refl _)))))))))) ?_))
  have hc := hr0 _ _ hs
  go_upto_region 2 with (first
    | (refine wpl_inv1 (v := v0) (v1 := .int .i64 i) rfl rfl (HT.out _ _ hs.rot) ?_; clear hs hc; rintro r w ⟨rfl, hs⟩)
    | (refine wpl_alloc zero3 hs ?_; clear hs; intro g6 w hs)
    | (refine wpl_store_agg (v := val3 u) rfl rfl (size3 _) hs WrA.slot3 ?_; clear hs; intro w hs))
  replace hs : St w0 (blk X (slC v0 d M F) 67 :: HSet M S :: FlP F bd evs rds :: blk g4 (c3 V3.z).toArray 40 :: blk g6 (c3 u).toArray 40 :: PlB d.k v0 S' g :: L) w := hs.ent (by (repeat first | exact Ent.refl _ | refine Ent.step (by first | exact Ent.refl _ | exact Ent.skip (Ent.refl _) | exact Ent.skip (Ent.skip (Ent.refl _)) | exact Ent.skip (Ent.skip (Ent.skip (Ent.refl _))) | exact Ent.skip (Ent.skip (Ent.skip (Ent.skip (Ent.refl _)))) | exact Ent.skip (Ent.skip (Ent.skip (Ent.skip (Ent.skip (Ent.refl _))))) | exact Ent.skip (Ent.skip (Ent.skip (Ent.skip (Ent.skip (Ent.skip (Ent.refl _)))))) | exact Ent.skip (Ent.skip (Ent.skip (Ent.skip (Ent.skip (Ent.skip (Ent.skip (Ent.refl _))))))) | exact Ent.skip (Ent.skip (Ent.skip (Ent.skip (Ent.skip (Ent.skip (Ent.skip (Ent.skip (Ent.refl _)))))))) | exact Ent.skip (Ent.skip (Ent.skip (Ent.skip (Ent.skip (Ent.skip (Ent.skip (Ent.skip (Ent.skip (Ent.refl _)))))))))) ?_))
  have hc := hr4 _ _ hs
  cases b
  · have hss : Hid (S = S') := by
      rw [Hid, ← hS.out]; unfold tS; rw [hb.out]; rfl
    obtain rfl : evs = evs' := hev.out
    rw [hss.out] at hs
    clear HT HN HR hS hss hb hu
    replace hs : St w0 (blk g4 (c3 V3.z).toArray 40 :: blk g6 (c3 u).toArray 40 :: blk X (slC v0 d M F) 67 :: PlB d.k v0 S' g :: HSet M S' :: FlP F bd evs rds :: L) w := hs.ent (by (repeat first | exact Ent.refl _ | refine Ent.step (by first | exact Ent.refl _ | exact Ent.skip (Ent.refl _) | exact Ent.skip (Ent.skip (Ent.refl _)) | exact Ent.skip (Ent.skip (Ent.skip (Ent.refl _))) | exact Ent.skip (Ent.skip (Ent.skip (Ent.skip (Ent.refl _)))) | exact Ent.skip (Ent.skip (Ent.skip (Ent.skip (Ent.skip (Ent.refl _))))) | exact Ent.skip (Ent.skip (Ent.skip (Ent.skip (Ent.skip (Ent.skip (Ent.refl _)))))) | exact Ent.skip (Ent.skip (Ent.skip (Ent.skip (Ent.skip (Ent.skip (Ent.skip (Ent.refl _))))))) | exact Ent.skip (Ent.skip (Ent.skip (Ent.skip (Ent.skip (Ent.skip (Ent.skip (Ent.skip (Ent.refl _)))))))) | exact Ent.skip (Ent.skip (Ent.skip (Ent.skip (Ent.skip (Ent.skip (Ent.skip (Ent.skip (Ent.skip (Ent.refl _)))))))))) ?_))
    go_wp2_with (first
      | (refine wpl_load3 (v := u) rfl ?hh agg3 size3n hs ?_; case hh => exact has3_tail has3_slot)
      | (refine wpl_store_agg (v := val3 u) rfl rfl (size3 _) hs WrA.slot3 ?_; clear hs; intro w hs))
    refine bodyPost_at (results_cell_tmp Try.results31 rfl (hs.slot_run agg3 (size3 _))) rfl ?_
    exact ⟨rfl, hs.drop.drop⟩
  · have hev2 : Hid (ntE F evs 3 i = evs') := hev.out
    have hi0 : 0 ≤ i := by
      obtain ⟨j, rfl, _⟩ := memS_in hb.out
      omega
    clear HT hev hb hu
    go_upto_region 5 with (first
      | (go_at_call 44; refine (remove_all hs.rot i HR).mono ?_; clear hs hc; rintro e w ⟨b', x', rfl, hs⟩)
      | (go_at_call 41; refine (HN.out _ _ hi0 (hs.ent (M := blk X (slC v0 d M F) 67 :: FlP F bd evs rds :: HSet M S' :: blk g4 (c3 V3.z).toArray 40 :: blk g6 (c3 u).toArray 40 :: PlB d.k v0 S' g :: L) (by (repeat first | exact Ent.refl _ | refine Ent.step (by first | exact Ent.refl _ | exact Ent.skip (Ent.refl _) | exact Ent.skip (Ent.skip (Ent.refl _)) | exact Ent.skip (Ent.skip (Ent.skip (Ent.refl _))) | exact Ent.skip (Ent.skip (Ent.skip (Ent.skip (Ent.refl _)))) | exact Ent.skip (Ent.skip (Ent.skip (Ent.skip (Ent.skip (Ent.refl _))))) | exact Ent.skip (Ent.skip (Ent.skip (Ent.skip (Ent.skip (Ent.skip (Ent.refl _)))))) | exact Ent.skip (Ent.skip (Ent.skip (Ent.skip (Ent.skip (Ent.skip (Ent.skip (Ent.refl _))))))) | exact Ent.skip (Ent.skip (Ent.skip (Ent.skip (Ent.skip (Ent.skip (Ent.skip (Ent.skip (Ent.refl _)))))))) | exact Ent.skip (Ent.skip (Ent.skip (Ent.skip (Ent.skip (Ent.skip (Ent.skip (Ent.skip (Ent.skip (Ent.refl _)))))))))) ?_)))).mono ?_; clear hs; rintro e w ⟨rfl, hs⟩; rw [hev2.out] at hs))
    replace hs : St w0 (blk g4 (c3 V3.z).toArray 40 :: blk g6 (c3 u).toArray 40 :: blk X (slC v0 d M F) 67 :: PlB d.k v0 S' g :: HSet M S' :: FlP F bd evs' rds :: L) w := hs.ent (by (repeat first | exact Ent.refl _ | refine Ent.step (by first | exact Ent.refl _ | exact Ent.skip (Ent.refl _) | exact Ent.skip (Ent.skip (Ent.refl _)) | exact Ent.skip (Ent.skip (Ent.skip (Ent.refl _))) | exact Ent.skip (Ent.skip (Ent.skip (Ent.skip (Ent.refl _)))) | exact Ent.skip (Ent.skip (Ent.skip (Ent.skip (Ent.skip (Ent.refl _))))) | exact Ent.skip (Ent.skip (Ent.skip (Ent.skip (Ent.skip (Ent.skip (Ent.refl _)))))) | exact Ent.skip (Ent.skip (Ent.skip (Ent.skip (Ent.skip (Ent.skip (Ent.skip (Ent.refl _))))))) | exact Ent.skip (Ent.skip (Ent.skip (Ent.skip (Ent.skip (Ent.skip (Ent.skip (Ent.skip (Ent.refl _)))))))) | exact Ent.skip (Ent.skip (Ent.skip (Ent.skip (Ent.skip (Ent.skip (Ent.skip (Ent.skip (Ent.skip (Ent.refl _)))))))))) ?_))
    go_wp2_with (first
      | (refine wpl_load3 (v := u) rfl ?hh agg3 size3n hs ?_; case hh => exact has3_tail has3_slot)
      | (refine wpl_store_agg (v := val3 u) rfl rfl (size3 _) hs WrA.slot3 ?_; clear hs; intro w hs))
    refine bodyPost_at (results_cell_tmp Try.results31 rfl (hs.slot_run agg3 (size3 _))) rfl ?_
    exact ⟨rfl, hs.drop.drop⟩
theorem insS_in {i : Nat} : ∀ {S : List Nat}, S.Pairwise (· < ·) → i ∈ S → insS i S = S
  | [], _, h => by cases h
  | a :: l, hs, h => by
    obtain ⟨h1, h2⟩ := List.pairwise_cons.1 hs
    unfold insS
    rcases List.mem_cons.1 h with rfl | h
    · rw [if_neg (by omega), if_pos rfl]
    · have := h1 i h
      rw [if_neg (by omega), if_neg (by omega), insS_in h2 h]
/-- Set, of what it refuses. -/
theorem set_out {w0 w : World} {L : List As} {X M : Nat} {v0 : Value} {d : V3} {F : Option Nat} (hs : St w0 (blk X (slC v0 d M F) 67 :: L) w) {i : Int} {v : V3} {e : Int} (he : Hid (errV d.k i v = e)) (h0 : e ≠ 0) :
    Calls Try.prog 30 #[.pointer (some ⟨X, 0, none⟩), .int .i64 i, val3 v] w fun r w' => r = .returned (.int .i64 e) ∧ Grew w w' := by
  have d0 : (e == 0) = false := by simpa using h0
  have hw := St.start w
  have HC := Lib.hid (fun (w : World) (hs : St w0 (blk X (slC v0 d M F) 67 :: L) w) => scheck_v hs he)
  clear he
  go_enter Try.func30, Try.ntmps30
  go_upto_region 1 with (first
    | (refine wpl_box_v (v := val3 v) rfl hw ?_; clear hw; intro g5 w1 hw))
  replace hw : St _ [blk g5 (c3 v).toArray 40] _ := hw
  go_wp2_with (first
    | (refine wpl_load3 (v := v) rfl ?hh agg3 size3n hw ?_; case hh => exact has3_slot)
    | (go_at_call 39; refine (HC.out _ (hs.grew hw.made_grew)).mono ?_; rintro r w3 ⟨rfl, hg2⟩; replace hw := hw.grew hg2; clear hg2))
  go_ret
  exact ⟨rfl, hw.made_grew⟩
set_option maxHeartbeats 1000000 in
theorem set_in {w0 w : World} {L : List As} {X M : Nat} {v0 : Value} {d : V3} {F : Option Nat} {S : List Nat} {g : Nat → V3} {evs : List Ev} {rds : List Nat} {bd : Int}
    (hs : St w0 (blk X (slC v0 d M F) 67 :: PlB d.k v0 S g :: HSet M S :: FlP F bd evs rds :: L) w) {i : Nat} (hi : i < 65536) {v : V3} (hvk : v.k = d.k) (hok : okVal v = true) (hl : evs.length < 4611686018427387904)
    {b : Bool} {g' : Nat → V3} (hb : Hid (memS S (i : Nat) = b)) (hg : Hid ((if b then pG g (i : Nat) v else g) = g')) {evs' : List Ev} (hev : Hid ((if b then ntE F evs 2 (i : Nat) else evs) = evs')) :
    Calls Try.prog 30 #[.pointer (some ⟨X, 0, none⟩), .int .i64 (i : Nat), val3 v] w fun r w' => r = .returned (.int .i64 (if b then 0 else 10)) ∧
      St w0 (blk X (slC v0 d M F) 67 :: PlB d.k v0 S g' :: HSet M S :: FlP F bd evs' rds :: L) w' := by
  have HE : Hid (errV d.k ((i : Nat) : Int) v = 0) := by
    rw [Hid]; unfold errV
    rw [if_pos (okI_iff.2 (by omega)), if_pos (by simp [hok, hvk])]
  have hsrt := (hs.up2.sorted).1
  obtain ⟨u, hu⟩ : ∃ u, Hid (getG S g (i : Nat) = u) := ⟨_, rfl⟩
  have hwf := wf_nat (i := i) (by omega)
  have HG := Lib.hid (fun (w : World) (L : List As) (hs : St w0 (PlB d.k v0 S g :: L) w) => pl_get hs hwf hu hb)
  have HN := Lib.hid (fun (w : World) (L : List As) (hs : St w0 (blk X (slC v0 d M F) 67 :: FlP F bd evs rds :: L) w) => sl_note (k := 2) (i := ((i : Nat) : Int)) hs (by decide) (by decide) (by omega) hl)
  have HP := Lib.hid (fun (w : World) (L : List As) (hs : St w0 (PlB d.k v0 S g :: L) w) => pl_put hs hi hvk hok hu hb rfl rfl)
  have hr0 := fun L => Rd.sl0 (w0 := w0) (X := X) (v := v0) (d := d) (M := M) (F := F) (L := L) (t := 67)
  clear hl hvk hok hwf
  go_enter Try.func30, Try.ntmps30
  go_upto_region 1 with (first
    | (refine wpl_box_v (v := val3 v) rfl hs ?_; clear hs; intro g5 w hs))
  replace hs : St w0 (blk X (slC v0 d M F) 67 :: blk g5 (c3 v).toArray 40 :: PlB d.k v0 S g :: HSet M S :: FlP F bd evs rds :: L) w := hs.ent (by (repeat first | exact Ent.refl _ | refine Ent.step (by first | exact Ent.refl _ | exact Ent.skip (Ent.refl _) | exact Ent.skip (Ent.skip (Ent.refl _)) | exact Ent.skip (Ent.skip (Ent.skip (Ent.refl _))) | exact Ent.skip (Ent.skip (Ent.skip (Ent.skip (Ent.refl _)))) | exact Ent.skip (Ent.skip (Ent.skip (Ent.skip (Ent.skip (Ent.refl _))))) | exact Ent.skip (Ent.skip (Ent.skip (Ent.skip (Ent.skip (Ent.skip (Ent.refl _)))))) | exact Ent.skip (Ent.skip (Ent.skip (Ent.skip (Ent.skip (Ent.skip (Ent.skip (Ent.refl _))))))) | exact Ent.skip (Ent.skip (Ent.skip (Ent.skip (Ent.skip (Ent.skip (Ent.skip (Ent.skip (Ent.refl _)))))))) | exact Ent.skip (Ent.skip (Ent.skip (Ent.skip (Ent.skip (Ent.skip (Ent.skip (Ent.skip (Ent.skip (Ent.refl _)))))))))) ?_))
  have hv5 := (has3_tail (has3_slot (w0 := w0) (L := []) (g := g5) (v := v) (t := 40)) : Has3 w0 [blk X (slC v0 d M F) 67, blk g5 (c3 v).toArray 40] g5 v)
  have hc0 := hr0 _ _ hs
  go_upto_region 5 with (first
    | (refine wpl_load3 (v := v) rfl ?hh agg3 size3n hs.only2 ?_; case hh => exact hv5)
    | (go_at_call 39; refine (scheck_v hs HE).mono ?_; rintro r w3 ⟨rfl, hg2⟩; replace hs := hs.grew hg2; clear hg2 hc0; have hc0 := hr0 _ _ hs)
    | (refine wpl_inv1 (v := v0) (v1 := .int .i64 ((i : Nat) : Int)) rfl rfl (HG.out _ _ hs.up2) ?_; clear hc0; rintro r w ⟨rfl, hg2⟩; replace hs := hs.grew hg2; clear hg2)
    | (refine wpl_alloc zero3 hs ?_; clear hs; intro g8 w hs)
    | (refine wpl_store_agg (v := val3 u) rfl rfl (size3 _) hs WrA.slot3 ?_; clear hs; intro w hs))
  replace hs : St w0 (blk X (slC v0 d M F) 67 :: blk g5 (c3 v).toArray 40 :: PlB d.k v0 S g :: HSet M S :: FlP F bd evs rds :: blk g8 (c3 u).toArray 40 :: L) w := hs.ent (by (repeat first | exact Ent.refl _ | refine Ent.step (by first | exact Ent.refl _ | exact Ent.skip (Ent.refl _) | exact Ent.skip (Ent.skip (Ent.refl _)) | exact Ent.skip (Ent.skip (Ent.skip (Ent.refl _))) | exact Ent.skip (Ent.skip (Ent.skip (Ent.skip (Ent.refl _)))) | exact Ent.skip (Ent.skip (Ent.skip (Ent.skip (Ent.skip (Ent.refl _))))) | exact Ent.skip (Ent.skip (Ent.skip (Ent.skip (Ent.skip (Ent.skip (Ent.refl _)))))) | exact Ent.skip (Ent.skip (Ent.skip (Ent.skip (Ent.skip (Ent.skip (Ent.skip (Ent.refl _))))))) | exact Ent.skip (Ent.skip (Ent.skip (Ent.skip (Ent.skip (Ent.skip (Ent.skip (Ent.skip (Ent.refl _)))))))) | exact Ent.skip (Ent.skip (Ent.skip (Ent.skip (Ent.skip (Ent.skip (Ent.skip (Ent.skip (Ent.skip (Ent.refl _)))))))))) ?_))
  cases b
  · obtain rfl : evs = evs' := hev.out
    obtain rfl : g = g' := hg.out
    clear HN HP
    go_wp2
    go_ret
    exact ⟨rfl, (hs.ent (M := blk X (slC v0 d M F) 67 :: PlB d.k v0 S g :: HSet M S :: FlP F bd evs rds :: blk g5 (c3 v).toArray 40 :: blk g8 (c3 u).toArray 40 :: L) (by (repeat first | exact Ent.refl _ | refine Ent.step (by first | exact Ent.refl _ | exact Ent.skip (Ent.refl _) | exact Ent.skip (Ent.skip (Ent.refl _)) | exact Ent.skip (Ent.skip (Ent.skip (Ent.refl _))) | exact Ent.skip (Ent.skip (Ent.skip (Ent.skip (Ent.refl _)))) | exact Ent.skip (Ent.skip (Ent.skip (Ent.skip (Ent.skip (Ent.refl _))))) | exact Ent.skip (Ent.skip (Ent.skip (Ent.skip (Ent.skip (Ent.skip (Ent.refl _)))))) | exact Ent.skip (Ent.skip (Ent.skip (Ent.skip (Ent.skip (Ent.skip (Ent.skip (Ent.refl _))))))) | exact Ent.skip (Ent.skip (Ent.skip (Ent.skip (Ent.skip (Ent.skip (Ent.skip (Ent.skip (Ent.refl _)))))))) | exact Ent.skip (Ent.skip (Ent.skip (Ent.skip (Ent.skip (Ent.skip (Ent.skip (Ent.skip (Ent.skip (Ent.refl _)))))))))) ?_))).up4.drop.up4.drop⟩
  · have hev2 : Hid (ntE F evs 2 ((i : Nat) : Int) = evs') := hev.out
    have hg2 : Hid (pG g ((i : Nat) : Int) v = g') := hg.out
    have hss : Hid (insS i S = S) := insS_in hsrt (memS_iff.1 hb.out)
    rw [hg2.out, hss.out] at HP
    clear hev hg hg2 hb hu HG hss HE
    go_upto_region 7 with (fail)
    refine wp_region_plain [false, false, false, false, false, false, true] hs.only2 (by kernel_rfl) (by kernel_rfl) fun hne => ?_
    have c0 := (hr0 [blk g5 (c3 v).toArray 40]).alln
    have v0' := (hv5 0 _ rfl).alln
    have v1' := (hv5 1 _ rfl).alln
    have v2' := (hv5 2 _ rfl).alln
    simp only [Nat.zero_add] at v0' v1' v2'
    simp only [pickOps]
    repeat (go_big_quiet_step (fail))
    refine wpQuiet_nil ?_
    clear hne c0 v0' v1' v2'
    replace hs := hs.drew
    simp only [chainIx]
    refine wpChain_last rfl ?_
    refine wpl_inv2 (v := v0) (v1 := .int .i64 ((i : Nat) : Int)) (v2 := val3 v) rfl rfl rfl (HP.out _ _ hs.up2) ?_
    clear hs
    rintro r w ⟨rfl, hs⟩
    refine wpList_nil ⟨rfl, ?_⟩
    replace hs : St w0 (blk X (slC v0 d M F) 67 :: FlP F bd evs rds :: PlB d.k v0 S g' :: HSet M S :: blk g5 (c3 v).toArray 40 :: blk g8 (c3 u).toArray 40 :: L) w := hs.ent (by (repeat first | exact Ent.refl _ | refine Ent.step (by first | exact Ent.refl _ | exact Ent.skip (Ent.refl _) | exact Ent.skip (Ent.skip (Ent.refl _)) | exact Ent.skip (Ent.skip (Ent.skip (Ent.refl _))) | exact Ent.skip (Ent.skip (Ent.skip (Ent.skip (Ent.refl _)))) | exact Ent.skip (Ent.skip (Ent.skip (Ent.skip (Ent.skip (Ent.refl _))))) | exact Ent.skip (Ent.skip (Ent.skip (Ent.skip (Ent.skip (Ent.skip (Ent.refl _)))))) | exact Ent.skip (Ent.skip (Ent.skip (Ent.skip (Ent.skip (Ent.skip (Ent.skip (Ent.refl _))))))) | exact Ent.skip (Ent.skip (Ent.skip (Ent.skip (Ent.skip (Ent.skip (Ent.skip (Ent.skip (Ent.refl _)))))))) | exact Ent.skip (Ent.skip (Ent.skip (Ent.skip (Ent.skip (Ent.skip (Ent.skip (Ent.skip (Ent.skip (Ent.refl _)))))))))) ?_))
    go_wp2_with (first
      | (go_at_call 41; refine (HN.out _ _ hs).mono ?_; clear hs; rintro e w ⟨rfl, hs⟩; rw [hev2.out] at hs))
    go_ret
    exact ⟨rfl, (hs.ent (M := blk X (slC v0 d M F) 67 :: PlB d.k v0 S g' :: HSet M S :: FlP F bd evs' rds :: blk g5 (c3 v).toArray 40 :: blk g8 (c3 u).toArray 40 :: L) (by (repeat first | exact Ent.refl _ | refine Ent.step (by first | exact Ent.refl _ | exact Ent.skip (Ent.refl _) | exact Ent.skip (Ent.skip (Ent.refl _)) | exact Ent.skip (Ent.skip (Ent.skip (Ent.refl _))) | exact Ent.skip (Ent.skip (Ent.skip (Ent.skip (Ent.refl _)))) | exact Ent.skip (Ent.skip (Ent.skip (Ent.skip (Ent.skip (Ent.refl _))))) | exact Ent.skip (Ent.skip (Ent.skip (Ent.skip (Ent.skip (Ent.skip (Ent.refl _)))))) | exact Ent.skip (Ent.skip (Ent.skip (Ent.skip (Ent.skip (Ent.skip (Ent.skip (Ent.refl _))))))) | exact Ent.skip (Ent.skip (Ent.skip (Ent.skip (Ent.skip (Ent.skip (Ent.skip (Ent.skip (Ent.refl _)))))))) | exact Ent.skip (Ent.skip (Ent.skip (Ent.skip (Ent.skip (Ent.skip (Ent.skip (Ent.skip (Ent.skip (Ent.refl _)))))))))) ?_))).up4.drop.up4.drop⟩
end Go.Proofs.Ytmdjpeblbnbjmaa
