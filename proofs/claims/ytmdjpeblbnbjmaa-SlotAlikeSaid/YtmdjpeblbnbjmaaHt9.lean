/-
  The contracts of values found by sums (hash): Take.
-/
import Derived.Test.YtmdjpeblbnbjmaaHt8
set_option maxRecDepth 100000
namespace Go.Proofs.Ytmdjpeblbnbjmaa
open Go Go.RowKit
attribute [local irreducible] wpList Calls Code.wp okI okN pS tS memS getG homeN at_ insS delS FreeAt pG

theorem ht_get_v {w0 w : World} {L : List As} {D : Nat} {S : List Nat} {g : Nat → V3} (hs : St w0 (HtB D S g :: L) w) {i : Int} {u : V3} {b : Bool} (hu : Hid (getG S g i = u)) (hb : Hid (memS S i = b)) :
    Calls Try.prog 94 #[.pointer (some ⟨D, 0, none⟩), .int .i64 i] w fun e w' => e = .returned (.tuple #[val3 u, .bool b]) ∧ Grew w w' := by
  rw [← hu.out, ← hb.out]; exact ht_get hs i
theorem ht_take_no {w0 w : World} {L : List As} {D : Nat} {S : List Nat} {g : Nat → V3} (hs : St w0 (HtB D S g :: L) w) {i : Int} (hm : memS S i = false) :
    Calls Try.prog 97 #[.pointer (some ⟨D, 0, none⟩), .int .i64 i] w fun e w' => e = .returned (.tuple #[val3 V3.z, .bool false]) ∧ St w0 (HtB D S g :: L) w' := by
  have HG := Lib.hid (getG_out (g := g) hm)
  have HM := Lib.hid hm
  clear hm
  go_enter Try.func97, Try.ntmps97
  go_wp2_with (first
    | (go_at_call 94; refine (ht_get_v hs.rot HG HM).mono ?_; rintro e w2 ⟨rfl, hg2⟩; replace hs := hs.grew hg2; clear hg2; have tk : True := trivial)
    | (refine wpl_alloc zero3 hs ?_; clear hs; intro g6 w hs)
    | (refine wpl_load3 (v := V3.z) rfl ?hh agg3 size3n hs ?_; case hh => exact has3_slot)
    | (refine wpl_store_agg (v := val3 V3.z) rfl rfl (size3 _) hs WrA.slot3 ?_; clear hs; intro w hs)
    | (refine wpl_store_agg (v := val3 V3.z) rfl rfl (size3 _) hs.rot WrA.slot3 ?_; clear hs; intro w hs))
  refine bodyPost_at (results_cell_tmp Try.results97 rfl (hs.slot_run agg3 (size3 _))) rfl ?_
  exact ⟨rfl, hs.drop.drop⟩
set_option maxHeartbeats 1000000 in
theorem ht_take_in {w0 w : World} {L : List As} {D : Nat} {S : List Nat} {g : Nat → V3} (hs : St w0 (HtB D S g :: L) w) {i : Nat} (hi : i ∈ S) :
    Calls Try.prog 97 #[.pointer (some ⟨D, 0, none⟩), .int .i64 (i : Nat)] w fun e w' => e = .returned (.tuple #[val3 (g i), .bool true]) ∧ St w0 (HtB D (delS i S) g :: L) w' := by
  have HG := Lib.hid (getG_in (g := g) hi)
  have HM := Lib.hid (memS_iff.2 hi)
  obtain ⟨u, HU⟩ : ∃ u, Hid (g i = u) := ⟨_, rfl⟩
  rw [HU.out] at HG ⊢
  go_enter Try.func97, Try.ntmps97
  go_upto_region 1 with (first
    | (refine wpl_alloc zero3 hs ?_; clear hs; intro g4 w hs))
  go_upto_region 3 with (first
    | (go_at_call 94; refine (ht_get_v hs.rot HG HM).mono ?_; rintro e w2 ⟨rfl, hg2⟩; replace hs := hs.grew hg2; clear hg2)
    | (refine wpl_alloc zero3 hs ?_; clear hs; intro g6 w hs)
    | (refine wpl_store_agg (v := val3 u) rfl rfl (size3 _) hs WrA.slot3 ?_; clear hs; intro w hs))
  replace hs : St w0 (HtB D S g :: blk g6 (c3 u).toArray 40 :: blk g4 (c3 V3.z).toArray 40 :: L) w := hs.ent (by (repeat first | exact Ent.refl _ | refine Ent.step (by first | exact Ent.refl _ | exact Ent.skip (Ent.refl _) | exact Ent.skip (Ent.skip (Ent.refl _)) | exact Ent.skip (Ent.skip (Ent.skip (Ent.refl _))) | exact Ent.skip (Ent.skip (Ent.skip (Ent.skip (Ent.refl _)))) | exact Ent.skip (Ent.skip (Ent.skip (Ent.skip (Ent.skip (Ent.refl _))))) | exact Ent.skip (Ent.skip (Ent.skip (Ent.skip (Ent.skip (Ent.skip (Ent.refl _)))))) | exact Ent.skip (Ent.skip (Ent.skip (Ent.skip (Ent.skip (Ent.skip (Ent.skip (Ent.refl _))))))) | exact Ent.skip (Ent.skip (Ent.skip (Ent.skip (Ent.skip (Ent.skip (Ent.skip (Ent.skip (Ent.refl _)))))))) | exact Ent.skip (Ent.skip (Ent.skip (Ent.skip (Ent.skip (Ent.skip (Ent.skip (Ent.skip (Ent.skip (Ent.refl _)))))))))) ?_))
  obtain ⟨l, left, A, cap, ⟨hok, hrm⟩, hs⟩ := hs.htopen
  obtain ⟨p, hp⟩ := hok.has i hi
  have hi6 := hok.small i hi
  have hpl := (List.getElem?_eq_some_iff.1 hp).1
  obtain ⟨gA, rfl⟩ := (hs.ent (Ent.swap _ _ _)).own_at (by omega)
  have HT := Lib.hid (hok.take hp)
  have hnb := hok.pow.pos
  have hdl := len_delS (sorted_nodup hok.sorted) hi
  have HDL : Hid (((S.length : Nat) : Int) - 1 = ((delS i S).length : Nat)) := by rw [Hid]; omega
  have HRM : Hid (4 * ((delS i S).length + (left + 1)) ≤ 3 * l.length) := by rw [Hid]; omega
  have hl262 : left ≤ 262144 := by omega
  have hs1 : 1 ≤ S.length := by omega
  have hs2 : S.length ≤ 262144 := by omega
  have HP := Lib.hid hp
  have HOK := Lib.hid hok
  clear hp hok hi hdl HG HM
  go_upto_region 4 with (first
    | (go_at_call 99; refine (find_in_v hs HOK hi6 HP).mono ?_; rintro e w2 ⟨rfl, hg2⟩; replace hs := hs.grew hg2; clear hg2))
  have hc2 := Rd.ht2 _ hs
  have hr0 := fun L => Rd.ht0 (w0 := w0) (D := D) (n := l.length) (cap := cap) (A := some ⟨gA, 0, none⟩) (S := S) (left := left) (t := 140) (L := L)
  have hr1 := fun L => Rd.ht1 (w0 := w0) (D := D) (n := l.length) (cap := cap) (A := some ⟨gA, 0, none⟩) (S := S) (left := left) (t := 140) (L := L)
  go_upto_region 5 with (first
    | (refine wpl_store_agg (v := val5 HS.t) rfl rfl (size5 _) (hs.ent (Ent.swap _ _ _)) (WrA.own (o := p * 5) (vs := c5 HS.t) (by rw [cs5_len, c5_len]; omega) (c5_one _)) ?_; clear hs hc2; intro w hs))
  rw [show splice (cs5 l) (p * 5) (c5 HS.t) = cs5 (l.set p HS.t) from flat_set c5_len _ hpl] at hs
  replace hs := hs.rot
  have hc0 := hr0 _ _ hs
  go_upto_region 6 with (first
    | (refine wpl_store rfl rfl rfl size_int1 hs (Wr.blk (k := 0) (by simp)) ?_; clear hs hc0; intro w hs))
  replace hs : St w0 (blk D #[.int .i64 ((S.length : Nat) - 1), .int .i64 (left : Nat), .slice (some ⟨gA, 0, none⟩) l.length cap] 140 :: own (some ⟨gA, 0, none⟩) l.length cap 172 5 (cs5 (l.set p HS.t)) :: blk g6 (c3 u).toArray 40 :: blk g4 (c3 V3.z).toArray 40 :: L) _ := hs
  have hc1 := Rd.blk (g := D) (k := 1) (cs := #[.int .i64 ((S.length : Nat) - 1), .int .i64 (left : Nat), .slice (some ⟨gA, 0, none⟩) l.length cap]) (v := .int .i64 (left : Nat)) rfl _ hs
  go_upto_region 7 with (first
    | (refine wpl_store rfl rfl rfl size_int1 hs (Wr.blk (k := 1) (by simp)) ?_; clear hs hc1; intro w hs))
  replace hs : St w0 (blk D #[.int .i64 ((S.length : Nat) - 1), .int .i64 ((left : Nat) + 1), .slice (some ⟨gA, 0, none⟩) l.length cap] 140 :: own (some ⟨gA, 0, none⟩) l.length cap 172 5 (cs5 (l.set p HS.t)) :: blk g6 (c3 u).toArray 40 :: blk g4 (c3 V3.z).toArray 40 :: L) _ := hs
  go_wp2_with (first
    | (refine wpl_load3 (v := u) rfl ?hh agg3 size3n hs ?_; case hh => exact has3_tail (has3_tail has3_slot))
    | (refine wpl_store_agg (v := val3 u) rfl rfl (size3 _) (hs.ent (Ent.skip (Ent.skip (Ent.skip (Ent.refl _))))) WrA.slot3 ?_; clear hs; intro w hs))
  refine bodyPost_at (results_cell_tmp Try.results97 rfl (hs.slot_run agg3 (size3 _))) rfl ?_
  refine ⟨rfl, ?_⟩
  have e : l.length = (l.set p HS.t).length := by simp
  have hT := HT.out
  have hRM := HRM.out
  replace hs := hs.drop
  rw [HDL.out, show ((left : Nat) : Int) + 1 = ((left + 1 : Nat) : Int) by omega] at hs
  rw [e] at hs hT hRM
  exact ((hs.htshut hT hRM).rot).drop
theorem ht_take {w0 w : World} {L : List As} {D : Nat} {S : List Nat} {g : Nat → V3} (hs : St w0 (HtB D S g :: L) w) (i : Int) :
    Calls Try.prog 97 #[.pointer (some ⟨D, 0, none⟩), .int .i64 i] w fun e w' => e = .returned (.tuple #[val3 (getG S g i), .bool (memS S i)]) ∧ St w0 (HtB D (tS S i) g :: L) w' := by
  cases hm : memS S i with
  | false =>
    rw [getG_out hm, show tS S i = S by unfold tS; rw [hm]; rfl]
    exact ht_take_no hs hm
  | true =>
    obtain ⟨j, rfl, hj⟩ := memS_in hm
    rw [getG_in hj, show tS S (j : Nat) = delS j S by unfold tS; rw [hm]; rfl]
    exact ht_take_in hs hj
end Go.Proofs.Ytmdjpeblbnbjmaa
