/-
  The contracts of values found by sums (hash): Put of an index that is there; Put.
-/
import Derived.Test.YtmdjpeblbnbjmaaHt7
set_option maxRecDepth 100000
namespace Go.Proofs.Ytmdjpeblbnbjmaa
open Go Go.RowKit
attribute [local irreducible] wpList Calls Code.wp okI okN pS memS getG homeN at_ insS FreeAt pG

set_option maxHeartbeats 1000000 in
theorem ht_put_old {w0 w : World} {L : List As} {D : Nat} {S : List Nat} {g : Nat → V3} (hs : St w0 (HtB D S g :: L) w) {i : Nat} (hi : i ∈ S) (v : V3) :
    Calls Try.prog 96 #[.pointer (some ⟨D, 0, none⟩), .int .i64 (i : Nat), val3 v] w fun e w' => e = .returned (.tuple #[val3 (g i), .bool true]) ∧ St w0 (HtB D S (pG g (i : Nat) v) :: L) w' := by
  obtain ⟨l, left, A, cap, ⟨hok, hrm⟩, hs⟩ := hs.htopen
  obtain ⟨p, hp⟩ := hok.has i hi
  have hi6 := hok.small i hi
  have hpl := (List.getElem?_eq_some_iff.1 hp).1
  obtain ⟨gA, rfl⟩ := (hs.ent (Ent.swap _ _ _)).own_at (by omega)
  have hturn := hok.turn hp v
  rw [updG_pG] at hturn
  have HT := Lib.hid hturn
  have HW := Lib.hid (cs5_setv v hp)
  generalize g i = u at hp ⊢
  have hrv := fun L k x hx => (Rd.row5 (w0 := w0) (g := gA) (n := l.length) (cap := cap) (t := 172) (L := L) hp k x hx).tail (p := blk D (htC S left (some ⟨gA, 0, none⟩) l.length cap) 140)
  have hrv3 : ∀ L k x, (c3 u)[k]? = some x → Rd w0 (blk D (htC S left (some ⟨gA, 0, none⟩) l.length cap) 140 :: own (some ⟨gA, 0, none⟩) l.length cap 172 5 (cs5 l) :: L) ⟨gA, p * 5 + 2 + k, none⟩ x := fun L k x hx => by
    rw [show p * 5 + 2 + k = p * 5 + (k + 2) by omega]
    exact hrv L (k + 2) x (by simpa [c5, HS.vl] using hx)
  have hr2 := fun L => Rd.ht2 (w0 := w0) (D := D) (n := l.length) (cap := cap) (A := some ⟨gA, 0, none⟩) (S := S) (left := left) (t := 140) (L := L)
  have HP := Lib.hid hp
  have HOK := Lib.hid hok
  have d0 : decide ((i : Int) < 0) = false := decide_eq_false (by omega)
  have d1 : decide (65536 ≤ (i : Int)) = false := decide_eq_false (by omega)
  clear hp hok hrv hi hturn
  go_enter Try.func96, Try.ntmps96
  go_upto_region 3 with (first
    | (refine wpl_box_v (v := val3 v) rfl hs ?_; clear hs; intro g5 w hs)
    | (refine wpl_alloc zero3 hs ?_; clear hs; intro g6 w hs))
  replace hs : St w0 (blk D (htC S left (some ⟨gA, 0, none⟩) l.length cap) 140 :: own (some ⟨gA, 0, none⟩) l.length cap 172 5 (cs5 l) :: blk g5 (c3 v).toArray 40 :: blk g6 (c3 V3.z).toArray 40 :: L) w := hs.ent (by (repeat first | exact Ent.refl _ | refine Ent.step (by first | exact Ent.refl _ | exact Ent.skip (Ent.refl _) | exact Ent.skip (Ent.skip (Ent.refl _)) | exact Ent.skip (Ent.skip (Ent.skip (Ent.refl _))) | exact Ent.skip (Ent.skip (Ent.skip (Ent.skip (Ent.refl _)))) | exact Ent.skip (Ent.skip (Ent.skip (Ent.skip (Ent.skip (Ent.refl _))))) | exact Ent.skip (Ent.skip (Ent.skip (Ent.skip (Ent.skip (Ent.skip (Ent.refl _)))))) | exact Ent.skip (Ent.skip (Ent.skip (Ent.skip (Ent.skip (Ent.skip (Ent.skip (Ent.refl _))))))) | exact Ent.skip (Ent.skip (Ent.skip (Ent.skip (Ent.skip (Ent.skip (Ent.skip (Ent.skip (Ent.refl _)))))))) | exact Ent.skip (Ent.skip (Ent.skip (Ent.skip (Ent.skip (Ent.skip (Ent.skip (Ent.skip (Ent.skip (Ent.refl _)))))))))) ?_))
  go_upto_region 6 with (first
    | (go_at_call 99; refine (find_in_v hs HOK hi6 HP).mono ?_; rintro e w2 ⟨rfl, hg2⟩; replace hs := hs.grew hg2; clear hg2; have hc2 := hr2 _ _ hs)
    | (refine wpl_load_agg (cs := c3 u) (b := gA) (o := p * 5 + 2) rfl agg3 (size3 u) hs (hrv3 _) ?_; clear hc2)
    | (refine wpl_alloc zero3 hs ?_; clear hs; intro g10 w hs)
    | (refine wpl_store_agg (v := val3 u) rfl rfl (size3 _) hs WrA.slot3 ?_; clear hs; intro w hs))
  clear hrv3
  have hs2 : St w0 (blk D (htC S left (some ⟨gA, 0, none⟩) l.length cap) 140 :: blk g5 (c3 v).toArray 40 :: own (some ⟨gA, 0, none⟩) l.length cap 172 5 (cs5 l) :: blk g10 (c3 u).toArray 40 :: blk g6 (c3 V3.z).toArray 40 :: L) w := hs.ent (by (repeat first | exact Ent.refl _ | refine Ent.step (by first | exact Ent.refl _ | exact Ent.skip (Ent.refl _) | exact Ent.skip (Ent.skip (Ent.refl _)) | exact Ent.skip (Ent.skip (Ent.skip (Ent.refl _))) | exact Ent.skip (Ent.skip (Ent.skip (Ent.skip (Ent.refl _)))) | exact Ent.skip (Ent.skip (Ent.skip (Ent.skip (Ent.skip (Ent.refl _))))) | exact Ent.skip (Ent.skip (Ent.skip (Ent.skip (Ent.skip (Ent.skip (Ent.refl _)))))) | exact Ent.skip (Ent.skip (Ent.skip (Ent.skip (Ent.skip (Ent.skip (Ent.skip (Ent.refl _))))))) | exact Ent.skip (Ent.skip (Ent.skip (Ent.skip (Ent.skip (Ent.skip (Ent.skip (Ent.skip (Ent.refl _)))))))) | exact Ent.skip (Ent.skip (Ent.skip (Ent.skip (Ent.skip (Ent.skip (Ent.skip (Ent.skip (Ent.skip (Ent.refl _)))))))))) ?_))
  clear hs
  simp only [Act.put, List.setIfInBounds_toArray, List.set_cons_succ, List.set_cons_zero]
  refine wp_region_plain [false, false, false, false, false, false, false, false, true] hs2.only2 (by kernel_rfl) (by kernel_rfl) fun hne => ?_
  have hc2 := (hr2 [blk g5 (c3 v).toArray 40]).alln
  have hh := has3_tail (p := blk D (htC S left (some ⟨gA, 0, none⟩) l.length cap) 140) (has3_slot (w0 := w0) (L := []) (g := g5) (v := v) (t := 40))
  have hv0 := (hh 0 _ rfl).alln
  have hv1 := (hh 1 _ rfl).alln
  have hv2 := (hh 2 _ rfl).alln
  simp only [Nat.add_zero, Nat.zero_add] at hv0 hv1 hv2
  clear hh
  simp only [pickOps]
  repeat (go_big_quiet_step (fail))
  refine wpQuiet_nil ?_
  clear hne hc2 hv0 hv1 hv2
  simp only [chainIx]
  refine wpChain_last rfl ?_
  refine wpl_store_agg (v := val3 v) rfl rfl (size3 v) (hs2.ent (M := own (some ⟨gA, 0, none⟩) l.length cap 172 5 (cs5 l) :: blk g10 (c3 u).toArray 40 :: blk g6 (c3 V3.z).toArray 40 :: blk D (htC S left (some ⟨gA, 0, none⟩) l.length cap) 140 :: blk g5 (c3 v).toArray 40 :: L) (by (repeat first | exact Ent.refl _ | refine Ent.step (by first | exact Ent.refl _ | exact Ent.skip (Ent.refl _) | exact Ent.skip (Ent.skip (Ent.refl _)) | exact Ent.skip (Ent.skip (Ent.skip (Ent.refl _))) | exact Ent.skip (Ent.skip (Ent.skip (Ent.skip (Ent.refl _)))) | exact Ent.skip (Ent.skip (Ent.skip (Ent.skip (Ent.skip (Ent.refl _))))) | exact Ent.skip (Ent.skip (Ent.skip (Ent.skip (Ent.skip (Ent.skip (Ent.refl _)))))) | exact Ent.skip (Ent.skip (Ent.skip (Ent.skip (Ent.skip (Ent.skip (Ent.skip (Ent.refl _))))))) | exact Ent.skip (Ent.skip (Ent.skip (Ent.skip (Ent.skip (Ent.skip (Ent.skip (Ent.skip (Ent.refl _)))))))) | exact Ent.skip (Ent.skip (Ent.skip (Ent.skip (Ent.skip (Ent.skip (Ent.skip (Ent.skip (Ent.skip (Ent.refl _)))))))))) ?_))).drew (WrA.own (o := p * 5 + 2) (vs := c3 v) (by rw [cs5_len]; simp [c3]; omega) (one3 v)) ?_
  clear hs2
  intro w hs
  rw [HW.out] at hs
  refine wpList_nil ⟨rfl, ?_⟩
  go_wp2_with (first
    | (refine wpl_load3 (v := u) rfl ?hh agg3 size3n hs ?_; case hh => exact has3_tail has3_slot)
    | (refine wpl_store_agg (v := val3 u) rfl rfl (size3 _) (hs.ent (M := blk g6 (c3 V3.z).toArray 40 :: blk D (htC S left (some ⟨gA, 0, none⟩) l.length cap) 140 :: own (some ⟨gA, 0, none⟩) l.length cap 172 5 (cs5 (l.set p (HS.f i v))) :: blk g10 (c3 u).toArray 40 :: blk g5 (c3 v).toArray 40 :: L) (by (repeat first | exact Ent.refl _ | refine Ent.step (by first | exact Ent.refl _ | exact Ent.skip (Ent.refl _) | exact Ent.skip (Ent.skip (Ent.refl _)) | exact Ent.skip (Ent.skip (Ent.skip (Ent.refl _))) | exact Ent.skip (Ent.skip (Ent.skip (Ent.skip (Ent.refl _)))) | exact Ent.skip (Ent.skip (Ent.skip (Ent.skip (Ent.skip (Ent.refl _))))) | exact Ent.skip (Ent.skip (Ent.skip (Ent.skip (Ent.skip (Ent.skip (Ent.refl _)))))) | exact Ent.skip (Ent.skip (Ent.skip (Ent.skip (Ent.skip (Ent.skip (Ent.skip (Ent.refl _))))))) | exact Ent.skip (Ent.skip (Ent.skip (Ent.skip (Ent.skip (Ent.skip (Ent.skip (Ent.skip (Ent.refl _)))))))) | exact Ent.skip (Ent.skip (Ent.skip (Ent.skip (Ent.skip (Ent.skip (Ent.skip (Ent.skip (Ent.skip (Ent.refl _)))))))))) ?_))) WrA.slot3 ?_; clear hs; intro w hs))
  refine bodyPost_at (results_cell_tmp Try.results96 rfl (hs.slot_run agg3 (size3 _))) rfl ?_
  refine ⟨rfl, ?_⟩
  have e : l.length = (l.set p (HS.f i v)).length := by simp
  have hT := HT.out
  replace hs := hs.drop
  rw [e] at hs hT hrm
  exact (((hs.htshut hT hrm).rot.drop).rot).drop
theorem ht_put {w0 w : World} {L : List As} {D : Nat} {S : List Nat} {g : Nat → V3} (hs : St w0 (HtB D S g :: L) w) (i : Int) (v : V3) :
    Calls Try.prog 96 #[.pointer (some ⟨D, 0, none⟩), .int .i64 i, val3 v] w fun e w' => e = .returned (.tuple #[val3 (getG S g i), .bool (memS S i)]) ∧ St w0 (HtB D (pS S i) (if okI i then pG g i v else g) :: L) w' := by
  obtain ⟨l, left, A, cap, ⟨hok, hrm⟩, _⟩ := hs.htopen
  by_cases hi : 0 ≤ i ∧ i < 65536
  · obtain ⟨j, rfl⟩ := Int.eq_ofNat_of_zero_le hi.1
    have hj6 : j < 65536 := by omega
    rw [pS_in hj6, if_pos (okI_nat hj6)]
    by_cases hj : j ∈ S
    · rw [getG_in hj, memS_iff.2 hj, ins_id hok.sorted hj]
      exact ht_put_old hs hj v
    · have hm : memS S (j : Nat) = false := by
        cases hm : memS S (j : Nat) with
        | false => rfl
        | true => exact absurd (memS_iff.1 hm) hj
      rw [getG_out hm, hm]
      exact ht_put_new hs hj hj6 v
  · have hm := hok.memOut hi
    have ho : okI i = false := by unfold okI; exact decide_eq_false hi
    rw [getG_out hm, hm, show pS S i = S by unfold pS; rw [ho]; rfl, ho, if_neg (by decide)]
    exact ht_put_bad hs hi v
end Go.Proofs.Ytmdjpeblbnbjmaa
