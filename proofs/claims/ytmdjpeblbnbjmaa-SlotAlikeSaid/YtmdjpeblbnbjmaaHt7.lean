/-
  The contracts of values found by sums (hash): Put.
-/
import Derived.Test.YtmdjpeblbnbjmaaHt6
set_option maxRecDepth 100000
namespace Go.Proofs.Ytmdjpeblbnbjmaa
open Go Go.RowKit
attribute [local irreducible] wpList Calls Code.wp okI okN pS memS getG homeN at_ insS FreeAt pG

theorem cs5_setv {l : List HS} {p i : Nat} {u : V3} (v : V3) (h : l[p]? = some (HS.f i u)) : splice (cs5 l) (p * 5 + 2) (c3 v) = cs5 (l.set p (HS.f i v)) := by
  have h0 : (cs5 l)[p * 5 + 0]? = some (.int .i64 1) := flat_get c5_len h 0 _ rfl
  have h1 : (cs5 l)[p * 5 + 1]? = some (.int .i64 (i : Nat)) := flat_get c5_len h 1 _ rfl
  rw [Nat.add_zero] at h0
  rw [splice_in h1, splice_in h0]
  exact flat_set c5_len (HS.f i v) (List.getElem?_eq_some_iff.1 h).1
theorem ht_put_bad {w0 w : World} {L : List As} {D : Nat} {S : List Nat} {g : Nat → V3} (hs : St w0 (HtB D S g :: L) w) {i : Int} (hi2 : ¬ (0 ≤ i ∧ i < 65536)) (v : V3) :
    Calls Try.prog 96 #[.pointer (some ⟨D, 0, none⟩), .int .i64 i, val3 v] w fun e w' => e = .returned (.tuple #[val3 V3.z, .bool false]) ∧ St w0 (HtB D S g :: L) w' := by
  by_cases h0 : i < 0
  all_goals
    go_enter Try.func96, Try.ntmps96
    go_upto_region 2 with (first
      | (refine wpl_box_v (v := val3 v) rfl hs ?_; clear hs; intro g5 w hs)
      | (refine wpl_alloc zero3 hs ?_; clear hs; intro g6 w hs))
    try replace hs : St w0 (blk g6 (c3 V3.z).toArray 40 :: blk g5 (c3 v).toArray 40 :: HtB D S g :: L) w := hs
    go_wp2_with (first
      | (refine wpl_store_agg (v := val3 V3.z) rfl rfl (size3 _) hs WrA.slot3 ?_; clear hs; intro w hs))
    refine bodyPost_at (results_cell_tmp Try.results96 rfl (hs.slot_run agg3 (size3 _))) rfl ?_
    exact ⟨rfl, hs.drop.drop⟩
theorem find_free2 {w0 w : World} {L : List As} {D left n : Nat} {S : List Nat} {g : Nat → V3} {l : List HS} {A : Option Addr} {cap i : Nat} (hs : St w0 (blk D (htC S left A n cap) 140 :: own A n cap 172 5 (cs5 l) :: L) w) (hok : Hid (HtOk n l S g left)) (hroom : S.length + left < n) (hi : i < 65536) (hiS : i ∉ S) :
    Calls Try.prog 99 #[.pointer (some ⟨D, 0, none⟩), .int .i64 (i : Nat)] w fun e w' => ∃ q : Nat, e = .returned (.tuple #[.int .i64 (-1), .int .i64 (q : Nat)]) ∧ Grew w w' :=
  (find_free hs hok hroom hi hiS).mono fun _ _ ⟨q, _, _, he, hg⟩ => ⟨q, he, hg⟩
theorem HtOk.room3 {n : Nat} {S : List Nat} {left : Nat} (hn : 8 ≤ n) (hr : 4 * (S.length + left + 1) ≤ 3 * n) : S.length + left < n := by omega
theorem ht_put_new {w0 w : World} {L : List As} {D : Nat} {S : List Nat} {g : Nat → V3} (hs : St w0 (HtB D S g :: L) w) {i : Nat} (hi : i ∉ S) (hi6 : i < 65536) (v : V3) :
    Calls Try.prog 96 #[.pointer (some ⟨D, 0, none⟩), .int .i64 (i : Nat), val3 v] w fun e w' => e = .returned (.tuple #[val3 V3.z, .bool false]) ∧ St w0 (HtB D (insS i S) (pG g (i : Nat) v) :: L) w' := by
  obtain ⟨l, left, A, cap, ⟨hok, hrm⟩, hs⟩ := hs.htopen
  have hrm2 := hok.room2 hrm
  have hlS := len_insS hi
  have hsz : S.length + 1 ≤ 65536 := by
    rw [← hlS]
    refine sorted_short (sorted_insS hok.sorted) fun j hj => ?_
    rcases mem_insS.1 hj with rfl | hj
    · exact hi6
    · exact hok.small j hj
  have HLS := Lib.hid hlS
  have HOK := Lib.hid hok
  have d0 : decide ((i : Int) < 0) = false := decide_eq_false (by omega)
  have d1 : decide (65536 ≤ (i : Int)) = false := decide_eq_false (by omega)
  clear hok hlS
  go_enter Try.func96, Try.ntmps96
  go_upto_region 3 with (first
    | (refine wpl_box_v (v := val3 v) rfl hs ?_; clear hs; intro g5 w hs)
    | (refine wpl_alloc zero3 hs ?_; clear hs; intro g6 w hs))
  replace hs : St w0 (blk D (htC S left A l.length cap) 140 :: own A l.length cap 172 5 (cs5 l) :: blk g5 (c3 v).toArray 40 :: blk g6 (c3 V3.z).toArray 40 :: L) w := hs.ent (by (repeat first | exact Ent.refl _ | refine Ent.step (by first | exact Ent.refl _ | exact Ent.skip (Ent.refl _) | exact Ent.skip (Ent.skip (Ent.refl _)) | exact Ent.skip (Ent.skip (Ent.skip (Ent.refl _))) | exact Ent.skip (Ent.skip (Ent.skip (Ent.skip (Ent.refl _)))) | exact Ent.skip (Ent.skip (Ent.skip (Ent.skip (Ent.skip (Ent.refl _))))) | exact Ent.skip (Ent.skip (Ent.skip (Ent.skip (Ent.skip (Ent.skip (Ent.refl _)))))) | exact Ent.skip (Ent.skip (Ent.skip (Ent.skip (Ent.skip (Ent.skip (Ent.skip (Ent.refl _))))))) | exact Ent.skip (Ent.skip (Ent.skip (Ent.skip (Ent.skip (Ent.skip (Ent.skip (Ent.skip (Ent.refl _)))))))) | exact Ent.skip (Ent.skip (Ent.skip (Ent.skip (Ent.skip (Ent.skip (Ent.skip (Ent.skip (Ent.skip (Ent.refl _)))))))))) ?_))
  go_upto_region 9 with (first
    | (go_at_call 99; refine (find_free2 hs HOK hrm2 hi6 hi).mono ?_; rintro e w2 ⟨q, rfl, hg2⟩; replace hs := hs.grew hg2; clear hg2)
    | (go_at_call 98; refine (ht_grow hs HOK.out hrm hsz).mono ?_; clear hs; rintro e w ⟨l', left', A', cap', rfl, hok', hrm', hs⟩))
  have hrm3 : S.length + left' < l'.length := HtOk.room3 hok'.pow.pos.1 hrm'
  have HOK2 := Lib.hid hok'
  clear hok'
  go_wp2_with (first
    | (refine wpl_load3 (v := v) rfl ?hh agg3 size3n hs ?_; case hh => exact has3_tail (has3_tail has3_slot))
    | (go_at_call 100; refine (ht_put_raw hs HOK2.out hrm3 hi6 hi v).mono ?_; clear hs; rintro e w ⟨l2, left2, rfl, hok2, hle2, hs⟩)
    | (refine wpl_store_agg (v := val3 V3.z) rfl rfl (size3 _) (hs.ent (Ent.skip (Ent.skip (Ent.skip (Ent.refl _))))) WrA.slot3 ?_; clear hs; intro w hs))
  refine bodyPost_at (results_cell_tmp Try.results96 rfl (hs.slot_run agg3 (size3 _))) rfl ?_
  refine ⟨rfl, ?_⟩
  have hl2 : l'.length = l2.length := hok2.len.symm
  have hls := HLS.out
  rw [hl2] at hs hok2 hrm'
  exact ((hs.drop.htshut hok2 (by omega)).rot).drop
end Go.Proofs.Ytmdjpeblbnbjmaa
