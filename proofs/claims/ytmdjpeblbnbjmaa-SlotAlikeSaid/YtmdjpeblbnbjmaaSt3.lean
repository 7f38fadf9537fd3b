/-
  One kind of place behind another (slot.Slot), 3: Put. (Printed by gen_put.py.)
-/
import Derived.Test.YtmdjpeblbnbjmaaSt2
import Derived.Deep.DeepCutAuto
import Derived.Deep.CutBlock
set_option maxRecDepth 100000
namespace Go.Proofs.Ytmdjpeblbnbjmaa
open Go Go.RowKit
attribute [local irreducible] wpList Calls Code.wp okI okN pS tS memS getG pG insS delS getV pV tV okVal errV ntE

theorem scheck_v {w0 w : World} {L : List As} {X M : Nat} {v0 : Value} {d : V3} {F : Option Nat} (hs : St w0 (blk X (slC v0 d M F) 67 :: L) w) {i : Int} {v : V3} {e : Int} (he : Hid (errV d.k i v = e)) :
    Calls Try.prog 39 #[.pointer (some ⟨X, 0, none⟩), .int .i64 i, val3 v] w fun r w' => r = .returned (.int .i64 e) ∧ Grew w w' := scheck2_c hs i v he
set_option maxHeartbeats 4000000 in
theorem put_in {w0 w : World} {L : List As} {X M : Nat} {v0 : Value} {d : V3} {F : Option Nat} {S : List Nat} {g : Nat → V3} {evs : List Ev} {rds : List Nat} {bd : Int}
    (hs : St w0 (blk X (slC v0 d M F) 67 :: PlB d.k v0 S g :: HSet M S :: FlP F bd evs rds :: L) w) {i : Nat} (hi : i < 65536) {v u : V3} (hvk : v.k = d.k) (hok : okVal v = true) (hl : evs.length < 4611686018427387904)
    {b : Bool} {S' : List Nat} {g' : Nat → V3} (hu : Hid (getG S g (i : Nat) = u)) (hb : Hid (memS S (i : Nat) = b)) (hS : Hid (insS i S = S')) (hg : Hid (pG g (i : Nat) v = g')) {evs' : List Ev} (hev : Hid (ntE F evs (kdE b) (i : Nat) = evs')) :
    Calls Try.prog 18 #[.pointer (some ⟨X, 0, none⟩), .int .i64 (i : Nat), val3 v] w fun r w' => r = .returned (.tuple #[val3 u, .bool b, .int .i64 0]) ∧
      St w0 (blk X (slC v0 d M F) 67 :: PlB d.k v0 S' g' :: HSet M S' :: FlP F bd evs' rds :: L) w' := by
  have HE : Hid (errV d.k ((i : Nat) : Int) v = 0) := by
    rw [Hid]; unfold errV
    rw [if_pos (okI_iff.2 (by omega)), if_pos (by simp [hok, hvk])]
  have hi2 : i < 16777216 := by omega
  have HN := Lib.hid (fun (w : World) (L : List As) (k : Int) (h1 : 1 ≤ k) (h2 : k ≤ 3) (hs : St w0 (blk X (slC v0 d M F) 67 :: FlP F bd evs rds :: L) w) => sl_note (i := ((i : Nat) : Int)) hs h1 h2 (by omega) hl)
  have HP := Lib.hid (fun (w : World) (L : List As) (hs : St w0 (PlB d.k v0 S g :: L) w) => pl_put hs hi hvk hok hu hb hS hg)
  clear hl hvk hok
  go_enter Try.func18, Try.ntmps18
  go_upto_region 1 with (first
    | (refine wpl_box_v (v := val3 v) rfl hs ?_; clear hs; intro g5 w hs)
    | (refine wpl_alloc zero3 hs ?_; clear hs; intro g6 w hs))
  replace hs : St w0 (blk X (slC v0 d M F) 67 :: blk g5 (c3 v).toArray 40 :: PlB d.k v0 S g :: HSet M S :: FlP F bd evs rds :: blk g6 (c3 V3.z).toArray 40 :: L) w := hs.ent (by (repeat first | exact Ent.refl _ | refine Ent.step (by first | exact Ent.refl _ | exact Ent.skip (Ent.refl _) | exact Ent.skip (Ent.skip (Ent.refl _)) | exact Ent.skip (Ent.skip (Ent.skip (Ent.refl _))) | exact Ent.skip (Ent.skip (Ent.skip (Ent.skip (Ent.refl _)))) | exact Ent.skip (Ent.skip (Ent.skip (Ent.skip (Ent.skip (Ent.refl _))))) | exact Ent.skip (Ent.skip (Ent.skip (Ent.skip (Ent.skip (Ent.skip (Ent.refl _)))))) | exact Ent.skip (Ent.skip (Ent.skip (Ent.skip (Ent.skip (Ent.skip (Ent.skip (Ent.refl _))))))) | exact Ent.skip (Ent.skip (Ent.skip (Ent.skip (Ent.skip (Ent.skip (Ent.skip (Ent.skip (Ent.refl _)))))))) | exact Ent.skip (Ent.skip (Ent.skip (Ent.skip (Ent.skip (Ent.skip (Ent.skip (Ent.skip (Ent.skip (Ent.refl _)))))))))) ?_))
  have hv5 := (has3_tail (has3_slot (w0 := w0) (L := []) (g := g5) (v := v) (t := 40)) : Has3 w0 [blk X (slC v0 d M F) 67, blk g5 (c3 v).toArray 40] g5 v)
  go_upto_region 4 with (first
    | (refine wpl_load3 (v := v) rfl ?hh agg3 size3n hs.only2 ?_; case hh => exact hv5)
    | (go_at_call 39; refine (scheck_v hs HE).mono ?_; rintro r w3 ⟨rfl, hg2⟩; replace hs := hs.grew hg2; clear hg2))
  go_cut [10, 11] (fun p q wx => ∃ g10, p = .pointer (some ⟨g10, 0, none⟩) ∧ q = .bool b ∧ St w0 (blk X (slC v0 d M F) 67 :: blk g5 (c3 v).toArray 40 :: PlB d.k v0 S' g' :: blk g10 (c3 u).toArray 40 :: HSet M S :: FlP F bd evs rds :: blk g6 (c3 V3.z).toArray 40 :: L) wx)
  case first => as_aux_lemma =>
    refine wp_all_plain (n := 7) [false, false, false, false, false, false, true, true, true, true, true, true, true] hs.only2 (by kernel_rfl) (by kernel_rfl) (by kernel_rfl) fun hne => ?_
    have c0 := ((Rd.sl0 (w0 := w0) (X := X) (v := v0) (d := d) (M := M) (F := F) (L := [blk g5 (c3 v).toArray 40]) (t := 67))).alln
    have v0' := (hv5 0 _ rfl).alln
    have v1' := (hv5 1 _ rfl).alln
    have v2' := (hv5 2 _ rfl).alln
    simp only [Nat.zero_add] at v0' v1' v2'
    clear hv5
    simp only [pickOps]
    repeat (go_big_quiet_step (fail))
    refine wpQuiet_nil ?_
    clear hne c0 v0' v1' v2'
    replace hs := hs.drew
    clear HN HE hu hb hS hg
    refine wpAllP_next [6, 10] (by kernel_rfl) (fun c hc => ?_)
    simp only [List.mem_cons, List.not_mem_nil, or_false] at hc
    rcases hc with rfl | rfl
    · skip
      refine ⟨_, rfl, ?_⟩
      refine wpl_inv2 (v := v0) (v1 := .int .i64 ((i : Nat) : Int)) (v2 := val3 v) rfl rfl rfl (HP.out _ _ (hs.ent (M := PlB d.k v0 S g :: blk X (slC v0 d M F) 67 :: blk g5 (c3 v).toArray 40 :: HSet M S :: FlP F bd evs rds :: blk g6 (c3 V3.z).toArray 40 :: L) (by (repeat first | exact Ent.refl _ | refine Ent.step (by first | exact Ent.refl _ | exact Ent.skip (Ent.refl _) | exact Ent.skip (Ent.skip (Ent.refl _)) | exact Ent.skip (Ent.skip (Ent.skip (Ent.refl _))) | exact Ent.skip (Ent.skip (Ent.skip (Ent.skip (Ent.refl _)))) | exact Ent.skip (Ent.skip (Ent.skip (Ent.skip (Ent.skip (Ent.refl _))))) | exact Ent.skip (Ent.skip (Ent.skip (Ent.skip (Ent.skip (Ent.skip (Ent.refl _)))))) | exact Ent.skip (Ent.skip (Ent.skip (Ent.skip (Ent.skip (Ent.skip (Ent.skip (Ent.refl _))))))) | exact Ent.skip (Ent.skip (Ent.skip (Ent.skip (Ent.skip (Ent.skip (Ent.skip (Ent.skip (Ent.refl _)))))))) | exact Ent.skip (Ent.skip (Ent.skip (Ent.skip (Ent.skip (Ent.skip (Ent.skip (Ent.skip (Ent.skip (Ent.refl _)))))))))) ?_)))) ?_
      clear hs
      rintro r w ⟨rfl, hs⟩
      replace hs : St w0 (blk X (slC v0 d M F) 67 :: blk g5 (c3 v).toArray 40 :: PlB d.k v0 S' g' :: HSet M S :: FlP F bd evs rds :: blk g6 (c3 V3.z).toArray 40 :: L) w := hs.ent (by (repeat first | exact Ent.refl _ | refine Ent.step (by first | exact Ent.refl _ | exact Ent.skip (Ent.refl _) | exact Ent.skip (Ent.skip (Ent.refl _)) | exact Ent.skip (Ent.skip (Ent.skip (Ent.refl _))) | exact Ent.skip (Ent.skip (Ent.skip (Ent.skip (Ent.refl _)))) | exact Ent.skip (Ent.skip (Ent.skip (Ent.skip (Ent.skip (Ent.refl _))))) | exact Ent.skip (Ent.skip (Ent.skip (Ent.skip (Ent.skip (Ent.skip (Ent.refl _)))))) | exact Ent.skip (Ent.skip (Ent.skip (Ent.skip (Ent.skip (Ent.skip (Ent.skip (Ent.refl _))))))) | exact Ent.skip (Ent.skip (Ent.skip (Ent.skip (Ent.skip (Ent.skip (Ent.skip (Ent.skip (Ent.refl _)))))))) | exact Ent.skip (Ent.skip (Ent.skip (Ent.skip (Ent.skip (Ent.skip (Ent.skip (Ent.skip (Ent.skip (Ent.refl _)))))))))) ?_))
      refine wpList_nil ⟨rfl, hs.only2, ?_⟩
      refine wpAllP_next [7, 10] (by kernel_rfl) (fun c hc => ?_)
      simp only [List.mem_cons, List.not_mem_nil, or_false] at hc
      rcases hc with rfl | rfl
      · skip
        refine ⟨_, rfl, ?_⟩
        go_wp2
        refine ⟨hs.only2, ?_⟩
        refine wpAllP_next [8, 9, 10] (by kernel_rfl) (fun c hc => ?_)
        simp only [List.mem_cons, List.not_mem_nil, or_false] at hc
        rcases hc with rfl | rfl | rfl
        · skip
          refine ⟨_, rfl, ?_⟩
          go_wp2
          refine ⟨hs.only2, ?_⟩
          refine wpAllP_next [9, 10] (by kernel_rfl) (fun c hc => ?_)
          simp only [List.mem_cons, List.not_mem_nil, or_false] at hc
          rcases hc with rfl | rfl
          · skip
            refine ⟨_, rfl, ?_⟩
            go_wp2
            refine ⟨hs.only2, ?_⟩
            refine wpAllP_next [10] (by kernel_rfl) (fun c hc => ?_)
            simp only [List.mem_singleton] at hc
            subst hc
            refine ⟨_, rfl, ?_⟩
            refine wpl_alloc zero3 hs ?_
            clear hs
            intro g10 w hs
            replace hs : St w0 (blk g10 (c3 V3.z).toArray 40 :: blk X (slC v0 d M F) 67 :: blk g5 (c3 v).toArray 40 :: PlB d.k v0 S' g' :: HSet M S :: FlP F bd evs rds :: blk g6 (c3 V3.z).toArray 40 :: L) w := hs
            replace hs : St w0 (blk X (slC v0 d M F) 67 :: blk g5 (c3 v).toArray 40 :: PlB d.k v0 S' g' :: blk g10 (c3 V3.z).toArray 40 :: HSet M S :: FlP F bd evs rds :: blk g6 (c3 V3.z).toArray 40 :: L) w := hs.ent (by (repeat first | exact Ent.refl _ | refine Ent.step (by first | exact Ent.refl _ | exact Ent.skip (Ent.refl _) | exact Ent.skip (Ent.skip (Ent.refl _)) | exact Ent.skip (Ent.skip (Ent.skip (Ent.refl _))) | exact Ent.skip (Ent.skip (Ent.skip (Ent.skip (Ent.refl _)))) | exact Ent.skip (Ent.skip (Ent.skip (Ent.skip (Ent.skip (Ent.refl _))))) | exact Ent.skip (Ent.skip (Ent.skip (Ent.skip (Ent.skip (Ent.skip (Ent.refl _)))))) | exact Ent.skip (Ent.skip (Ent.skip (Ent.skip (Ent.skip (Ent.skip (Ent.skip (Ent.refl _))))))) | exact Ent.skip (Ent.skip (Ent.skip (Ent.skip (Ent.skip (Ent.skip (Ent.skip (Ent.skip (Ent.refl _)))))))) | exact Ent.skip (Ent.skip (Ent.skip (Ent.skip (Ent.skip (Ent.skip (Ent.skip (Ent.skip (Ent.skip (Ent.refl _)))))))))) ?_))
            refine wpList_nil ⟨rfl, hs.only2, ?_⟩
            refine wpAllP_next [11] (by kernel_rfl) (fun c hc => ?_)
            simp only [List.mem_singleton] at hc
            subst hc
            refine ⟨_, rfl, ?_⟩
            refine wpl_store_agg (v := val3 u) rfl rfl (size3 _) (hs.ent (M := blk g10 (c3 V3.z).toArray 40 :: blk X (slC v0 d M F) 67 :: blk g5 (c3 v).toArray 40 :: PlB d.k v0 S' g' :: HSet M S :: FlP F bd evs rds :: blk g6 (c3 V3.z).toArray 40 :: L) (by (repeat first | exact Ent.refl _ | refine Ent.step (by first | exact Ent.refl _ | exact Ent.skip (Ent.refl _) | exact Ent.skip (Ent.skip (Ent.refl _)) | exact Ent.skip (Ent.skip (Ent.skip (Ent.refl _))) | exact Ent.skip (Ent.skip (Ent.skip (Ent.skip (Ent.refl _)))) | exact Ent.skip (Ent.skip (Ent.skip (Ent.skip (Ent.skip (Ent.refl _))))) | exact Ent.skip (Ent.skip (Ent.skip (Ent.skip (Ent.skip (Ent.skip (Ent.refl _)))))) | exact Ent.skip (Ent.skip (Ent.skip (Ent.skip (Ent.skip (Ent.skip (Ent.skip (Ent.refl _))))))) | exact Ent.skip (Ent.skip (Ent.skip (Ent.skip (Ent.skip (Ent.skip (Ent.skip (Ent.skip (Ent.refl _)))))))) | exact Ent.skip (Ent.skip (Ent.skip (Ent.skip (Ent.skip (Ent.skip (Ent.skip (Ent.skip (Ent.skip (Ent.refl _)))))))))) ?_))) WrA.slot3 ?_
            clear hs
            intro w hs
            replace hs : St w0 (blk X (slC v0 d M F) 67 :: blk g5 (c3 v).toArray 40 :: PlB d.k v0 S' g' :: blk g10 (c3 u).toArray 40 :: HSet M S :: FlP F bd evs rds :: blk g6 (c3 V3.z).toArray 40 :: L) w := hs.ent (by (repeat first | exact Ent.refl _ | refine Ent.step (by first | exact Ent.refl _ | exact Ent.skip (Ent.refl _) | exact Ent.skip (Ent.skip (Ent.refl _)) | exact Ent.skip (Ent.skip (Ent.skip (Ent.refl _))) | exact Ent.skip (Ent.skip (Ent.skip (Ent.skip (Ent.refl _)))) | exact Ent.skip (Ent.skip (Ent.skip (Ent.skip (Ent.skip (Ent.refl _))))) | exact Ent.skip (Ent.skip (Ent.skip (Ent.skip (Ent.skip (Ent.skip (Ent.refl _)))))) | exact Ent.skip (Ent.skip (Ent.skip (Ent.skip (Ent.skip (Ent.skip (Ent.skip (Ent.refl _))))))) | exact Ent.skip (Ent.skip (Ent.skip (Ent.skip (Ent.skip (Ent.skip (Ent.skip (Ent.skip (Ent.refl _)))))))) | exact Ent.skip (Ent.skip (Ent.skip (Ent.skip (Ent.skip (Ent.skip (Ent.skip (Ent.skip (Ent.skip (Ent.refl _)))))))))) ?_))
            refine wpList_nil ⟨rfl, hs.only2, ?_⟩
            refine wpAll_last [12] (by kernel_rfl) (fun c hc => ?_)
            simp only [List.mem_singleton] at hc
            subst hc
            refine ⟨_, rfl, ?_⟩
            go_wp2
            go_meet
            exact ⟨_, rfl, rfl, hs⟩
          · skip
            refine ⟨_, rfl, ?_⟩
            refine wpl_alloc zero3 hs ?_
            clear hs
            intro g10 w hs
            replace hs : St w0 (blk g10 (c3 V3.z).toArray 40 :: blk X (slC v0 d M F) 67 :: blk g5 (c3 v).toArray 40 :: PlB d.k v0 S' g' :: HSet M S :: FlP F bd evs rds :: blk g6 (c3 V3.z).toArray 40 :: L) w := hs
            replace hs : St w0 (blk X (slC v0 d M F) 67 :: blk g5 (c3 v).toArray 40 :: PlB d.k v0 S' g' :: blk g10 (c3 V3.z).toArray 40 :: HSet M S :: FlP F bd evs rds :: blk g6 (c3 V3.z).toArray 40 :: L) w := hs.ent (by (repeat first | exact Ent.refl _ | refine Ent.step (by first | exact Ent.refl _ | exact Ent.skip (Ent.refl _) | exact Ent.skip (Ent.skip (Ent.refl _)) | exact Ent.skip (Ent.skip (Ent.skip (Ent.refl _))) | exact Ent.skip (Ent.skip (Ent.skip (Ent.skip (Ent.refl _)))) | exact Ent.skip (Ent.skip (Ent.skip (Ent.skip (Ent.skip (Ent.refl _))))) | exact Ent.skip (Ent.skip (Ent.skip (Ent.skip (Ent.skip (Ent.skip (Ent.refl _)))))) | exact Ent.skip (Ent.skip (Ent.skip (Ent.skip (Ent.skip (Ent.skip (Ent.skip (Ent.refl _))))))) | exact Ent.skip (Ent.skip (Ent.skip (Ent.skip (Ent.skip (Ent.skip (Ent.skip (Ent.skip (Ent.refl _)))))))) | exact Ent.skip (Ent.skip (Ent.skip (Ent.skip (Ent.skip (Ent.skip (Ent.skip (Ent.skip (Ent.skip (Ent.refl _)))))))))) ?_))
            refine wpList_nil ⟨rfl, hs.only2, ?_⟩
            refine wpAllP_next [9, 11] (by kernel_rfl) (fun c hc => ?_)
            simp only [List.mem_cons, List.not_mem_nil, or_false] at hc
            rcases hc with rfl | rfl
            · skip
              refine ⟨_, rfl, ?_⟩
              go_wp2
              refine ⟨hs.only2, ?_⟩
              refine wpAllP_next [11] (by kernel_rfl) (fun c hc => ?_)
              simp only [List.mem_singleton] at hc
              subst hc
              refine ⟨_, rfl, ?_⟩
              refine wpl_store_agg (v := val3 u) rfl rfl (size3 _) (hs.ent (M := blk g10 (c3 V3.z).toArray 40 :: blk X (slC v0 d M F) 67 :: blk g5 (c3 v).toArray 40 :: PlB d.k v0 S' g' :: HSet M S :: FlP F bd evs rds :: blk g6 (c3 V3.z).toArray 40 :: L) (by (repeat first | exact Ent.refl _ | refine Ent.step (by first | exact Ent.refl _ | exact Ent.skip (Ent.refl _) | exact Ent.skip (Ent.skip (Ent.refl _)) | exact Ent.skip (Ent.skip (Ent.skip (Ent.refl _))) | exact Ent.skip (Ent.skip (Ent.skip (Ent.skip (Ent.refl _)))) | exact Ent.skip (Ent.skip (Ent.skip (Ent.skip (Ent.skip (Ent.refl _))))) | exact Ent.skip (Ent.skip (Ent.skip (Ent.skip (Ent.skip (Ent.skip (Ent.refl _)))))) | exact Ent.skip (Ent.skip (Ent.skip (Ent.skip (Ent.skip (Ent.skip (Ent.skip (Ent.refl _))))))) | exact Ent.skip (Ent.skip (Ent.skip (Ent.skip (Ent.skip (Ent.skip (Ent.skip (Ent.skip (Ent.refl _)))))))) | exact Ent.skip (Ent.skip (Ent.skip (Ent.skip (Ent.skip (Ent.skip (Ent.skip (Ent.skip (Ent.skip (Ent.refl _)))))))))) ?_))) WrA.slot3 ?_
              clear hs
              intro w hs
              replace hs : St w0 (blk X (slC v0 d M F) 67 :: blk g5 (c3 v).toArray 40 :: PlB d.k v0 S' g' :: blk g10 (c3 u).toArray 40 :: HSet M S :: FlP F bd evs rds :: blk g6 (c3 V3.z).toArray 40 :: L) w := hs.ent (by (repeat first | exact Ent.refl _ | refine Ent.step (by first | exact Ent.refl _ | exact Ent.skip (Ent.refl _) | exact Ent.skip (Ent.skip (Ent.refl _)) | exact Ent.skip (Ent.skip (Ent.skip (Ent.refl _))) | exact Ent.skip (Ent.skip (Ent.skip (Ent.skip (Ent.refl _)))) | exact Ent.skip (Ent.skip (Ent.skip (Ent.skip (Ent.skip (Ent.refl _))))) | exact Ent.skip (Ent.skip (Ent.skip (Ent.skip (Ent.skip (Ent.skip (Ent.refl _)))))) | exact Ent.skip (Ent.skip (Ent.skip (Ent.skip (Ent.skip (Ent.skip (Ent.skip (Ent.refl _))))))) | exact Ent.skip (Ent.skip (Ent.skip (Ent.skip (Ent.skip (Ent.skip (Ent.skip (Ent.skip (Ent.refl _)))))))) | exact Ent.skip (Ent.skip (Ent.skip (Ent.skip (Ent.skip (Ent.skip (Ent.skip (Ent.skip (Ent.skip (Ent.refl _)))))))))) ?_))
              refine wpList_nil ⟨rfl, hs.only2, ?_⟩
              refine wpAll_last [12] (by kernel_rfl) (fun c hc => ?_)
              simp only [List.mem_singleton] at hc
              subst hc
              refine ⟨_, rfl, ?_⟩
              go_wp2
              go_meet
              exact ⟨_, rfl, rfl, hs⟩
            · skip
              refine ⟨_, rfl, ?_⟩
              refine wpl_store_agg (v := val3 u) rfl rfl (size3 _) (hs.ent (M := blk g10 (c3 V3.z).toArray 40 :: blk X (slC v0 d M F) 67 :: blk g5 (c3 v).toArray 40 :: PlB d.k v0 S' g' :: HSet M S :: FlP F bd evs rds :: blk g6 (c3 V3.z).toArray 40 :: L) (by (repeat first | exact Ent.refl _ | refine Ent.step (by first | exact Ent.refl _ | exact Ent.skip (Ent.refl _) | exact Ent.skip (Ent.skip (Ent.refl _)) | exact Ent.skip (Ent.skip (Ent.skip (Ent.refl _))) | exact Ent.skip (Ent.skip (Ent.skip (Ent.skip (Ent.refl _)))) | exact Ent.skip (Ent.skip (Ent.skip (Ent.skip (Ent.skip (Ent.refl _))))) | exact Ent.skip (Ent.skip (Ent.skip (Ent.skip (Ent.skip (Ent.skip (Ent.refl _)))))) | exact Ent.skip (Ent.skip (Ent.skip (Ent.skip (Ent.skip (Ent.skip (Ent.skip (Ent.refl _))))))) | exact Ent.skip (Ent.skip (Ent.skip (Ent.skip (Ent.skip (Ent.skip (Ent.skip (Ent.skip (Ent.refl _)))))))) | exact Ent.skip (Ent.skip (Ent.skip (Ent.skip (Ent.skip (Ent.skip (Ent.skip (Ent.skip (Ent.skip (Ent.refl _)))))))))) ?_))) WrA.slot3 ?_
              clear hs
              intro w hs
              replace hs : St w0 (blk X (slC v0 d M F) 67 :: blk g5 (c3 v).toArray 40 :: PlB d.k v0 S' g' :: blk g10 (c3 u).toArray 40 :: HSet M S :: FlP F bd evs rds :: blk g6 (c3 V3.z).toArray 40 :: L) w := hs.ent (by (repeat first | exact Ent.refl _ | refine Ent.step (by first | exact Ent.refl _ | exact Ent.skip (Ent.refl _) | exact Ent.skip (Ent.skip (Ent.refl _)) | exact Ent.skip (Ent.skip (Ent.skip (Ent.refl _))) | exact Ent.skip (Ent.skip (Ent.skip (Ent.skip (Ent.refl _)))) | exact Ent.skip (Ent.skip (Ent.skip (Ent.skip (Ent.skip (Ent.refl _))))) | exact Ent.skip (Ent.skip (Ent.skip (Ent.skip (Ent.skip (Ent.skip (Ent.refl _)))))) | exact Ent.skip (Ent.skip (Ent.skip (Ent.skip (Ent.skip (Ent.skip (Ent.skip (Ent.refl _))))))) | exact Ent.skip (Ent.skip (Ent.skip (Ent.skip (Ent.skip (Ent.skip (Ent.skip (Ent.skip (Ent.refl _)))))))) | exact Ent.skip (Ent.skip (Ent.skip (Ent.skip (Ent.skip (Ent.skip (Ent.skip (Ent.skip (Ent.skip (Ent.refl _)))))))))) ?_))
              refine wpList_nil ⟨rfl, hs.only2, ?_⟩
              refine wpAllP_next [9] (by kernel_rfl) (fun c hc => ?_)
              simp only [List.mem_singleton] at hc
              subst hc
              refine ⟨_, rfl, ?_⟩
              go_wp2
              refine ⟨hs.only2, ?_⟩
              refine wpAll_last [12] (by kernel_rfl) (fun c hc => ?_)
              simp only [List.mem_singleton] at hc
              subst hc
              refine ⟨_, rfl, ?_⟩
              go_wp2
              go_meet
              exact ⟨_, rfl, rfl, hs⟩
        · skip
          refine ⟨_, rfl, ?_⟩
          go_wp2
          refine ⟨hs.only2, ?_⟩
          refine wpAllP_next [8, 10] (by kernel_rfl) (fun c hc => ?_)
          simp only [List.mem_cons, List.not_mem_nil, or_false] at hc
          rcases hc with rfl | rfl
          · skip
            refine ⟨_, rfl, ?_⟩
            go_wp2
            refine ⟨hs.only2, ?_⟩
            refine wpAllP_next [10] (by kernel_rfl) (fun c hc => ?_)
            simp only [List.mem_singleton] at hc
            subst hc
            refine ⟨_, rfl, ?_⟩
            refine wpl_alloc zero3 hs ?_
            clear hs
            intro g10 w hs
            replace hs : St w0 (blk g10 (c3 V3.z).toArray 40 :: blk X (slC v0 d M F) 67 :: blk g5 (c3 v).toArray 40 :: PlB d.k v0 S' g' :: HSet M S :: FlP F bd evs rds :: blk g6 (c3 V3.z).toArray 40 :: L) w := hs
            replace hs : St w0 (blk X (slC v0 d M F) 67 :: blk g5 (c3 v).toArray 40 :: PlB d.k v0 S' g' :: blk g10 (c3 V3.z).toArray 40 :: HSet M S :: FlP F bd evs rds :: blk g6 (c3 V3.z).toArray 40 :: L) w := hs.ent (by (repeat first | exact Ent.refl _ | refine Ent.step (by first | exact Ent.refl _ | exact Ent.skip (Ent.refl _) | exact Ent.skip (Ent.skip (Ent.refl _)) | exact Ent.skip (Ent.skip (Ent.skip (Ent.refl _))) | exact Ent.skip (Ent.skip (Ent.skip (Ent.skip (Ent.refl _)))) | exact Ent.skip (Ent.skip (Ent.skip (Ent.skip (Ent.skip (Ent.refl _))))) | exact Ent.skip (Ent.skip (Ent.skip (Ent.skip (Ent.skip (Ent.skip (Ent.refl _)))))) | exact Ent.skip (Ent.skip (Ent.skip (Ent.skip (Ent.skip (Ent.skip (Ent.skip (Ent.refl _))))))) | exact Ent.skip (Ent.skip (Ent.skip (Ent.skip (Ent.skip (Ent.skip (Ent.skip (Ent.skip (Ent.refl _)))))))) | exact Ent.skip (Ent.skip (Ent.skip (Ent.skip (Ent.skip (Ent.skip (Ent.skip (Ent.skip (Ent.skip (Ent.refl _)))))))))) ?_))
            refine wpList_nil ⟨rfl, hs.only2, ?_⟩
            refine wpAllP_next [11] (by kernel_rfl) (fun c hc => ?_)
            simp only [List.mem_singleton] at hc
            subst hc
            refine ⟨_, rfl, ?_⟩
            refine wpl_store_agg (v := val3 u) rfl rfl (size3 _) (hs.ent (M := blk g10 (c3 V3.z).toArray 40 :: blk X (slC v0 d M F) 67 :: blk g5 (c3 v).toArray 40 :: PlB d.k v0 S' g' :: HSet M S :: FlP F bd evs rds :: blk g6 (c3 V3.z).toArray 40 :: L) (by (repeat first | exact Ent.refl _ | refine Ent.step (by first | exact Ent.refl _ | exact Ent.skip (Ent.refl _) | exact Ent.skip (Ent.skip (Ent.refl _)) | exact Ent.skip (Ent.skip (Ent.skip (Ent.refl _))) | exact Ent.skip (Ent.skip (Ent.skip (Ent.skip (Ent.refl _)))) | exact Ent.skip (Ent.skip (Ent.skip (Ent.skip (Ent.skip (Ent.refl _))))) | exact Ent.skip (Ent.skip (Ent.skip (Ent.skip (Ent.skip (Ent.skip (Ent.refl _)))))) | exact Ent.skip (Ent.skip (Ent.skip (Ent.skip (Ent.skip (Ent.skip (Ent.skip (Ent.refl _))))))) | exact Ent.skip (Ent.skip (Ent.skip (Ent.skip (Ent.skip (Ent.skip (Ent.skip (Ent.skip (Ent.refl _)))))))) | exact Ent.skip (Ent.skip (Ent.skip (Ent.skip (Ent.skip (Ent.skip (Ent.skip (Ent.skip (Ent.skip (Ent.refl _)))))))))) ?_))) WrA.slot3 ?_
            clear hs
            intro w hs
            replace hs : St w0 (blk X (slC v0 d M F) 67 :: blk g5 (c3 v).toArray 40 :: PlB d.k v0 S' g' :: blk g10 (c3 u).toArray 40 :: HSet M S :: FlP F bd evs rds :: blk g6 (c3 V3.z).toArray 40 :: L) w := hs.ent (by (repeat first | exact Ent.refl _ | refine Ent.step (by first | exact Ent.refl _ | exact Ent.skip (Ent.refl _) | exact Ent.skip (Ent.skip (Ent.refl _)) | exact Ent.skip (Ent.skip (Ent.skip (Ent.refl _))) | exact Ent.skip (Ent.skip (Ent.skip (Ent.skip (Ent.refl _)))) | exact Ent.skip (Ent.skip (Ent.skip (Ent.skip (Ent.skip (Ent.refl _))))) | exact Ent.skip (Ent.skip (Ent.skip (Ent.skip (Ent.skip (Ent.skip (Ent.refl _)))))) | exact Ent.skip (Ent.skip (Ent.skip (Ent.skip (Ent.skip (Ent.skip (Ent.skip (Ent.refl _))))))) | exact Ent.skip (Ent.skip (Ent.skip (Ent.skip (Ent.skip (Ent.skip (Ent.skip (Ent.skip (Ent.refl _)))))))) | exact Ent.skip (Ent.skip (Ent.skip (Ent.skip (Ent.skip (Ent.skip (Ent.skip (Ent.skip (Ent.skip (Ent.refl _)))))))))) ?_))
            refine wpList_nil ⟨rfl, hs.only2, ?_⟩
            refine wpAll_last [12] (by kernel_rfl) (fun c hc => ?_)
            simp only [List.mem_singleton] at hc
            subst hc
            refine ⟨_, rfl, ?_⟩
            go_wp2
            go_meet
            exact ⟨_, rfl, rfl, hs⟩
          · skip
            refine ⟨_, rfl, ?_⟩
            refine wpl_alloc zero3 hs ?_
            clear hs
            intro g10 w hs
            replace hs : St w0 (blk g10 (c3 V3.z).toArray 40 :: blk X (slC v0 d M F) 67 :: blk g5 (c3 v).toArray 40 :: PlB d.k v0 S' g' :: HSet M S :: FlP F bd evs rds :: blk g6 (c3 V3.z).toArray 40 :: L) w := hs
            replace hs : St w0 (blk X (slC v0 d M F) 67 :: blk g5 (c3 v).toArray 40 :: PlB d.k v0 S' g' :: blk g10 (c3 V3.z).toArray 40 :: HSet M S :: FlP F bd evs rds :: blk g6 (c3 V3.z).toArray 40 :: L) w := hs.ent (by (repeat first | exact Ent.refl _ | refine Ent.step (by first | exact Ent.refl _ | exact Ent.skip (Ent.refl _) | exact Ent.skip (Ent.skip (Ent.refl _)) | exact Ent.skip (Ent.skip (Ent.skip (Ent.refl _))) | exact Ent.skip (Ent.skip (Ent.skip (Ent.skip (Ent.refl _)))) | exact Ent.skip (Ent.skip (Ent.skip (Ent.skip (Ent.skip (Ent.refl _))))) | exact Ent.skip (Ent.skip (Ent.skip (Ent.skip (Ent.skip (Ent.skip (Ent.refl _)))))) | exact Ent.skip (Ent.skip (Ent.skip (Ent.skip (Ent.skip (Ent.skip (Ent.skip (Ent.refl _))))))) | exact Ent.skip (Ent.skip (Ent.skip (Ent.skip (Ent.skip (Ent.skip (Ent.skip (Ent.skip (Ent.refl _)))))))) | exact Ent.skip (Ent.skip (Ent.skip (Ent.skip (Ent.skip (Ent.skip (Ent.skip (Ent.skip (Ent.skip (Ent.refl _)))))))))) ?_))
            refine wpList_nil ⟨rfl, hs.only2, ?_⟩
            refine wpAllP_next [8] (by kernel_rfl) (fun c hc => ?_)
            simp only [List.mem_singleton] at hc
            subst hc
            refine ⟨_, rfl, ?_⟩
            go_wp2
            refine ⟨hs.only2, ?_⟩
            refine wpAllP_next [11] (by kernel_rfl) (fun c hc => ?_)
            simp only [List.mem_singleton] at hc
            subst hc
            refine ⟨_, rfl, ?_⟩
            refine wpl_store_agg (v := val3 u) rfl rfl (size3 _) (hs.ent (M := blk g10 (c3 V3.z).toArray 40 :: blk X (slC v0 d M F) 67 :: blk g5 (c3 v).toArray 40 :: PlB d.k v0 S' g' :: HSet M S :: FlP F bd evs rds :: blk g6 (c3 V3.z).toArray 40 :: L) (by (repeat first | exact Ent.refl _ | refine Ent.step (by first | exact Ent.refl _ | exact Ent.skip (Ent.refl _) | exact Ent.skip (Ent.skip (Ent.refl _)) | exact Ent.skip (Ent.skip (Ent.skip (Ent.refl _))) | exact Ent.skip (Ent.skip (Ent.skip (Ent.skip (Ent.refl _)))) | exact Ent.skip (Ent.skip (Ent.skip (Ent.skip (Ent.skip (Ent.refl _))))) | exact Ent.skip (Ent.skip (Ent.skip (Ent.skip (Ent.skip (Ent.skip (Ent.refl _)))))) | exact Ent.skip (Ent.skip (Ent.skip (Ent.skip (Ent.skip (Ent.skip (Ent.skip (Ent.refl _))))))) | exact Ent.skip (Ent.skip (Ent.skip (Ent.skip (Ent.skip (Ent.skip (Ent.skip (Ent.skip (Ent.refl _)))))))) | exact Ent.skip (Ent.skip (Ent.skip (Ent.skip (Ent.skip (Ent.skip (Ent.skip (Ent.skip (Ent.skip (Ent.refl _)))))))))) ?_))) WrA.slot3 ?_
            clear hs
            intro w hs
            replace hs : St w0 (blk X (slC v0 d M F) 67 :: blk g5 (c3 v).toArray 40 :: PlB d.k v0 S' g' :: blk g10 (c3 u).toArray 40 :: HSet M S :: FlP F bd evs rds :: blk g6 (c3 V3.z).toArray 40 :: L) w := hs.ent (by (repeat first | exact Ent.refl _ | refine Ent.step (by first | exact Ent.refl _ | exact Ent.skip (Ent.refl _) | exact Ent.skip (Ent.skip (Ent.refl _)) | exact Ent.skip (Ent.skip (Ent.skip (Ent.refl _))) | exact Ent.skip (Ent.skip (Ent.skip (Ent.skip (Ent.refl _)))) | exact Ent.skip (Ent.skip (Ent.skip (Ent.skip (Ent.skip (Ent.refl _))))) | exact Ent.skip (Ent.skip (Ent.skip (Ent.skip (Ent.skip (Ent.skip (Ent.refl _)))))) | exact Ent.skip (Ent.skip (Ent.skip (Ent.skip (Ent.skip (Ent.skip (Ent.skip (Ent.refl _))))))) | exact Ent.skip (Ent.skip (Ent.skip (Ent.skip (Ent.skip (Ent.skip (Ent.skip (Ent.skip (Ent.refl _)))))))) | exact Ent.skip (Ent.skip (Ent.skip (Ent.skip (Ent.skip (Ent.skip (Ent.skip (Ent.skip (Ent.skip (Ent.refl _)))))))))) ?_))
            refine wpList_nil ⟨rfl, hs.only2, ?_⟩
            refine wpAll_last [12] (by kernel_rfl) (fun c hc => ?_)
            simp only [List.mem_singleton] at hc
            subst hc
            refine ⟨_, rfl, ?_⟩
            go_wp2
            go_meet
            exact ⟨_, rfl, rfl, hs⟩
        · skip
          refine ⟨_, rfl, ?_⟩
          refine wpl_alloc zero3 hs ?_
          clear hs
          intro g10 w hs
          replace hs : St w0 (blk g10 (c3 V3.z).toArray 40 :: blk X (slC v0 d M F) 67 :: blk g5 (c3 v).toArray 40 :: PlB d.k v0 S' g' :: HSet M S :: FlP F bd evs rds :: blk g6 (c3 V3.z).toArray 40 :: L) w := hs
          replace hs : St w0 (blk X (slC v0 d M F) 67 :: blk g5 (c3 v).toArray 40 :: PlB d.k v0 S' g' :: blk g10 (c3 V3.z).toArray 40 :: HSet M S :: FlP F bd evs rds :: blk g6 (c3 V3.z).toArray 40 :: L) w := hs.ent (by (repeat first | exact Ent.refl _ | refine Ent.step (by first | exact Ent.refl _ | exact Ent.skip (Ent.refl _) | exact Ent.skip (Ent.skip (Ent.refl _)) | exact Ent.skip (Ent.skip (Ent.skip (Ent.refl _))) | exact Ent.skip (Ent.skip (Ent.skip (Ent.skip (Ent.refl _)))) | exact Ent.skip (Ent.skip (Ent.skip (Ent.skip (Ent.skip (Ent.refl _))))) | exact Ent.skip (Ent.skip (Ent.skip (Ent.skip (Ent.skip (Ent.skip (Ent.refl _)))))) | exact Ent.skip (Ent.skip (Ent.skip (Ent.skip (Ent.skip (Ent.skip (Ent.skip (Ent.refl _))))))) | exact Ent.skip (Ent.skip (Ent.skip (Ent.skip (Ent.skip (Ent.skip (Ent.skip (Ent.skip (Ent.refl _)))))))) | exact Ent.skip (Ent.skip (Ent.skip (Ent.skip (Ent.skip (Ent.skip (Ent.skip (Ent.skip (Ent.skip (Ent.refl _)))))))))) ?_))
          refine wpList_nil ⟨rfl, hs.only2, ?_⟩
          refine wpAllP_next [8, 9] (by kernel_rfl) (fun c hc => ?_)
          simp only [List.mem_cons, List.not_mem_nil, or_false] at hc
          rcases hc with rfl | rfl
          · skip
            refine ⟨_, rfl, ?_⟩
            go_wp2
            refine ⟨hs.only2, ?_⟩
            refine wpAllP_next [9, 11] (by kernel_rfl) (fun c hc => ?_)
            simp only [List.mem_cons, List.not_mem_nil, or_false] at hc
            rcases hc with rfl | rfl
            · skip
              refine ⟨_, rfl, ?_⟩
              go_wp2
              refine ⟨hs.only2, ?_⟩
              refine wpAllP_next [11] (by kernel_rfl) (fun c hc => ?_)
              simp only [List.mem_singleton] at hc
              subst hc
              refine ⟨_, rfl, ?_⟩
              refine wpl_store_agg (v := val3 u) rfl rfl (size3 _) (hs.ent (M := blk g10 (c3 V3.z).toArray 40 :: blk X (slC v0 d M F) 67 :: blk g5 (c3 v).toArray 40 :: PlB d.k v0 S' g' :: HSet M S :: FlP F bd evs rds :: blk g6 (c3 V3.z).toArray 40 :: L) (by (repeat first | exact Ent.refl _ | refine Ent.step (by first | exact Ent.refl _ | exact Ent.skip (Ent.refl _) | exact Ent.skip (Ent.skip (Ent.refl _)) | exact Ent.skip (Ent.skip (Ent.skip (Ent.refl _))) | exact Ent.skip (Ent.skip (Ent.skip (Ent.skip (Ent.refl _)))) | exact Ent.skip (Ent.skip (Ent.skip (Ent.skip (Ent.skip (Ent.refl _))))) | exact Ent.skip (Ent.skip (Ent.skip (Ent.skip (Ent.skip (Ent.skip (Ent.refl _)))))) | exact Ent.skip (Ent.skip (Ent.skip (Ent.skip (Ent.skip (Ent.skip (Ent.skip (Ent.refl _))))))) | exact Ent.skip (Ent.skip (Ent.skip (Ent.skip (Ent.skip (Ent.skip (Ent.skip (Ent.skip (Ent.refl _)))))))) | exact Ent.skip (Ent.skip (Ent.skip (Ent.skip (Ent.skip (Ent.skip (Ent.skip (Ent.skip (Ent.skip (Ent.refl _)))))))))) ?_))) WrA.slot3 ?_
              clear hs
              intro w hs
              replace hs : St w0 (blk X (slC v0 d M F) 67 :: blk g5 (c3 v).toArray 40 :: PlB d.k v0 S' g' :: blk g10 (c3 u).toArray 40 :: HSet M S :: FlP F bd evs rds :: blk g6 (c3 V3.z).toArray 40 :: L) w := hs.ent (by (repeat first | exact Ent.refl _ | refine Ent.step (by first | exact Ent.refl _ | exact Ent.skip (Ent.refl _) | exact Ent.skip (Ent.skip (Ent.refl _)) | exact Ent.skip (Ent.skip (Ent.skip (Ent.refl _))) | exact Ent.skip (Ent.skip (Ent.skip (Ent.skip (Ent.refl _)))) | exact Ent.skip (Ent.skip (Ent.skip (Ent.skip (Ent.skip (Ent.refl _))))) | exact Ent.skip (Ent.skip (Ent.skip (Ent.skip (Ent.skip (Ent.skip (Ent.refl _)))))) | exact Ent.skip (Ent.skip (Ent.skip (Ent.skip (Ent.skip (Ent.skip (Ent.skip (Ent.refl _))))))) | exact Ent.skip (Ent.skip (Ent.skip (Ent.skip (Ent.skip (Ent.skip (Ent.skip (Ent.skip (Ent.refl _)))))))) | exact Ent.skip (Ent.skip (Ent.skip (Ent.skip (Ent.skip (Ent.skip (Ent.skip (Ent.skip (Ent.skip (Ent.refl _)))))))))) ?_))
              refine wpList_nil ⟨rfl, hs.only2, ?_⟩
              refine wpAll_last [12] (by kernel_rfl) (fun c hc => ?_)
              simp only [List.mem_singleton] at hc
              subst hc
              refine ⟨_, rfl, ?_⟩
              go_wp2
              go_meet
              exact ⟨_, rfl, rfl, hs⟩
            · skip
              refine ⟨_, rfl, ?_⟩
              refine wpl_store_agg (v := val3 u) rfl rfl (size3 _) (hs.ent (M := blk g10 (c3 V3.z).toArray 40 :: blk X (slC v0 d M F) 67 :: blk g5 (c3 v).toArray 40 :: PlB d.k v0 S' g' :: HSet M S :: FlP F bd evs rds :: blk g6 (c3 V3.z).toArray 40 :: L) (by (repeat first | exact Ent.refl _ | refine Ent.step (by first | exact Ent.refl _ | exact Ent.skip (Ent.refl _) | exact Ent.skip (Ent.skip (Ent.refl _)) | exact Ent.skip (Ent.skip (Ent.skip (Ent.refl _))) | exact Ent.skip (Ent.skip (Ent.skip (Ent.skip (Ent.refl _)))) | exact Ent.skip (Ent.skip (Ent.skip (Ent.skip (Ent.skip (Ent.refl _))))) | exact Ent.skip (Ent.skip (Ent.skip (Ent.skip (Ent.skip (Ent.skip (Ent.refl _)))))) | exact Ent.skip (Ent.skip (Ent.skip (Ent.skip (Ent.skip (Ent.skip (Ent.skip (Ent.refl _))))))) | exact Ent.skip (Ent.skip (Ent.skip (Ent.skip (Ent.skip (Ent.skip (Ent.skip (Ent.skip (Ent.refl _)))))))) | exact Ent.skip (Ent.skip (Ent.skip (Ent.skip (Ent.skip (Ent.skip (Ent.skip (Ent.skip (Ent.skip (Ent.refl _)))))))))) ?_))) WrA.slot3 ?_
              clear hs
              intro w hs
              replace hs : St w0 (blk X (slC v0 d M F) 67 :: blk g5 (c3 v).toArray 40 :: PlB d.k v0 S' g' :: blk g10 (c3 u).toArray 40 :: HSet M S :: FlP F bd evs rds :: blk g6 (c3 V3.z).toArray 40 :: L) w := hs.ent (by (repeat first | exact Ent.refl _ | refine Ent.step (by first | exact Ent.refl _ | exact Ent.skip (Ent.refl _) | exact Ent.skip (Ent.skip (Ent.refl _)) | exact Ent.skip (Ent.skip (Ent.skip (Ent.refl _))) | exact Ent.skip (Ent.skip (Ent.skip (Ent.skip (Ent.refl _)))) | exact Ent.skip (Ent.skip (Ent.skip (Ent.skip (Ent.skip (Ent.refl _))))) | exact Ent.skip (Ent.skip (Ent.skip (Ent.skip (Ent.skip (Ent.skip (Ent.refl _)))))) | exact Ent.skip (Ent.skip (Ent.skip (Ent.skip (Ent.skip (Ent.skip (Ent.skip (Ent.refl _))))))) | exact Ent.skip (Ent.skip (Ent.skip (Ent.skip (Ent.skip (Ent.skip (Ent.skip (Ent.skip (Ent.refl _)))))))) | exact Ent.skip (Ent.skip (Ent.skip (Ent.skip (Ent.skip (Ent.skip (Ent.skip (Ent.skip (Ent.skip (Ent.refl _)))))))))) ?_))
              refine wpList_nil ⟨rfl, hs.only2, ?_⟩
              refine wpAllP_next [9] (by kernel_rfl) (fun c hc => ?_)
              simp only [List.mem_singleton] at hc
              subst hc
              refine ⟨_, rfl, ?_⟩
              go_wp2
              refine ⟨hs.only2, ?_⟩
              refine wpAll_last [12] (by kernel_rfl) (fun c hc => ?_)
              simp only [List.mem_singleton] at hc
              subst hc
              refine ⟨_, rfl, ?_⟩
              go_wp2
              go_meet
              exact ⟨_, rfl, rfl, hs⟩
          · skip
            refine ⟨_, rfl, ?_⟩
            go_wp2
            refine ⟨hs.only2, ?_⟩
            refine wpAllP_next [8] (by kernel_rfl) (fun c hc => ?_)
            simp only [List.mem_singleton] at hc
            subst hc
            refine ⟨_, rfl, ?_⟩
            go_wp2
            refine ⟨hs.only2, ?_⟩
            refine wpAllP_next [11] (by kernel_rfl) (fun c hc => ?_)
            simp only [List.mem_singleton] at hc
            subst hc
            refine ⟨_, rfl, ?_⟩
            refine wpl_store_agg (v := val3 u) rfl rfl (size3 _) (hs.ent (M := blk g10 (c3 V3.z).toArray 40 :: blk X (slC v0 d M F) 67 :: blk g5 (c3 v).toArray 40 :: PlB d.k v0 S' g' :: HSet M S :: FlP F bd evs rds :: blk g6 (c3 V3.z).toArray 40 :: L) (by (repeat first | exact Ent.refl _ | refine Ent.step (by first | exact Ent.refl _ | exact Ent.skip (Ent.refl _) | exact Ent.skip (Ent.skip (Ent.refl _)) | exact Ent.skip (Ent.skip (Ent.skip (Ent.refl _))) | exact Ent.skip (Ent.skip (Ent.skip (Ent.skip (Ent.refl _)))) | exact Ent.skip (Ent.skip (Ent.skip (Ent.skip (Ent.skip (Ent.refl _))))) | exact Ent.skip (Ent.skip (Ent.skip (Ent.skip (Ent.skip (Ent.skip (Ent.refl _)))))) | exact Ent.skip (Ent.skip (Ent.skip (Ent.skip (Ent.skip (Ent.skip (Ent.skip (Ent.refl _))))))) | exact Ent.skip (Ent.skip (Ent.skip (Ent.skip (Ent.skip (Ent.skip (Ent.skip (Ent.skip (Ent.refl _)))))))) | exact Ent.skip (Ent.skip (Ent.skip (Ent.skip (Ent.skip (Ent.skip (Ent.skip (Ent.skip (Ent.skip (Ent.refl _)))))))))) ?_))) WrA.slot3 ?_
            clear hs
            intro w hs
            replace hs : St w0 (blk X (slC v0 d M F) 67 :: blk g5 (c3 v).toArray 40 :: PlB d.k v0 S' g' :: blk g10 (c3 u).toArray 40 :: HSet M S :: FlP F bd evs rds :: blk g6 (c3 V3.z).toArray 40 :: L) w := hs.ent (by (repeat first | exact Ent.refl _ | refine Ent.step (by first | exact Ent.refl _ | exact Ent.skip (Ent.refl _) | exact Ent.skip (Ent.skip (Ent.refl _)) | exact Ent.skip (Ent.skip (Ent.skip (Ent.refl _))) | exact Ent.skip (Ent.skip (Ent.skip (Ent.skip (Ent.refl _)))) | exact Ent.skip (Ent.skip (Ent.skip (Ent.skip (Ent.skip (Ent.refl _))))) | exact Ent.skip (Ent.skip (Ent.skip (Ent.skip (Ent.skip (Ent.skip (Ent.refl _)))))) | exact Ent.skip (Ent.skip (Ent.skip (Ent.skip (Ent.skip (Ent.skip (Ent.skip (Ent.refl _))))))) | exact Ent.skip (Ent.skip (Ent.skip (Ent.skip (Ent.skip (Ent.skip (Ent.skip (Ent.skip (Ent.refl _)))))))) | exact Ent.skip (Ent.skip (Ent.skip (Ent.skip (Ent.skip (Ent.skip (Ent.skip (Ent.skip (Ent.skip (Ent.refl _)))))))))) ?_))
            refine wpList_nil ⟨rfl, hs.only2, ?_⟩
            refine wpAll_last [12] (by kernel_rfl) (fun c hc => ?_)
            simp only [List.mem_singleton] at hc
            subst hc
            refine ⟨_, rfl, ?_⟩
            go_wp2
            go_meet
            exact ⟨_, rfl, rfl, hs⟩
      · skip
        refine ⟨_, rfl, ?_⟩
        refine wpl_alloc zero3 hs ?_
        clear hs
        intro g10 w hs
        replace hs : St w0 (blk g10 (c3 V3.z).toArray 40 :: blk X (slC v0 d M F) 67 :: blk g5 (c3 v).toArray 40 :: PlB d.k v0 S' g' :: HSet M S :: FlP F bd evs rds :: blk g6 (c3 V3.z).toArray 40 :: L) w := hs
        replace hs : St w0 (blk X (slC v0 d M F) 67 :: blk g5 (c3 v).toArray 40 :: PlB d.k v0 S' g' :: blk g10 (c3 V3.z).toArray 40 :: HSet M S :: FlP F bd evs rds :: blk g6 (c3 V3.z).toArray 40 :: L) w := hs.ent (by (repeat first | exact Ent.refl _ | refine Ent.step (by first | exact Ent.refl _ | exact Ent.skip (Ent.refl _) | exact Ent.skip (Ent.skip (Ent.refl _)) | exact Ent.skip (Ent.skip (Ent.skip (Ent.refl _))) | exact Ent.skip (Ent.skip (Ent.skip (Ent.skip (Ent.refl _)))) | exact Ent.skip (Ent.skip (Ent.skip (Ent.skip (Ent.skip (Ent.refl _))))) | exact Ent.skip (Ent.skip (Ent.skip (Ent.skip (Ent.skip (Ent.skip (Ent.refl _)))))) | exact Ent.skip (Ent.skip (Ent.skip (Ent.skip (Ent.skip (Ent.skip (Ent.skip (Ent.refl _))))))) | exact Ent.skip (Ent.skip (Ent.skip (Ent.skip (Ent.skip (Ent.skip (Ent.skip (Ent.skip (Ent.refl _)))))))) | exact Ent.skip (Ent.skip (Ent.skip (Ent.skip (Ent.skip (Ent.skip (Ent.skip (Ent.skip (Ent.skip (Ent.refl _)))))))))) ?_))
        refine wpList_nil ⟨rfl, hs.only2, ?_⟩
        refine wpAllP_next [7] (by kernel_rfl) (fun c hc => ?_)
        simp only [List.mem_singleton] at hc
        subst hc
        refine ⟨_, rfl, ?_⟩
        go_wp2
        refine ⟨hs.only2, ?_⟩
        refine wpAllP_next [8, 9] (by kernel_rfl) (fun c hc => ?_)
        simp only [List.mem_cons, List.not_mem_nil, or_false] at hc
        rcases hc with rfl | rfl
        · skip
          refine ⟨_, rfl, ?_⟩
          go_wp2
          refine ⟨hs.only2, ?_⟩
          refine wpAllP_next [9, 11] (by kernel_rfl) (fun c hc => ?_)
          simp only [List.mem_cons, List.not_mem_nil, or_false] at hc
          rcases hc with rfl | rfl
          · skip
            refine ⟨_, rfl, ?_⟩
            go_wp2
            refine ⟨hs.only2, ?_⟩
            refine wpAllP_next [11] (by kernel_rfl) (fun c hc => ?_)
            simp only [List.mem_singleton] at hc
            subst hc
            refine ⟨_, rfl, ?_⟩
            refine wpl_store_agg (v := val3 u) rfl rfl (size3 _) (hs.ent (M := blk g10 (c3 V3.z).toArray 40 :: blk X (slC v0 d M F) 67 :: blk g5 (c3 v).toArray 40 :: PlB d.k v0 S' g' :: HSet M S :: FlP F bd evs rds :: blk g6 (c3 V3.z).toArray 40 :: L) (by (repeat first | exact Ent.refl _ | refine Ent.step (by first | exact Ent.refl _ | exact Ent.skip (Ent.refl _) | exact Ent.skip (Ent.skip (Ent.refl _)) | exact Ent.skip (Ent.skip (Ent.skip (Ent.refl _))) | exact Ent.skip (Ent.skip (Ent.skip (Ent.skip (Ent.refl _)))) | exact Ent.skip (Ent.skip (Ent.skip (Ent.skip (Ent.skip (Ent.refl _))))) | exact Ent.skip (Ent.skip (Ent.skip (Ent.skip (Ent.skip (Ent.skip (Ent.refl _)))))) | exact Ent.skip (Ent.skip (Ent.skip (Ent.skip (Ent.skip (Ent.skip (Ent.skip (Ent.refl _))))))) | exact Ent.skip (Ent.skip (Ent.skip (Ent.skip (Ent.skip (Ent.skip (Ent.skip (Ent.skip (Ent.refl _)))))))) | exact Ent.skip (Ent.skip (Ent.skip (Ent.skip (Ent.skip (Ent.skip (Ent.skip (Ent.skip (Ent.skip (Ent.refl _)))))))))) ?_))) WrA.slot3 ?_
            clear hs
            intro w hs
            replace hs : St w0 (blk X (slC v0 d M F) 67 :: blk g5 (c3 v).toArray 40 :: PlB d.k v0 S' g' :: blk g10 (c3 u).toArray 40 :: HSet M S :: FlP F bd evs rds :: blk g6 (c3 V3.z).toArray 40 :: L) w := hs.ent (by (repeat first | exact Ent.refl _ | refine Ent.step (by first | exact Ent.refl _ | exact Ent.skip (Ent.refl _) | exact Ent.skip (Ent.skip (Ent.refl _)) | exact Ent.skip (Ent.skip (Ent.skip (Ent.refl _))) | exact Ent.skip (Ent.skip (Ent.skip (Ent.skip (Ent.refl _)))) | exact Ent.skip (Ent.skip (Ent.skip (Ent.skip (Ent.skip (Ent.refl _))))) | exact Ent.skip (Ent.skip (Ent.skip (Ent.skip (Ent.skip (Ent.skip (Ent.refl _)))))) | exact Ent.skip (Ent.skip (Ent.skip (Ent.skip (Ent.skip (Ent.skip (Ent.skip (Ent.refl _))))))) | exact Ent.skip (Ent.skip (Ent.skip (Ent.skip (Ent.skip (Ent.skip (Ent.skip (Ent.skip (Ent.refl _)))))))) | exact Ent.skip (Ent.skip (Ent.skip (Ent.skip (Ent.skip (Ent.skip (Ent.skip (Ent.skip (Ent.skip (Ent.refl _)))))))))) ?_))
            refine wpList_nil ⟨rfl, hs.only2, ?_⟩
            refine wpAll_last [12] (by kernel_rfl) (fun c hc => ?_)
            simp only [List.mem_singleton] at hc
            subst hc
            refine ⟨_, rfl, ?_⟩
            go_wp2
            go_meet
            exact ⟨_, rfl, rfl, hs⟩
          · skip
            refine ⟨_, rfl, ?_⟩
            refine wpl_store_agg (v := val3 u) rfl rfl (size3 _) (hs.ent (M := blk g10 (c3 V3.z).toArray 40 :: blk X (slC v0 d M F) 67 :: blk g5 (c3 v).toArray 40 :: PlB d.k v0 S' g' :: HSet M S :: FlP F bd evs rds :: blk g6 (c3 V3.z).toArray 40 :: L) (by (repeat first | exact Ent.refl _ | refine Ent.step (by first | exact Ent.refl _ | exact Ent.skip (Ent.refl _) | exact Ent.skip (Ent.skip (Ent.refl _)) | exact Ent.skip (Ent.skip (Ent.skip (Ent.refl _))) | exact Ent.skip (Ent.skip (Ent.skip (Ent.skip (Ent.refl _)))) | exact Ent.skip (Ent.skip (Ent.skip (Ent.skip (Ent.skip (Ent.refl _))))) | exact Ent.skip (Ent.skip (Ent.skip (Ent.skip (Ent.skip (Ent.skip (Ent.refl _)))))) | exact Ent.skip (Ent.skip (Ent.skip (Ent.skip (Ent.skip (Ent.skip (Ent.skip (Ent.refl _))))))) | exact Ent.skip (Ent.skip (Ent.skip (Ent.skip (Ent.skip (Ent.skip (Ent.skip (Ent.skip (Ent.refl _)))))))) | exact Ent.skip (Ent.skip (Ent.skip (Ent.skip (Ent.skip (Ent.skip (Ent.skip (Ent.skip (Ent.skip (Ent.refl _)))))))))) ?_))) WrA.slot3 ?_
            clear hs
            intro w hs
            replace hs : St w0 (blk X (slC v0 d M F) 67 :: blk g5 (c3 v).toArray 40 :: PlB d.k v0 S' g' :: blk g10 (c3 u).toArray 40 :: HSet M S :: FlP F bd evs rds :: blk g6 (c3 V3.z).toArray 40 :: L) w := hs.ent (by (repeat first | exact Ent.refl _ | refine Ent.step (by first | exact Ent.refl _ | exact Ent.skip (Ent.refl _) | exact Ent.skip (Ent.skip (Ent.refl _)) | exact Ent.skip (Ent.skip (Ent.skip (Ent.refl _))) | exact Ent.skip (Ent.skip (Ent.skip (Ent.skip (Ent.refl _)))) | exact Ent.skip (Ent.skip (Ent.skip (Ent.skip (Ent.skip (Ent.refl _))))) | exact Ent.skip (Ent.skip (Ent.skip (Ent.skip (Ent.skip (Ent.skip (Ent.refl _)))))) | exact Ent.skip (Ent.skip (Ent.skip (Ent.skip (Ent.skip (Ent.skip (Ent.skip (Ent.refl _))))))) | exact Ent.skip (Ent.skip (Ent.skip (Ent.skip (Ent.skip (Ent.skip (Ent.skip (Ent.skip (Ent.refl _)))))))) | exact Ent.skip (Ent.skip (Ent.skip (Ent.skip (Ent.skip (Ent.skip (Ent.skip (Ent.skip (Ent.skip (Ent.refl _)))))))))) ?_))
            refine wpList_nil ⟨rfl, hs.only2, ?_⟩
            refine wpAllP_next [9] (by kernel_rfl) (fun c hc => ?_)
            simp only [List.mem_singleton] at hc
            subst hc
            refine ⟨_, rfl, ?_⟩
            go_wp2
            refine ⟨hs.only2, ?_⟩
            refine wpAll_last [12] (by kernel_rfl) (fun c hc => ?_)
            simp only [List.mem_singleton] at hc
            subst hc
            refine ⟨_, rfl, ?_⟩
            go_wp2
            go_meet
            exact ⟨_, rfl, rfl, hs⟩
        · skip
          refine ⟨_, rfl, ?_⟩
          go_wp2
          refine ⟨hs.only2, ?_⟩
          refine wpAllP_next [8] (by kernel_rfl) (fun c hc => ?_)
          simp only [List.mem_singleton] at hc
          subst hc
          refine ⟨_, rfl, ?_⟩
          go_wp2
          refine ⟨hs.only2, ?_⟩
          refine wpAllP_next [11] (by kernel_rfl) (fun c hc => ?_)
          simp only [List.mem_singleton] at hc
          subst hc
          refine ⟨_, rfl, ?_⟩
          refine wpl_store_agg (v := val3 u) rfl rfl (size3 _) (hs.ent (M := blk g10 (c3 V3.z).toArray 40 :: blk X (slC v0 d M F) 67 :: blk g5 (c3 v).toArray 40 :: PlB d.k v0 S' g' :: HSet M S :: FlP F bd evs rds :: blk g6 (c3 V3.z).toArray 40 :: L) (by (repeat first | exact Ent.refl _ | refine Ent.step (by first | exact Ent.refl _ | exact Ent.skip (Ent.refl _) | exact Ent.skip (Ent.skip (Ent.refl _)) | exact Ent.skip (Ent.skip (Ent.skip (Ent.refl _))) | exact Ent.skip (Ent.skip (Ent.skip (Ent.skip (Ent.refl _)))) | exact Ent.skip (Ent.skip (Ent.skip (Ent.skip (Ent.skip (Ent.refl _))))) | exact Ent.skip (Ent.skip (Ent.skip (Ent.skip (Ent.skip (Ent.skip (Ent.refl _)))))) | exact Ent.skip (Ent.skip (Ent.skip (Ent.skip (Ent.skip (Ent.skip (Ent.skip (Ent.refl _))))))) | exact Ent.skip (Ent.skip (Ent.skip (Ent.skip (Ent.skip (Ent.skip (Ent.skip (Ent.skip (Ent.refl _)))))))) | exact Ent.skip (Ent.skip (Ent.skip (Ent.skip (Ent.skip (Ent.skip (Ent.skip (Ent.skip (Ent.skip (Ent.refl _)))))))))) ?_))) WrA.slot3 ?_
          clear hs
          intro w hs
          replace hs : St w0 (blk X (slC v0 d M F) 67 :: blk g5 (c3 v).toArray 40 :: PlB d.k v0 S' g' :: blk g10 (c3 u).toArray 40 :: HSet M S :: FlP F bd evs rds :: blk g6 (c3 V3.z).toArray 40 :: L) w := hs.ent (by (repeat first | exact Ent.refl _ | refine Ent.step (by first | exact Ent.refl _ | exact Ent.skip (Ent.refl _) | exact Ent.skip (Ent.skip (Ent.refl _)) | exact Ent.skip (Ent.skip (Ent.skip (Ent.refl _))) | exact Ent.skip (Ent.skip (Ent.skip (Ent.skip (Ent.refl _)))) | exact Ent.skip (Ent.skip (Ent.skip (Ent.skip (Ent.skip (Ent.refl _))))) | exact Ent.skip (Ent.skip (Ent.skip (Ent.skip (Ent.skip (Ent.skip (Ent.refl _)))))) | exact Ent.skip (Ent.skip (Ent.skip (Ent.skip (Ent.skip (Ent.skip (Ent.skip (Ent.refl _))))))) | exact Ent.skip (Ent.skip (Ent.skip (Ent.skip (Ent.skip (Ent.skip (Ent.skip (Ent.skip (Ent.refl _)))))))) | exact Ent.skip (Ent.skip (Ent.skip (Ent.skip (Ent.skip (Ent.skip (Ent.skip (Ent.skip (Ent.skip (Ent.refl _)))))))))) ?_))
          refine wpList_nil ⟨rfl, hs.only2, ?_⟩
          refine wpAll_last [12] (by kernel_rfl) (fun c hc => ?_)
          simp only [List.mem_singleton] at hc
          subst hc
          refine ⟨_, rfl, ?_⟩
          go_wp2
          go_meet
          exact ⟨_, rfl, rfl, hs⟩
    · skip
      refine ⟨_, rfl, ?_⟩
      refine wpl_alloc zero3 hs ?_
      clear hs
      intro g10 w hs
      replace hs : St w0 (blk g10 (c3 V3.z).toArray 40 :: blk X (slC v0 d M F) 67 :: blk g5 (c3 v).toArray 40 :: PlB d.k v0 S g :: HSet M S :: FlP F bd evs rds :: blk g6 (c3 V3.z).toArray 40 :: L) w := hs
      replace hs : St w0 (blk X (slC v0 d M F) 67 :: blk g5 (c3 v).toArray 40 :: PlB d.k v0 S g :: blk g10 (c3 V3.z).toArray 40 :: HSet M S :: FlP F bd evs rds :: blk g6 (c3 V3.z).toArray 40 :: L) w := hs.ent (by (repeat first | exact Ent.refl _ | refine Ent.step (by first | exact Ent.refl _ | exact Ent.skip (Ent.refl _) | exact Ent.skip (Ent.skip (Ent.refl _)) | exact Ent.skip (Ent.skip (Ent.skip (Ent.refl _))) | exact Ent.skip (Ent.skip (Ent.skip (Ent.skip (Ent.refl _)))) | exact Ent.skip (Ent.skip (Ent.skip (Ent.skip (Ent.skip (Ent.refl _))))) | exact Ent.skip (Ent.skip (Ent.skip (Ent.skip (Ent.skip (Ent.skip (Ent.refl _)))))) | exact Ent.skip (Ent.skip (Ent.skip (Ent.skip (Ent.skip (Ent.skip (Ent.skip (Ent.refl _))))))) | exact Ent.skip (Ent.skip (Ent.skip (Ent.skip (Ent.skip (Ent.skip (Ent.skip (Ent.skip (Ent.refl _)))))))) | exact Ent.skip (Ent.skip (Ent.skip (Ent.skip (Ent.skip (Ent.skip (Ent.skip (Ent.skip (Ent.skip (Ent.refl _)))))))))) ?_))
      refine wpList_nil ⟨rfl, hs.only2, ?_⟩
      refine wpAllP_next [6] (by kernel_rfl) (fun c hc => ?_)
      simp only [List.mem_singleton] at hc
      subst hc
      refine ⟨_, rfl, ?_⟩
      refine wpl_inv2 (v := v0) (v1 := .int .i64 ((i : Nat) : Int)) (v2 := val3 v) rfl rfl rfl (HP.out _ _ (hs.ent (M := PlB d.k v0 S g :: blk X (slC v0 d M F) 67 :: blk g5 (c3 v).toArray 40 :: blk g10 (c3 V3.z).toArray 40 :: HSet M S :: FlP F bd evs rds :: blk g6 (c3 V3.z).toArray 40 :: L) (by (repeat first | exact Ent.refl _ | refine Ent.step (by first | exact Ent.refl _ | exact Ent.skip (Ent.refl _) | exact Ent.skip (Ent.skip (Ent.refl _)) | exact Ent.skip (Ent.skip (Ent.skip (Ent.refl _))) | exact Ent.skip (Ent.skip (Ent.skip (Ent.skip (Ent.refl _)))) | exact Ent.skip (Ent.skip (Ent.skip (Ent.skip (Ent.skip (Ent.refl _))))) | exact Ent.skip (Ent.skip (Ent.skip (Ent.skip (Ent.skip (Ent.skip (Ent.refl _)))))) | exact Ent.skip (Ent.skip (Ent.skip (Ent.skip (Ent.skip (Ent.skip (Ent.skip (Ent.refl _))))))) | exact Ent.skip (Ent.skip (Ent.skip (Ent.skip (Ent.skip (Ent.skip (Ent.skip (Ent.skip (Ent.refl _)))))))) | exact Ent.skip (Ent.skip (Ent.skip (Ent.skip (Ent.skip (Ent.skip (Ent.skip (Ent.skip (Ent.skip (Ent.refl _)))))))))) ?_)))) ?_
      clear hs
      rintro r w ⟨rfl, hs⟩
      replace hs : St w0 (blk X (slC v0 d M F) 67 :: blk g5 (c3 v).toArray 40 :: PlB d.k v0 S' g' :: blk g10 (c3 V3.z).toArray 40 :: HSet M S :: FlP F bd evs rds :: blk g6 (c3 V3.z).toArray 40 :: L) w := hs.ent (by (repeat first | exact Ent.refl _ | refine Ent.step (by first | exact Ent.refl _ | exact Ent.skip (Ent.refl _) | exact Ent.skip (Ent.skip (Ent.refl _)) | exact Ent.skip (Ent.skip (Ent.skip (Ent.refl _))) | exact Ent.skip (Ent.skip (Ent.skip (Ent.skip (Ent.refl _)))) | exact Ent.skip (Ent.skip (Ent.skip (Ent.skip (Ent.skip (Ent.refl _))))) | exact Ent.skip (Ent.skip (Ent.skip (Ent.skip (Ent.skip (Ent.skip (Ent.refl _)))))) | exact Ent.skip (Ent.skip (Ent.skip (Ent.skip (Ent.skip (Ent.skip (Ent.skip (Ent.refl _))))))) | exact Ent.skip (Ent.skip (Ent.skip (Ent.skip (Ent.skip (Ent.skip (Ent.skip (Ent.skip (Ent.refl _)))))))) | exact Ent.skip (Ent.skip (Ent.skip (Ent.skip (Ent.skip (Ent.skip (Ent.skip (Ent.skip (Ent.skip (Ent.refl _)))))))))) ?_))
      refine wpList_nil ⟨rfl, hs.only2, ?_⟩
      refine wpAllP_next [7] (by kernel_rfl) (fun c hc => ?_)
      simp only [List.mem_singleton] at hc
      subst hc
      refine ⟨_, rfl, ?_⟩
      go_wp2
      refine ⟨hs.only2, ?_⟩
      refine wpAllP_next [8, 9] (by kernel_rfl) (fun c hc => ?_)
      simp only [List.mem_cons, List.not_mem_nil, or_false] at hc
      rcases hc with rfl | rfl
      · skip
        refine ⟨_, rfl, ?_⟩
        go_wp2
        refine ⟨hs.only2, ?_⟩
        refine wpAllP_next [9, 11] (by kernel_rfl) (fun c hc => ?_)
        simp only [List.mem_cons, List.not_mem_nil, or_false] at hc
        rcases hc with rfl | rfl
        · skip
          refine ⟨_, rfl, ?_⟩
          go_wp2
          refine ⟨hs.only2, ?_⟩
          refine wpAllP_next [11] (by kernel_rfl) (fun c hc => ?_)
          simp only [List.mem_singleton] at hc
          subst hc
          refine ⟨_, rfl, ?_⟩
          refine wpl_store_agg (v := val3 u) rfl rfl (size3 _) (hs.ent (M := blk g10 (c3 V3.z).toArray 40 :: blk X (slC v0 d M F) 67 :: blk g5 (c3 v).toArray 40 :: PlB d.k v0 S' g' :: HSet M S :: FlP F bd evs rds :: blk g6 (c3 V3.z).toArray 40 :: L) (by (repeat first | exact Ent.refl _ | refine Ent.step (by first | exact Ent.refl _ | exact Ent.skip (Ent.refl _) | exact Ent.skip (Ent.skip (Ent.refl _)) | exact Ent.skip (Ent.skip (Ent.skip (Ent.refl _))) | exact Ent.skip (Ent.skip (Ent.skip (Ent.skip (Ent.refl _)))) | exact Ent.skip (Ent.skip (Ent.skip (Ent.skip (Ent.skip (Ent.refl _))))) | exact Ent.skip (Ent.skip (Ent.skip (Ent.skip (Ent.skip (Ent.skip (Ent.refl _)))))) | exact Ent.skip (Ent.skip (Ent.skip (Ent.skip (Ent.skip (Ent.skip (Ent.skip (Ent.refl _))))))) | exact Ent.skip (Ent.skip (Ent.skip (Ent.skip (Ent.skip (Ent.skip (Ent.skip (Ent.skip (Ent.refl _)))))))) | exact Ent.skip (Ent.skip (Ent.skip (Ent.skip (Ent.skip (Ent.skip (Ent.skip (Ent.skip (Ent.skip (Ent.refl _)))))))))) ?_))) WrA.slot3 ?_
          clear hs
          intro w hs
          replace hs : St w0 (blk X (slC v0 d M F) 67 :: blk g5 (c3 v).toArray 40 :: PlB d.k v0 S' g' :: blk g10 (c3 u).toArray 40 :: HSet M S :: FlP F bd evs rds :: blk g6 (c3 V3.z).toArray 40 :: L) w := hs.ent (by (repeat first | exact Ent.refl _ | refine Ent.step (by first | exact Ent.refl _ | exact Ent.skip (Ent.refl _) | exact Ent.skip (Ent.skip (Ent.refl _)) | exact Ent.skip (Ent.skip (Ent.skip (Ent.refl _))) | exact Ent.skip (Ent.skip (Ent.skip (Ent.skip (Ent.refl _)))) | exact Ent.skip (Ent.skip (Ent.skip (Ent.skip (Ent.skip (Ent.refl _))))) | exact Ent.skip (Ent.skip (Ent.skip (Ent.skip (Ent.skip (Ent.skip (Ent.refl _)))))) | exact Ent.skip (Ent.skip (Ent.skip (Ent.skip (Ent.skip (Ent.skip (Ent.skip (Ent.refl _))))))) | exact Ent.skip (Ent.skip (Ent.skip (Ent.skip (Ent.skip (Ent.skip (Ent.skip (Ent.skip (Ent.refl _)))))))) | exact Ent.skip (Ent.skip (Ent.skip (Ent.skip (Ent.skip (Ent.skip (Ent.skip (Ent.skip (Ent.skip (Ent.refl _)))))))))) ?_))
          refine wpList_nil ⟨rfl, hs.only2, ?_⟩
          refine wpAll_last [12] (by kernel_rfl) (fun c hc => ?_)
          simp only [List.mem_singleton] at hc
          subst hc
          refine ⟨_, rfl, ?_⟩
          go_wp2
          go_meet
          exact ⟨_, rfl, rfl, hs⟩
        · skip
          refine ⟨_, rfl, ?_⟩
          refine wpl_store_agg (v := val3 u) rfl rfl (size3 _) (hs.ent (M := blk g10 (c3 V3.z).toArray 40 :: blk X (slC v0 d M F) 67 :: blk g5 (c3 v).toArray 40 :: PlB d.k v0 S' g' :: HSet M S :: FlP F bd evs rds :: blk g6 (c3 V3.z).toArray 40 :: L) (by (repeat first | exact Ent.refl _ | refine Ent.step (by first | exact Ent.refl _ | exact Ent.skip (Ent.refl _) | exact Ent.skip (Ent.skip (Ent.refl _)) | exact Ent.skip (Ent.skip (Ent.skip (Ent.refl _))) | exact Ent.skip (Ent.skip (Ent.skip (Ent.skip (Ent.refl _)))) | exact Ent.skip (Ent.skip (Ent.skip (Ent.skip (Ent.skip (Ent.refl _))))) | exact Ent.skip (Ent.skip (Ent.skip (Ent.skip (Ent.skip (Ent.skip (Ent.refl _)))))) | exact Ent.skip (Ent.skip (Ent.skip (Ent.skip (Ent.skip (Ent.skip (Ent.skip (Ent.refl _))))))) | exact Ent.skip (Ent.skip (Ent.skip (Ent.skip (Ent.skip (Ent.skip (Ent.skip (Ent.skip (Ent.refl _)))))))) | exact Ent.skip (Ent.skip (Ent.skip (Ent.skip (Ent.skip (Ent.skip (Ent.skip (Ent.skip (Ent.skip (Ent.refl _)))))))))) ?_))) WrA.slot3 ?_
          clear hs
          intro w hs
          replace hs : St w0 (blk X (slC v0 d M F) 67 :: blk g5 (c3 v).toArray 40 :: PlB d.k v0 S' g' :: blk g10 (c3 u).toArray 40 :: HSet M S :: FlP F bd evs rds :: blk g6 (c3 V3.z).toArray 40 :: L) w := hs.ent (by (repeat first | exact Ent.refl _ | refine Ent.step (by first | exact Ent.refl _ | exact Ent.skip (Ent.refl _) | exact Ent.skip (Ent.skip (Ent.refl _)) | exact Ent.skip (Ent.skip (Ent.skip (Ent.refl _))) | exact Ent.skip (Ent.skip (Ent.skip (Ent.skip (Ent.refl _)))) | exact Ent.skip (Ent.skip (Ent.skip (Ent.skip (Ent.skip (Ent.refl _))))) | exact Ent.skip (Ent.skip (Ent.skip (Ent.skip (Ent.skip (Ent.skip (Ent.refl _)))))) | exact Ent.skip (Ent.skip (Ent.skip (Ent.skip (Ent.skip (Ent.skip (Ent.skip (Ent.refl _))))))) | exact Ent.skip (Ent.skip (Ent.skip (Ent.skip (Ent.skip (Ent.skip (Ent.skip (Ent.skip (Ent.refl _)))))))) | exact Ent.skip (Ent.skip (Ent.skip (Ent.skip (Ent.skip (Ent.skip (Ent.skip (Ent.skip (Ent.skip (Ent.refl _)))))))))) ?_))
          refine wpList_nil ⟨rfl, hs.only2, ?_⟩
          refine wpAllP_next [9] (by kernel_rfl) (fun c hc => ?_)
          simp only [List.mem_singleton] at hc
          subst hc
          refine ⟨_, rfl, ?_⟩
          go_wp2
          refine ⟨hs.only2, ?_⟩
          refine wpAll_last [12] (by kernel_rfl) (fun c hc => ?_)
          simp only [List.mem_singleton] at hc
          subst hc
          refine ⟨_, rfl, ?_⟩
          go_wp2
          go_meet
          exact ⟨_, rfl, rfl, hs⟩
      · skip
        refine ⟨_, rfl, ?_⟩
        go_wp2
        refine ⟨hs.only2, ?_⟩
        refine wpAllP_next [8] (by kernel_rfl) (fun c hc => ?_)
        simp only [List.mem_singleton] at hc
        subst hc
        refine ⟨_, rfl, ?_⟩
        go_wp2
        refine ⟨hs.only2, ?_⟩
        refine wpAllP_next [11] (by kernel_rfl) (fun c hc => ?_)
        simp only [List.mem_singleton] at hc
        subst hc
        refine ⟨_, rfl, ?_⟩
        refine wpl_store_agg (v := val3 u) rfl rfl (size3 _) (hs.ent (M := blk g10 (c3 V3.z).toArray 40 :: blk X (slC v0 d M F) 67 :: blk g5 (c3 v).toArray 40 :: PlB d.k v0 S' g' :: HSet M S :: FlP F bd evs rds :: blk g6 (c3 V3.z).toArray 40 :: L) (by (repeat first | exact Ent.refl _ | refine Ent.step (by first | exact Ent.refl _ | exact Ent.skip (Ent.refl _) | exact Ent.skip (Ent.skip (Ent.refl _)) | exact Ent.skip (Ent.skip (Ent.skip (Ent.refl _))) | exact Ent.skip (Ent.skip (Ent.skip (Ent.skip (Ent.refl _)))) | exact Ent.skip (Ent.skip (Ent.skip (Ent.skip (Ent.skip (Ent.refl _))))) | exact Ent.skip (Ent.skip (Ent.skip (Ent.skip (Ent.skip (Ent.skip (Ent.refl _)))))) | exact Ent.skip (Ent.skip (Ent.skip (Ent.skip (Ent.skip (Ent.skip (Ent.skip (Ent.refl _))))))) | exact Ent.skip (Ent.skip (Ent.skip (Ent.skip (Ent.skip (Ent.skip (Ent.skip (Ent.skip (Ent.refl _)))))))) | exact Ent.skip (Ent.skip (Ent.skip (Ent.skip (Ent.skip (Ent.skip (Ent.skip (Ent.skip (Ent.skip (Ent.refl _)))))))))) ?_))) WrA.slot3 ?_
        clear hs
        intro w hs
        replace hs : St w0 (blk X (slC v0 d M F) 67 :: blk g5 (c3 v).toArray 40 :: PlB d.k v0 S' g' :: blk g10 (c3 u).toArray 40 :: HSet M S :: FlP F bd evs rds :: blk g6 (c3 V3.z).toArray 40 :: L) w := hs.ent (by (repeat first | exact Ent.refl _ | refine Ent.step (by first | exact Ent.refl _ | exact Ent.skip (Ent.refl _) | exact Ent.skip (Ent.skip (Ent.refl _)) | exact Ent.skip (Ent.skip (Ent.skip (Ent.refl _))) | exact Ent.skip (Ent.skip (Ent.skip (Ent.skip (Ent.refl _)))) | exact Ent.skip (Ent.skip (Ent.skip (Ent.skip (Ent.skip (Ent.refl _))))) | exact Ent.skip (Ent.skip (Ent.skip (Ent.skip (Ent.skip (Ent.skip (Ent.refl _)))))) | exact Ent.skip (Ent.skip (Ent.skip (Ent.skip (Ent.skip (Ent.skip (Ent.skip (Ent.refl _))))))) | exact Ent.skip (Ent.skip (Ent.skip (Ent.skip (Ent.skip (Ent.skip (Ent.skip (Ent.skip (Ent.refl _)))))))) | exact Ent.skip (Ent.skip (Ent.skip (Ent.skip (Ent.skip (Ent.skip (Ent.skip (Ent.skip (Ent.skip (Ent.refl _)))))))))) ?_))
        refine wpList_nil ⟨rfl, hs.only2, ?_⟩
        refine wpAll_last [12] (by kernel_rfl) (fun c hc => ?_)
        simp only [List.mem_singleton] at hc
        subst hc
        refine ⟨_, rfl, ?_⟩
        go_wp2
        go_meet
        exact ⟨_, rfl, rfl, hs⟩
  case rest => as_aux_lemma =>
    obtain ⟨g10, rfl, rfl, hs⟩ := hcut
    have hr4 := fun L => Rd.sl4 (w0 := w0) (X := X) (v := v0) (d := d) (M := M) (F := F) (L := L) (t := 67)
    have hc4 := hr4 _ _ hs
    cases b
    · have hk0 : Hid (ntE F evs 1 ((i : Nat) : Int) = evs') := hev
      clear hev
      go_upto_region 9 with (first
        | (go_at_call 40; refine (add_any (hs.ent (M := HSet M S :: blk X (slC v0 d M F) 67 :: FlP F bd evs rds :: blk g5 (c3 v).toArray 40 :: PlB d.k v0 S' g' :: blk g10 (c3 u).toArray 40 :: blk g6 (c3 V3.z).toArray 40 :: L) (by (repeat first | exact Ent.refl _ | refine Ent.step (by first | exact Ent.refl _ | exact Ent.skip (Ent.refl _) | exact Ent.skip (Ent.skip (Ent.refl _)) | exact Ent.skip (Ent.skip (Ent.skip (Ent.refl _))) | exact Ent.skip (Ent.skip (Ent.skip (Ent.skip (Ent.refl _)))) | exact Ent.skip (Ent.skip (Ent.skip (Ent.skip (Ent.skip (Ent.refl _))))) | exact Ent.skip (Ent.skip (Ent.skip (Ent.skip (Ent.skip (Ent.skip (Ent.refl _)))))) | exact Ent.skip (Ent.skip (Ent.skip (Ent.skip (Ent.skip (Ent.skip (Ent.skip (Ent.refl _))))))) | exact Ent.skip (Ent.skip (Ent.skip (Ent.skip (Ent.skip (Ent.skip (Ent.skip (Ent.skip (Ent.refl _)))))))) | exact Ent.skip (Ent.skip (Ent.skip (Ent.skip (Ent.skip (Ent.skip (Ent.skip (Ent.skip (Ent.skip (Ent.refl _)))))))))) ?_))) i hi2 hS).mono ?_; clear hs hc4; rintro e w ⟨b', x', rfl, hs⟩)
        | (go_at_call 41; refine (HN.out _ _ _ (by decide) (by decide) (hs.ent (M := blk X (slC v0 d M F) 67 :: FlP F bd evs rds :: HSet M S' :: blk g5 (c3 v).toArray 40 :: PlB d.k v0 S' g' :: blk g10 (c3 u).toArray 40 :: blk g6 (c3 V3.z).toArray 40 :: L) (by (repeat first | exact Ent.refl _ | refine Ent.step (by first | exact Ent.refl _ | exact Ent.skip (Ent.refl _) | exact Ent.skip (Ent.skip (Ent.refl _)) | exact Ent.skip (Ent.skip (Ent.skip (Ent.refl _))) | exact Ent.skip (Ent.skip (Ent.skip (Ent.skip (Ent.refl _)))) | exact Ent.skip (Ent.skip (Ent.skip (Ent.skip (Ent.skip (Ent.refl _))))) | exact Ent.skip (Ent.skip (Ent.skip (Ent.skip (Ent.skip (Ent.skip (Ent.refl _)))))) | exact Ent.skip (Ent.skip (Ent.skip (Ent.skip (Ent.skip (Ent.skip (Ent.skip (Ent.refl _))))))) | exact Ent.skip (Ent.skip (Ent.skip (Ent.skip (Ent.skip (Ent.skip (Ent.skip (Ent.skip (Ent.refl _)))))))) | exact Ent.skip (Ent.skip (Ent.skip (Ent.skip (Ent.skip (Ent.skip (Ent.skip (Ent.skip (Ent.skip (Ent.refl _)))))))))) ?_)))).mono ?_; clear hs; rintro e w ⟨rfl, hs⟩; rw [hk0.out] at hs))
      replace hs : St w0 (blk g6 (c3 V3.z).toArray 40 :: blk g10 (c3 u).toArray 40 :: blk X (slC v0 d M F) 67 :: PlB d.k v0 S' g' :: HSet M S' :: FlP F bd evs' rds :: blk g5 (c3 v).toArray 40 :: L) w := hs.ent (by (repeat first | exact Ent.refl _ | refine Ent.step (by first | exact Ent.refl _ | exact Ent.skip (Ent.refl _) | exact Ent.skip (Ent.skip (Ent.refl _)) | exact Ent.skip (Ent.skip (Ent.skip (Ent.refl _))) | exact Ent.skip (Ent.skip (Ent.skip (Ent.skip (Ent.refl _)))) | exact Ent.skip (Ent.skip (Ent.skip (Ent.skip (Ent.skip (Ent.refl _))))) | exact Ent.skip (Ent.skip (Ent.skip (Ent.skip (Ent.skip (Ent.skip (Ent.refl _)))))) | exact Ent.skip (Ent.skip (Ent.skip (Ent.skip (Ent.skip (Ent.skip (Ent.skip (Ent.refl _))))))) | exact Ent.skip (Ent.skip (Ent.skip (Ent.skip (Ent.skip (Ent.skip (Ent.skip (Ent.skip (Ent.refl _)))))))) | exact Ent.skip (Ent.skip (Ent.skip (Ent.skip (Ent.skip (Ent.skip (Ent.skip (Ent.skip (Ent.skip (Ent.refl _)))))))))) ?_))
      go_wp2_with (first
        | (refine wpl_load3 (v := u) rfl ?hh agg3 size3n hs ?_; case hh => exact has3_tail has3_slot)
        | (refine wpl_store_agg (v := val3 u) rfl rfl (size3 _) hs WrA.slot3 ?_; clear hs; intro w hs))
      refine bodyPost_at (results_cell_tmp2 Try.results18 rfl (hs.slot_run agg3 (size3 _))) rfl ?_
      exact ⟨rfl, (hs.drop.drop.ent (M := blk X (slC v0 d M F) 67 :: PlB d.k v0 S' g' :: HSet M S' :: FlP F bd evs' rds :: blk g5 (c3 v).toArray 40 :: L) (by (repeat first | exact Ent.refl _ | refine Ent.step (by first | exact Ent.refl _ | exact Ent.skip (Ent.refl _) | exact Ent.skip (Ent.skip (Ent.refl _)) | exact Ent.skip (Ent.skip (Ent.skip (Ent.refl _))) | exact Ent.skip (Ent.skip (Ent.skip (Ent.skip (Ent.refl _)))) | exact Ent.skip (Ent.skip (Ent.skip (Ent.skip (Ent.skip (Ent.refl _))))) | exact Ent.skip (Ent.skip (Ent.skip (Ent.skip (Ent.skip (Ent.skip (Ent.refl _)))))) | exact Ent.skip (Ent.skip (Ent.skip (Ent.skip (Ent.skip (Ent.skip (Ent.skip (Ent.refl _))))))) | exact Ent.skip (Ent.skip (Ent.skip (Ent.skip (Ent.skip (Ent.skip (Ent.skip (Ent.skip (Ent.refl _)))))))) | exact Ent.skip (Ent.skip (Ent.skip (Ent.skip (Ent.skip (Ent.skip (Ent.skip (Ent.skip (Ent.skip (Ent.refl _)))))))))) ?_))).up4.drop⟩
    · have hk0 : Hid (ntE F evs 2 ((i : Nat) : Int) = evs') := hev
      clear hev
      go_upto_region 9 with (first
        | (go_at_call 40; refine (add_any (hs.ent (M := HSet M S :: blk X (slC v0 d M F) 67 :: FlP F bd evs rds :: blk g5 (c3 v).toArray 40 :: PlB d.k v0 S' g' :: blk g10 (c3 u).toArray 40 :: blk g6 (c3 V3.z).toArray 40 :: L) (by (repeat first | exact Ent.refl _ | refine Ent.step (by first | exact Ent.refl _ | exact Ent.skip (Ent.refl _) | exact Ent.skip (Ent.skip (Ent.refl _)) | exact Ent.skip (Ent.skip (Ent.skip (Ent.refl _))) | exact Ent.skip (Ent.skip (Ent.skip (Ent.skip (Ent.refl _)))) | exact Ent.skip (Ent.skip (Ent.skip (Ent.skip (Ent.skip (Ent.refl _))))) | exact Ent.skip (Ent.skip (Ent.skip (Ent.skip (Ent.skip (Ent.skip (Ent.refl _)))))) | exact Ent.skip (Ent.skip (Ent.skip (Ent.skip (Ent.skip (Ent.skip (Ent.skip (Ent.refl _))))))) | exact Ent.skip (Ent.skip (Ent.skip (Ent.skip (Ent.skip (Ent.skip (Ent.skip (Ent.skip (Ent.refl _)))))))) | exact Ent.skip (Ent.skip (Ent.skip (Ent.skip (Ent.skip (Ent.skip (Ent.skip (Ent.skip (Ent.skip (Ent.refl _)))))))))) ?_))) i hi2 hS).mono ?_; clear hs hc4; rintro e w ⟨b', x', rfl, hs⟩)
        | (go_at_call 41; refine (HN.out _ _ _ (by decide) (by decide) (hs.ent (M := blk X (slC v0 d M F) 67 :: FlP F bd evs rds :: HSet M S' :: blk g5 (c3 v).toArray 40 :: PlB d.k v0 S' g' :: blk g10 (c3 u).toArray 40 :: blk g6 (c3 V3.z).toArray 40 :: L) (by (repeat first | exact Ent.refl _ | refine Ent.step (by first | exact Ent.refl _ | exact Ent.skip (Ent.refl _) | exact Ent.skip (Ent.skip (Ent.refl _)) | exact Ent.skip (Ent.skip (Ent.skip (Ent.refl _))) | exact Ent.skip (Ent.skip (Ent.skip (Ent.skip (Ent.refl _)))) | exact Ent.skip (Ent.skip (Ent.skip (Ent.skip (Ent.skip (Ent.refl _))))) | exact Ent.skip (Ent.skip (Ent.skip (Ent.skip (Ent.skip (Ent.skip (Ent.refl _)))))) | exact Ent.skip (Ent.skip (Ent.skip (Ent.skip (Ent.skip (Ent.skip (Ent.skip (Ent.refl _))))))) | exact Ent.skip (Ent.skip (Ent.skip (Ent.skip (Ent.skip (Ent.skip (Ent.skip (Ent.skip (Ent.refl _)))))))) | exact Ent.skip (Ent.skip (Ent.skip (Ent.skip (Ent.skip (Ent.skip (Ent.skip (Ent.skip (Ent.skip (Ent.refl _)))))))))) ?_)))).mono ?_; clear hs; rintro e w ⟨rfl, hs⟩; rw [hk0.out] at hs))
      replace hs : St w0 (blk g6 (c3 V3.z).toArray 40 :: blk g10 (c3 u).toArray 40 :: blk X (slC v0 d M F) 67 :: PlB d.k v0 S' g' :: HSet M S' :: FlP F bd evs' rds :: blk g5 (c3 v).toArray 40 :: L) w := hs.ent (by (repeat first | exact Ent.refl _ | refine Ent.step (by first | exact Ent.refl _ | exact Ent.skip (Ent.refl _) | exact Ent.skip (Ent.skip (Ent.refl _)) | exact Ent.skip (Ent.skip (Ent.skip (Ent.refl _))) | exact Ent.skip (Ent.skip (Ent.skip (Ent.skip (Ent.refl _)))) | exact Ent.skip (Ent.skip (Ent.skip (Ent.skip (Ent.skip (Ent.refl _))))) | exact Ent.skip (Ent.skip (Ent.skip (Ent.skip (Ent.skip (Ent.skip (Ent.refl _)))))) | exact Ent.skip (Ent.skip (Ent.skip (Ent.skip (Ent.skip (Ent.skip (Ent.skip (Ent.refl _))))))) | exact Ent.skip (Ent.skip (Ent.skip (Ent.skip (Ent.skip (Ent.skip (Ent.skip (Ent.skip (Ent.refl _)))))))) | exact Ent.skip (Ent.skip (Ent.skip (Ent.skip (Ent.skip (Ent.skip (Ent.skip (Ent.skip (Ent.skip (Ent.refl _)))))))))) ?_))
      go_wp2_with (first
        | (refine wpl_load3 (v := u) rfl ?hh agg3 size3n hs ?_; case hh => exact has3_tail has3_slot)
        | (refine wpl_store_agg (v := val3 u) rfl rfl (size3 _) hs WrA.slot3 ?_; clear hs; intro w hs))
      refine bodyPost_at (results_cell_tmp2 Try.results18 rfl (hs.slot_run agg3 (size3 _))) rfl ?_
      exact ⟨rfl, (hs.drop.drop.ent (M := blk X (slC v0 d M F) 67 :: PlB d.k v0 S' g' :: HSet M S' :: FlP F bd evs' rds :: blk g5 (c3 v).toArray 40 :: L) (by (repeat first | exact Ent.refl _ | refine Ent.step (by first | exact Ent.refl _ | exact Ent.skip (Ent.refl _) | exact Ent.skip (Ent.skip (Ent.refl _)) | exact Ent.skip (Ent.skip (Ent.skip (Ent.refl _))) | exact Ent.skip (Ent.skip (Ent.skip (Ent.skip (Ent.refl _)))) | exact Ent.skip (Ent.skip (Ent.skip (Ent.skip (Ent.skip (Ent.refl _))))) | exact Ent.skip (Ent.skip (Ent.skip (Ent.skip (Ent.skip (Ent.skip (Ent.refl _)))))) | exact Ent.skip (Ent.skip (Ent.skip (Ent.skip (Ent.skip (Ent.skip (Ent.skip (Ent.refl _))))))) | exact Ent.skip (Ent.skip (Ent.skip (Ent.skip (Ent.skip (Ent.skip (Ent.skip (Ent.skip (Ent.refl _)))))))) | exact Ent.skip (Ent.skip (Ent.skip (Ent.skip (Ent.skip (Ent.skip (Ent.skip (Ent.skip (Ent.skip (Ent.refl _)))))))))) ?_))).up4.drop⟩
end Go.Proofs.Ytmdjpeblbnbjmaa
