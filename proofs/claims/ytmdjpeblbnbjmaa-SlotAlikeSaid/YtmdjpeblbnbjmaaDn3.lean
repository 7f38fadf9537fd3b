/-
  The contracts of values side by side (dense): Put of a new index; Put; Take.
-/
import Derived.Test.YtmdjpeblbnbjmaaDn2
set_option maxRecDepth 100000
namespace Go.Proofs.Ytmdjpeblbnbjmaa
open Go Go.RowKit
attribute [local irreducible] wpList Calls Code.wp okI okN pS tS memS getG pG insS delS updI

set_option maxHeartbeats 1000000 in
/-- An index that has none. -/
theorem dn_put_new {w0 w : World} {L : List As} {D : Nat} {S : List Nat} {g : Nat → V3} (hs : St w0 (DnB D S g :: L) w) {i : Nat} (hi : i ∉ S) (hi6 : i < 65536) (v : V3) :
    Calls Try.prog 88 #[.pointer (some ⟨D, 0, none⟩), .int .i64 i, val3 v] w fun e w' => e = .returned (.tuple #[val3 V3.z, .bool false]) ∧ St w0 (DnB D (insS i S) (pG g i v) :: L) w' := by
  obtain ⟨l, f, A, cap, M, hok, hs⟩ := hs.dnopen
  have HOK := Lib.hid (hok.add hi hi6 v)
  have hcap := hok.cap
  have hwf := wf_nat (i := i) (by omega)
  have hwl := wf_nat (i := l.length) (by omega)
  have hf : f (i : Nat) = none := by
    have := hok.isSome (i : Nat)
    rw [show memS S (i : Nat) = false by cases hm : memS S (i : Nat) with
      | false => rfl
      | true => exact absurd (memS_iff.1 hm) hi] at this
    cases hf : f (i : Nat) with
    | none => rfl
    | some k => rw [hf] at this; cases this
  have HFh := Lib.hid hf
  have d0 : decide ((i : Int) < 0) = false := decide_eq_false (by omega)
  have d1 : decide (65536 ≤ (i : Int)) = false := decide_eq_false (by omega)
  have hmx : l.length < maxLen := by simp only [maxLen]; omega
  clear hf hok hi
  go_enter Try.func88, Try.ntmps88
  go_upto_region 3 with (first
    | (refine wpl_box_v (v := val3 v) rfl hs ?_; clear hs; intro g5 w hs)
    | (refine wpl_alloc zero3 hs ?_; clear hs; intro g6 w hs))
  replace hs : St w0 (blk D (dnC A l.length cap M) 132 :: own A l.length cap 167 4 (cs4 l) :: mpI M f l.length :: blk g6 (c3 V3.z).toArray 40 :: blk g5 (c3 v).toArray 40 :: L) w := hs.ent (by (repeat first | exact Ent.refl _ | refine Ent.step (by first | exact Ent.refl _ | exact Ent.skip (Ent.refl _) | exact Ent.skip (Ent.skip (Ent.refl _)) | exact Ent.skip (Ent.skip (Ent.skip (Ent.refl _))) | exact Ent.skip (Ent.skip (Ent.skip (Ent.skip (Ent.refl _)))) | exact Ent.skip (Ent.skip (Ent.skip (Ent.skip (Ent.skip (Ent.refl _))))) | exact Ent.skip (Ent.skip (Ent.skip (Ent.skip (Ent.skip (Ent.skip (Ent.refl _)))))) | exact Ent.skip (Ent.skip (Ent.skip (Ent.skip (Ent.skip (Ent.skip (Ent.skip (Ent.refl _))))))) | exact Ent.skip (Ent.skip (Ent.skip (Ent.skip (Ent.skip (Ent.skip (Ent.skip (Ent.skip (Ent.refl _)))))))) | exact Ent.skip (Ent.skip (Ent.skip (Ent.skip (Ent.skip (Ent.skip (Ent.skip (Ent.skip (Ent.skip (Ent.refl _)))))))))) ?_))
  have hrD0 := fun L => Rd.dn0 (w0 := w0) (D := D) (n := l.length) (cap := cap) (A := A) (M := M) (t := 132) (L := L)
  have hrD1 := fun L => Rd.dn1 (w0 := w0) (D := D) (n := l.length) (cap := cap) (A := A) (M := M) (t := 132) (L := L)
  have hc0 := hrD0 _ w hs
  have hc1 := hrD1 _ w hs
  go_upto_region 8 with (first
    | (refine wpl_lookup_ok mapII rfl rfl hwf (hs.ent (Ent.skip (Ent.skip (Ent.refl _)))) ?_; rw [HFh.out]))
  clear hc0 hc1
  refine wp_region_plain [false, false, false, false, false, false, false, false, false, false, false, false, true] hs.only (by kernel_rfl) (by kernel_rfl) fun hne => ?_
  have hc0 := (hrD0 []).alln
  have hc1 := (hrD1 []).alln
  simp only [pickOps]
  repeat (go_big_quiet_step (fail))
  refine wpQuiet_nil ?_
  clear hne hc0 hc1
  simp only [chainIx]
  refine wpChain_last rfl ?_
  refine wpl_mapUpdate mapII rfl rfl hwf rfl hwl hmx (hs.ent (M := mpI M f l.length :: blk D (dnC A l.length cap M) 132 :: blk g5 (c3 v).toArray 40 :: own A l.length cap 167 4 (cs4 l) :: blk g6 (c3 V3.z).toArray 40 :: L) (by (repeat first | exact Ent.refl _ | refine Ent.step (by first | exact Ent.refl _ | exact Ent.skip (Ent.refl _) | exact Ent.skip (Ent.skip (Ent.refl _)) | exact Ent.skip (Ent.skip (Ent.skip (Ent.refl _))) | exact Ent.skip (Ent.skip (Ent.skip (Ent.skip (Ent.refl _)))) | exact Ent.skip (Ent.skip (Ent.skip (Ent.skip (Ent.skip (Ent.refl _))))) | exact Ent.skip (Ent.skip (Ent.skip (Ent.skip (Ent.skip (Ent.skip (Ent.refl _)))))) | exact Ent.skip (Ent.skip (Ent.skip (Ent.skip (Ent.skip (Ent.skip (Ent.skip (Ent.refl _))))))) | exact Ent.skip (Ent.skip (Ent.skip (Ent.skip (Ent.skip (Ent.skip (Ent.skip (Ent.skip (Ent.refl _)))))))) | exact Ent.skip (Ent.skip (Ent.skip (Ent.skip (Ent.skip (Ent.skip (Ent.skip (Ent.skip (Ent.skip (Ent.refl _)))))))))) ?_))).drew ?_
  clear hs
  intro w hs
  rw [HFh.out] at hs
  simp only [Option.isSome_none, Bool.false_eq_true, if_false] at hs
  refine wpList_nil ⟨rfl, ?_⟩
  replace hs := (hs.rot.ent (Ent.cons _ (Ent.swap _ _ _)))
  generalize hF : updI f (i : Nat) (some ((l.length : Nat) : Int)) = f' at hs HOK
  clear HFh hF
  simp only [Act.put]
  go_upto_region 9 with (fail)
  refine wp_region_plain [false, false, false, false, false, false, false, false, false, true, true, false, false, false, true] hs.only2 (by kernel_rfl) (by kernel_rfl) fun hne => ?_
  have hc0 := (hrD0 [blk g5 (c3 v).toArray 40]).alln
  have hh := has3_tail (p := blk D (dnC A l.length cap M) 132) (has3_slot (w0 := w0) (L := []) (g := g5) (v := v) (t := 40))
  have hv0 := (hh 0 _ rfl).alln
  have hv1 := (hh 1 _ rfl).alln
  have hv2 := (hh 2 _ rfl).alln
  simp only [Nat.add_zero, Nat.zero_add] at hv0 hv1 hv2
  clear hh
  simp only [pickOps]
  repeat (go_big_quiet_step (fail))
  refine wpQuiet_nil ?_
  clear hne hc0 hv0 hv1 hv2
  simp only [chainIx]
  refine wpChainP_next rfl ?_
  refine wpl_build1 (v := .agg (c4 ((i : Nat), v)).toArray) elemD (by decide) rfl rfl hs.drew ?_
  clear hs
  intro gb w2 hs
  replace hs : St w0 (blk gb (c4 ((i : Nat), v)).toArray 167 :: blk D (dnC A l.length cap M) 132 :: own A l.length cap 167 4 (cs4 l) :: blk g5 (c3 v).toArray 40 :: mpI M f' (l.length + 1) :: blk g6 (c3 V3.z).toArray 40 :: L) w2 := hs.ent (by (repeat first | exact Ent.refl _ | refine Ent.step (by first | exact Ent.refl _ | exact Ent.skip (Ent.refl _) | exact Ent.skip (Ent.skip (Ent.refl _)) | exact Ent.skip (Ent.skip (Ent.skip (Ent.refl _))) | exact Ent.skip (Ent.skip (Ent.skip (Ent.skip (Ent.refl _)))) | exact Ent.skip (Ent.skip (Ent.skip (Ent.skip (Ent.skip (Ent.refl _))))) | exact Ent.skip (Ent.skip (Ent.skip (Ent.skip (Ent.skip (Ent.skip (Ent.refl _)))))) | exact Ent.skip (Ent.skip (Ent.skip (Ent.skip (Ent.skip (Ent.skip (Ent.skip (Ent.refl _))))))) | exact Ent.skip (Ent.skip (Ent.skip (Ent.skip (Ent.skip (Ent.skip (Ent.skip (Ent.skip (Ent.refl _)))))))) | exact Ent.skip (Ent.skip (Ent.skip (Ent.skip (Ent.skip (Ent.skip (Ent.skip (Ent.skip (Ent.skip (Ent.refl _)))))))))) ?_))
  refine wpList_nil ⟨rfl, (hs.drop.ent (Ent.cons _ (Ent.swap _ _ _))).only2, ?_⟩
  refine wpChainP_next rfl ?_
  refine wpl_append (B := some ⟨gb, 0, none⟩) (m := 1) (news := c4 ((i : Nat), v)) elemD rfl rfl hs (Ent.skip (Ent.skip (Ent.refl _))) RdS.blk rfl (c4_one _) (by simp only [maxLen]; omega) (by omega) ?_
  clear hs
  intro A' cap' w3 hs
  rw [show cs4 l ++ c4 (((i : Nat) : Int), v) = cs4 (l ++ [(((i : Nat) : Int), v)]) by rw [cs4_append]; simp [cs4]] at hs
  have e : l.length + 1 = (l ++ [(((i : Nat) : Int), v)]).length := by simp
  rw [e] at hs
  replace hs := (hs.rot.drop).rot
  refine wpList_nil ⟨rfl, (hs.ent (Ent.cons _ (Ent.swap _ _ _))).only2, ?_⟩
  refine wpChain_last rfl ?_
  refine wpl_store rfl rfl rfl size_rowsD hs Wr.dn0 ?_
  clear hs
  intro w hs
  refine wpList_nil ⟨rfl, ?_⟩
  rw [e] at hs
  replace hs := (hs.ent (M := blk D (dnC A' (l ++ [(((i : Nat) : Int), v)]).length cap' M) 132 :: own A' (l ++ [(((i : Nat) : Int), v)]).length cap' 167 4 (cs4 (l ++ [(((i : Nat) : Int), v)])) :: mpI M f' (l ++ [(((i : Nat) : Int), v)]).length :: blk g6 (c3 V3.z).toArray 40 :: blk g5 (c3 v).toArray 40 :: L) (by (repeat first | exact Ent.refl _ | refine Ent.step (by first | exact Ent.refl _ | exact Ent.skip (Ent.refl _) | exact Ent.skip (Ent.skip (Ent.refl _)) | exact Ent.skip (Ent.skip (Ent.skip (Ent.refl _))) | exact Ent.skip (Ent.skip (Ent.skip (Ent.skip (Ent.refl _)))) | exact Ent.skip (Ent.skip (Ent.skip (Ent.skip (Ent.skip (Ent.refl _))))) | exact Ent.skip (Ent.skip (Ent.skip (Ent.skip (Ent.skip (Ent.skip (Ent.refl _)))))) | exact Ent.skip (Ent.skip (Ent.skip (Ent.skip (Ent.skip (Ent.skip (Ent.skip (Ent.refl _))))))) | exact Ent.skip (Ent.skip (Ent.skip (Ent.skip (Ent.skip (Ent.skip (Ent.skip (Ent.skip (Ent.refl _)))))))) | exact Ent.skip (Ent.skip (Ent.skip (Ent.skip (Ent.skip (Ent.skip (Ent.skip (Ent.skip (Ent.skip (Ent.refl _)))))))))) ?_))).dnshut HOK.out
  simp only [Act.put, List.setIfInBounds_toArray, List.set_cons_succ, List.set_cons_zero]
  go_wp2_with (first
    | (refine wpl_store_agg (v := val3 V3.z) rfl rfl (size3 _) hs.rot WrA.slot3 ?_; clear hs; intro w hs))
  refine bodyPost_at (results_cell_tmp Try.results88 rfl (hs.slot_run agg3 (size3 _))) rfl ?_
  exact ⟨rfl, hs.drop.rot.drop⟩
/-- Put, of any index. -/
theorem dn_put {w0 w : World} {L : List As} {D : Nat} {S : List Nat} {g : Nat → V3} (hs : St w0 (DnB D S g :: L) w) (i : Int) (v : V3) :
    Calls Try.prog 88 #[.pointer (some ⟨D, 0, none⟩), .int .i64 i, val3 v] w fun e w' => e = .returned (.tuple #[val3 (getG S g i), .bool (memS S i)]) ∧ St w0 (DnB D (pS S i) (if okI i then pG g i v else g) :: L) w' := by
  obtain ⟨l, f, A, cap, M, hok, _⟩ := hs.dnopen
  have hsm := hok.small
  have hsrt := hok.sorted
  clear hok
  cases hi : okI i with
  | true =>
    have hi2 : 0 ≤ i ∧ i < 65536 := by unfold okI at hi; exact of_decide_eq_true hi
    obtain ⟨j, rfl⟩ := Int.eq_ofNat_of_zero_le hi2.1
    rw [pS_in (by omega), if_pos rfl]
    by_cases hj : j ∈ S
    · rw [getG_in hj, memS_iff.2 hj, ins_id hsrt hj]
      exact dn_put_old hs hj v
    · have hm : memS S (j : Nat) = false := by
        cases hm : memS S (j : Nat) with
        | false => rfl
        | true => exact absurd (memS_iff.1 hm) hj
      rw [getG_out hm, hm]
      exact dn_put_new hs hj (by omega) v
  | false =>
    have hm : memS S i = false := by
      cases hm : memS S i with
      | false => rfl
      | true =>
        obtain ⟨j, rfl, hj⟩ := memS_in hm
        have := hsm j hj
        rw [okI_nat this] at hi
        cases hi
    rw [getG_out hm, hm, show pS S i = S by unfold pS; rw [hi]; rfl, if_neg (by decide)]
    exact dn_put_out hs hi v
end Go.Proofs.Ytmdjpeblbnbjmaa
