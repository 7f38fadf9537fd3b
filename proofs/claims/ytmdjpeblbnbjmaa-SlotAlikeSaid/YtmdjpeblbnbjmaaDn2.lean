/-
  The contracts of values side by side (dense): Put, Take.
-/
import Derived.Test.YtmdjpeblbnbjmaaDn
set_option maxRecDepth 100000
namespace Go.Proofs.Ytmdjpeblbnbjmaa
open Go Go.RowKit
attribute [local irreducible] wpList Calls Code.wp okI okN pS tS memS getG pG insS delS updI

theorem wf_nat {i : Nat} (h : i ≤ 2147483647) : (Lit.int .i64 (i : Nat)).wf = true := by
  show (decide (IntKind.i64.min ≤ (i : Int)) && decide ((i : Int) ≤ IntKind.i64.max)) = true
  have h1 : IntKind.i64.min = -9223372036854775808 := by decide
  have h2 : IntKind.i64.max = 9223372036854775807 := by decide
  rw [h1, h2, decide_eq_true (by omega), decide_eq_true (by omega)]
  rfl
theorem elemD : ElemOk Try.prog 128 167 4 32 := ElemOk.of Try.underlying128 (z := .agg (c4 (0, V3.z)).toArray) (by kernel_rfl) rfl (by decide)
theorem size_rowsD : (Try.prog.info? 128).map (·.size) = some 1 := by kernel_rfl
theorem size4D (r : Row) : (Try.prog.info? 167).map (·.size) = some (Value.agg (c4 r).toArray).cells.size := by kernel_rfl
theorem agg4D : aggB Try.prog 167 = true := by kernel_rfl
theorem zero4D : (Try.prog.info? 167).bind (·.zero) = some (.agg (c4 (0, V3.z)).toArray) := by kernel_rfl
theorem Wr.dn0 {w0 : World} {D n cap n' cap' M : Nat} {A A' : Option Addr} {L : List As} {t : TypeId} : Wr w0 (Ytmdjpeblbnbjmaa.blk D (dnC A n cap M) t :: L) ⟨D, 0, none⟩ (.slice A' n' cap') (Ytmdjpeblbnbjmaa.blk D (dnC A' n' cap' M) t :: L) :=
  Wr.blk (by simp)
theorem WrA.slot4 {w0 : World} {g : Nat} {u v : Row} {t : TypeId} {L : List As} : WrA w0 (Ytmdjpeblbnbjmaa.blk g (c4 u).toArray t :: L) ⟨g, 0, none⟩ (Value.agg (c4 v).toArray).cells.toList (Ytmdjpeblbnbjmaa.blk g (c4 v).toArray t :: L) := by
  have := WrA.blk (w0 := w0) (g := g) (o := 0) (cs := c4 u) (t := t) (vs := c4 v) (L := L) (by simp [c4_len]) (c4_one v)
  rwa [splice_all (by simp [c4_len])] at this
theorem DnOk.cap {S : List Nat} {g : Nat → V3} {l : List Row} {f : Int → Option Int} (h : DnOk S g l f) : l.length ≤ 65536 := by rw [h.len]; exact sorted_short h.sorted h.small

/-- An index that may not be. -/
theorem dn_put_out {w0 w : World} {L : List As} {D : Nat} {S : List Nat} {g : Nat → V3} (hs : St w0 (DnB D S g :: L) w) {i : Int} (hi : okI i = false) (v : V3) :
    Calls Try.prog 88 #[.pointer (some ⟨D, 0, none⟩), .int .i64 i, val3 v] w fun e w' => e = .returned (.tuple #[val3 V3.z, .bool false]) ∧ St w0 (DnB D S g :: L) w' := by
  have hi2 : ¬ (0 ≤ i ∧ i < 65536) := by unfold okI at hi; exact of_decide_eq_false hi
  clear hi
  by_cases h0 : i < 0
  all_goals
    go_enter Try.func88, Try.ntmps88
    go_upto_region 2 with (first
      | (refine wpl_box_v (v := val3 v) rfl hs ?_; clear hs; intro g5 w hs)
      | (refine wpl_alloc zero3 hs ?_; clear hs; intro g6 w hs))
    try replace hs : St w0 (blk g6 (c3 V3.z).toArray 40 :: blk g5 (c3 v).toArray 40 :: DnB D S g :: L) w := hs
    go_wp2_with (first
      | (refine wpl_store_agg (v := val3 V3.z) rfl rfl (size3 _) hs WrA.slot3 ?_; clear hs; intro w hs))
    refine bodyPost_at (results_cell_tmp Try.results88 rfl (hs.slot_run agg3 (size3 _))) rfl ?_
    exact ⟨rfl, hs.drop.drop⟩
set_option maxHeartbeats 1000000 in
/-- An index that has a value. -/
theorem dn_put_old {w0 w : World} {L : List As} {D : Nat} {S : List Nat} {g : Nat → V3} (hs : St w0 (DnB D S g :: L) w) {i : Nat} (hi : i ∈ S) (v : V3) :
    Calls Try.prog 88 #[.pointer (some ⟨D, 0, none⟩), .int .i64 i, val3 v] w fun e w' => e = .returned (.tuple #[val3 (g i), .bool true]) ∧ St w0 (DnB D S (pG g i v) :: L) w' := by
  obtain ⟨l, f, A, cap, M, hok, hs⟩ := hs.dnopen
  obtain ⟨p, hf, hpl, hrow⟩ := hok.find hi
  have hi6 := hok.small i hi
  have HOK := Lib.hid (hok.set hi hf v)
  have hwf := wf_nat (i := i) (by omega)
  have HW := Lib.hid (cs4_setv v hrow)
  generalize g i = u at hrow ⊢
  have HFh := Lib.hid hf
  obtain ⟨gA, rfl⟩ := (hs.ent (Ent.swap _ _ _)).own_at (by omega)
  have d0 : decide ((i : Int) < 0) = false := decide_eq_false (by omega)
  have d1 : decide (65536 ≤ (i : Int)) = false := decide_eq_false (by omega)
  clear hf hok hi
  go_enter Try.func88, Try.ntmps88
  go_upto_region 3 with (first
    | (refine wpl_box_v (v := val3 v) rfl hs ?_; clear hs; intro g5 w hs)
    | (refine wpl_alloc zero3 hs ?_; clear hs; intro g6 w hs))
  replace hs : St w0 (blk D (dnC (some ⟨gA, 0, none⟩) l.length cap M) 132 :: own (some ⟨gA, 0, none⟩) l.length cap 167 4 (cs4 l) :: mpI M f l.length :: blk g6 (c3 V3.z).toArray 40 :: blk g5 (c3 v).toArray 40 :: L) w := (hs.ent (Ent.skip (Ent.skip (Ent.refl _)))).ent (Ent.cons _ ((Ent.skip (Ent.skip (Ent.refl _))).trans (Ent.cons _ (Ent.skip (Ent.skip (Ent.refl _))))))
  have hrD0 := fun L => Rd.dn0 (w0 := w0) (D := D) (n := l.length) (cap := cap) (A := some ⟨gA, 0, none⟩) (M := M) (t := 132) (L := L)
  have hrD1 := fun L => Rd.dn1 (w0 := w0) (D := D) (n := l.length) (cap := cap) (A := some ⟨gA, 0, none⟩) (M := M) (t := 132) (L := L)
  have hrv := fun L k x hx => (Rd.row4v (w0 := w0) (g := gA) (n := l.length) (cap := cap) (t := 167) (L := L) hrow k x hx).tail (p := blk D (dnC (some ⟨gA, 0, none⟩) l.length cap M) 132)
  have hc0 := hrD0 _ w hs
  have hc1 := hrD1 _ w hs
  go_upto_region 6 with (first
    | (refine wpl_lookup_ok mapII rfl rfl hwf (hs.ent (Ent.skip (Ent.skip (Ent.refl _)))) ?_; rw [HFh.out])
    | (refine wpl_load_agg (cs := c3 u) (b := gA) (o := p * 4 + 1) rfl agg3 (size3 u) hs (hrv _) ?_; clear hc0 hc1)
    | (refine wpl_alloc zero3 hs ?_; clear hs; intro g10 w hs)
    | (refine wpl_store_agg (v := val3 u) rfl rfl (size3 _) hs WrA.slot3 ?_; clear hs; intro w hs))
  clear hrv
  have hs2 : St w0 (blk D (dnC (some ⟨gA, 0, none⟩) l.length cap M) 132 :: blk g5 (c3 v).toArray 40 :: own (some ⟨gA, 0, none⟩) l.length cap 167 4 (cs4 l) :: mpI M f l.length :: blk g10 (c3 u).toArray 40 :: blk g6 (c3 V3.z).toArray 40 :: L) w :=
    hs.ent (by (repeat first | exact Ent.refl _ | refine Ent.step (by first | exact Ent.refl _ | exact Ent.skip (Ent.refl _) | exact Ent.skip (Ent.skip (Ent.refl _)) | exact Ent.skip (Ent.skip (Ent.skip (Ent.refl _))) | exact Ent.skip (Ent.skip (Ent.skip (Ent.skip (Ent.refl _)))) | exact Ent.skip (Ent.skip (Ent.skip (Ent.skip (Ent.skip (Ent.refl _))))) | exact Ent.skip (Ent.skip (Ent.skip (Ent.skip (Ent.skip (Ent.skip (Ent.refl _)))))) | exact Ent.skip (Ent.skip (Ent.skip (Ent.skip (Ent.skip (Ent.skip (Ent.skip (Ent.refl _))))))) | exact Ent.skip (Ent.skip (Ent.skip (Ent.skip (Ent.skip (Ent.skip (Ent.skip (Ent.skip (Ent.refl _)))))))) | exact Ent.skip (Ent.skip (Ent.skip (Ent.skip (Ent.skip (Ent.skip (Ent.skip (Ent.skip (Ent.skip (Ent.refl _)))))))))) ?_))
  clear hs
  simp only [Act.put, List.setIfInBounds_toArray, List.set_cons_succ, List.set_cons_zero]
  refine wp_region_plain [false, false, false, false, false, false, false, false, false, true] hs2.only2 (by kernel_rfl) (by kernel_rfl) fun hne => ?_
  have hc1 := (hrD0 [blk g5 (c3 v).toArray 40]).alln
  have hh := has3_tail (p := blk D (dnC (some ⟨gA, 0, none⟩) l.length cap M) 132) (has3_slot (w0 := w0) (L := []) (g := g5) (v := v) (t := 40))
  have hv0 := (hh 0 _ rfl).alln
  have hv1 := (hh 1 _ rfl).alln
  have hv2 := (hh 2 _ rfl).alln
  simp only [Nat.add_zero, Nat.zero_add] at hv0 hv1 hv2
  clear hh
  simp only [pickOps]
  repeat (go_big_quiet_step (fail))
  refine wpQuiet_nil ?_
  clear hne hc1 hv0 hv1 hv2
  simp only [chainIx]
  refine wpChain_last rfl ?_
  refine wpl_store_agg (v := val3 v) rfl rfl (size3 v) ((hs2.rot.drop).ent (M := own (some ⟨gA, 0, none⟩) l.length cap 167 4 (cs4 l) :: blk g10 (c3 u).toArray 40 :: blk g6 (c3 V3.z).toArray 40 :: blk D (dnC (some ⟨gA, 0, none⟩) l.length cap M) 132 :: mpI M f l.length :: L) (by (repeat first | exact Ent.refl _ | refine Ent.step (by first | exact Ent.refl _ | exact Ent.skip (Ent.refl _) | exact Ent.skip (Ent.skip (Ent.refl _)) | exact Ent.skip (Ent.skip (Ent.skip (Ent.refl _))) | exact Ent.skip (Ent.skip (Ent.skip (Ent.skip (Ent.refl _)))) | exact Ent.skip (Ent.skip (Ent.skip (Ent.skip (Ent.skip (Ent.refl _))))) | exact Ent.skip (Ent.skip (Ent.skip (Ent.skip (Ent.skip (Ent.skip (Ent.refl _)))))) | exact Ent.skip (Ent.skip (Ent.skip (Ent.skip (Ent.skip (Ent.skip (Ent.skip (Ent.refl _))))))) | exact Ent.skip (Ent.skip (Ent.skip (Ent.skip (Ent.skip (Ent.skip (Ent.skip (Ent.skip (Ent.refl _)))))))) | exact Ent.skip (Ent.skip (Ent.skip (Ent.skip (Ent.skip (Ent.skip (Ent.skip (Ent.skip (Ent.skip (Ent.refl _)))))))))) ?_))).drew (WrA.own (o := p * 4 + 1) (vs := c3 v) (by rw [cs4_len]; simp [c3]; omega) (one3 v)) ?_
  clear hs2
  intro w hs
  rw [HW.out] at hs
  refine wpList_nil ⟨rfl, ?_⟩
  go_wp2_with (first
    | (refine wpl_load3 (v := u) rfl ?hh agg3 size3n hs ?_; case hh => exact has3_tail has3_slot)
    | (refine wpl_store_agg (v := val3 u) rfl rfl (size3 _) (hs.ent (M := blk g6 (c3 V3.z).toArray 40 :: blk D (dnC (some ⟨gA, 0, none⟩) l.length cap M) 132 :: own (some ⟨gA, 0, none⟩) l.length cap 167 4 (cs4 (l.set p ((i : Nat), v))) :: mpI M f l.length :: blk g10 (c3 u).toArray 40 :: L) (by (repeat first | exact Ent.refl _ | refine Ent.step (by first | exact Ent.refl _ | exact Ent.skip (Ent.refl _) | exact Ent.skip (Ent.skip (Ent.refl _)) | exact Ent.skip (Ent.skip (Ent.skip (Ent.refl _))) | exact Ent.skip (Ent.skip (Ent.skip (Ent.skip (Ent.refl _)))) | exact Ent.skip (Ent.skip (Ent.skip (Ent.skip (Ent.skip (Ent.refl _))))) | exact Ent.skip (Ent.skip (Ent.skip (Ent.skip (Ent.skip (Ent.skip (Ent.refl _)))))) | exact Ent.skip (Ent.skip (Ent.skip (Ent.skip (Ent.skip (Ent.skip (Ent.skip (Ent.refl _))))))) | exact Ent.skip (Ent.skip (Ent.skip (Ent.skip (Ent.skip (Ent.skip (Ent.skip (Ent.skip (Ent.refl _)))))))) | exact Ent.skip (Ent.skip (Ent.skip (Ent.skip (Ent.skip (Ent.skip (Ent.skip (Ent.skip (Ent.skip (Ent.refl _)))))))))) ?_))) WrA.slot3 ?_; clear hs; intro w hs))
  refine bodyPost_at (results_cell_tmp Try.results88 rfl (hs.slot_run agg3 (size3 _))) rfl ?_
  refine ⟨rfl, ?_⟩
  have e : l.length = (l.set p ((i : Nat), v)).length := by simp
  replace hs := hs.drop
  rw [e] at hs
  have := hs.dnshut HOK.out
  exact this.rot.drop
end Go.Proofs.Ytmdjpeblbnbjmaa
