/-
  XJR: joined of XDn XDn2 XDn3 XDn4.
-/
import Derived.Test.YtcnbmfaicbkhcaaGreatDoorJQ
/-
  The contracts of values side by side (dense): New, Len, Get.
-/
set_option maxRecDepth 100000
namespace Go.Proofs.YtcnbmfaicbkhcaaGreatDoor
open Go Go.RowKit
attribute [local irreducible] wpList Calls Code.wp okI okN pS memS getG

theorem mapII : MpT Tryz.prog 455 3 3 := ⟨Tryz.underlying455, Tryz.underlying3, Tryz.underlying3, fun w => by kernel_rfl⟩
abbrev dnC (A : Option Addr) (n cap M : Nat) : Array Value := #[.slice A n cap, .map (some M)]
abbrev mpI (M : Nat) (f : Int → Option Int) (m : Nat) : As := mpA Tryz.prog 3 3 M f m
def DnB (D : Nat) (S : List Nat) (g : Nat → V3) : As := fun h => ∃ l f A cap M, DnOk S g l f ∧ star (blk D (dnC A l.length cap M) 462) (star (own A l.length cap 510 4 (cs4 l)) (mpI M f l.length)) h
theorem St.dnopen {w0 w : World} {D : Nat} {S : List Nat} {g : Nat → V3} {L : List As} (hs : St w0 (DnB D S g :: L) w) :
    ∃ l f A cap M, DnOk S g l f ∧ St w0 (YtcnbmfaicbkhcaaGreatDoor.blk D (dnC A l.length cap M) 462 :: own A l.length cap 510 4 (cs4 l) :: mpI M f l.length :: L) w := by
  obtain ⟨hb, h, r, hd, hu, a, b, hab, rfl, ⟨l, f, A, cap, M, hok, ht⟩, hl⟩ := hs
  have h1 : St w0 (star (YtcnbmfaicbkhcaaGreatDoor.blk D (dnC A l.length cap M) 462) (star (own A l.length cap 510 4 (cs4 l)) (mpI M f l.length)) :: L) w := ⟨hb, _, r, hd, hu, a, b, hab, rfl, ht, hl⟩
  exact ⟨l, f, A, cap, M, hok, (h1.ent (Ent.open2 fun _ h => h)).ent (Ent.cons _ (Ent.open2 fun _ h => h))⟩
theorem St.dnshut {w0 w : World} {D M : Nat} {S : List Nat} {g : Nat → V3} {l : List Row} {f : Int → Option Int} {L : List As} {A : Option Addr} {cap : Nat} (hok : DnOk S g l f) (hs : St w0 (YtcnbmfaicbkhcaaGreatDoor.blk D (dnC A l.length cap M) 462 :: own A l.length cap 510 4 (cs4 l) :: mpI M f l.length :: L) w) : St w0 (DnB D S g :: L) w :=
  ((hs.ent (Ent.cons _ (Ent.shut2 fun _ h => h))).ent (Ent.shut2 fun _ h => h)).conv fun _ h => ⟨l, f, A, cap, M, hok, h⟩
theorem Rd.dn0 {w0 : World} {D n cap M : Nat} {A : Option Addr} {L : List As} {t : TypeId} : Rd w0 (YtcnbmfaicbkhcaaGreatDoor.blk D (dnC A n cap M) t :: L) ⟨D, 0, none⟩ (.slice A n cap) := Rd.blk rfl
theorem Rd.dn1 {w0 : World} {D n cap M : Nat} {A : Option Addr} {L : List As} {t : TypeId} : Rd w0 (YtcnbmfaicbkhcaaGreatDoor.blk D (dnC A n cap M) t :: L) ⟨D, 1, none⟩ (.map (some M)) := Rd.blk rfl
/-- A row, read. -/
theorem Rd.row4 {w0 : World} {g n cap i : Nat} {vs : List Row} {v : Row} {t : TypeId} {L : List As} (h : vs[i]? = some v) : ∀ j u, (c4 v)[j]? = some u → Rd w0 (YtcnbmfaicbkhcaaGreatDoor.own (some ⟨g, 0, none⟩) n cap t 4 (cs4 vs) :: L) ⟨g, i * 4 + j, none⟩ u :=
  fun j u hu => Rd.own (cs4_get h j u hu)
/-- A row's value, read. -/
theorem Rd.row4v {w0 : World} {g n cap i : Nat} {vs : List Row} {v : Row} {t : TypeId} {L : List As} (h : vs[i]? = some v) : ∀ j u, (c3 v.2)[j]? = some u → Rd w0 (YtcnbmfaicbkhcaaGreatDoor.own (some ⟨g, 0, none⟩) n cap t 4 (cs4 vs) :: L) ⟨g, i * 4 + 1 + j, none⟩ u :=
  fun j u hu => by
    have := Rd.row4 (w0 := w0) (g := g) (n := n) (cap := cap) (t := t) (L := L) h (j + 1) u (by simpa [c4] using hu)
    rwa [show i * 4 + (j + 1) = i * 4 + 1 + j by omega] at this
theorem dn_new {w : World} : Calls Tryz.prog 330 #[] w fun e w' => ∃ D, e = .returned (.pointer (some ⟨D, 0, none⟩)) ∧ St w [DnB D [] (fun _ => V3.z)] w' := by
  have hs := St.start w
  go_enter Tryz.func330, Tryz.ntmps330
  go_wp2_with (first
    | (refine wpl_makeMap (k := 3) (e := 3) hs ?_; clear hs; intro M w hs)
    | (refine wpl_box_v (v := .agg (dnC none 0 0 M)) rfl hs ?_; clear hs; intro D w hs))
  go_ret
  refine ⟨D, rfl, ?_⟩
  have h2 := (hs.ent (Ent.refl _)).own_nil 510 4
  exact (h2.ent (Ent.swap _ _ _)).dnshut DnOk.new
theorem dn_get {w0 w : World} {L : List As} {D : Nat} {S : List Nat} {g : Nat → V3} (hs : St w0 (DnB D S g :: L) w) (i : Int) (hi : (Lit.int .i64 i).wf = true) :
    Calls Tryz.prog 392 #[.pointer (some ⟨D, 0, none⟩), .int .i64 i] w fun e w' => e = .returned (.tuple #[val3 (getG S g i), .bool (memS S i)]) ∧ Grew w w' := by
  obtain ⟨l, f, A, cap, M, hok, hs⟩ := hs.dnopen
  have hr0 := Rd.dn0 (w0 := w0) (D := D) (n := l.length) (cap := cap) (A := A) (M := M) (t := 462) (L := own A l.length cap 510 4 (cs4 l) :: mpI M f l.length :: L)
  have hr1 := Rd.dn1 (w0 := w0) (D := D) (n := l.length) (cap := cap) (A := A) (M := M) (t := 462) (L := own A l.length cap 510 4 (cs4 l) :: mpI M f l.length :: L)
  have hsM := hs.ent (Ent.skip (Ent.skip (Ent.refl _)))
  cases hm : memS S i with
  | false =>
    have HR := Lib.hid (getG_out (g := g) hm)
    have HF : f i = none := by
      have := hok.isSome i
      rw [hm] at this
      cases hf : f i with
      | none => rfl
      | some k => rw [hf] at this; cases this
    have HFh := Lib.hid HF
    clear hm HF
    go_enter Tryz.func392, Tryz.ntmps392
    go_upto_region 1 with (fail)
    have hw := (St.start w).alloc (c3 V3.z).toArray 41
    generalize w.heap.size = g4 at hw ⊢
    refine wp_gen hw ?_
    clear hw
    intro w1 hw
    have hc1 := hr1 _ (hs.grew hw.made_grew)
    go_wp2_with (first
      | (refine wpl_lookup_ok mapII rfl rfl hi (hsM.grew hw.made_grew) ?_; rw [HFh.out])
      | (refine wpl_store_agg (v := val3 V3.z) rfl rfl (size3 _) hw WrA.slot3 ?_; clear hw; intro w3 hw))
    refine bodyPost_at (results_cell_tmp Tryz.results392 rfl (hw.slot_run agg3 (size3 _))) rfl ?_
    exact ⟨by rw [HR.out]; rfl, hw.made_grew⟩
  | true =>
    obtain ⟨j, rfl, hj⟩ := memS_in hm
    obtain ⟨p, hf, hpl, hrow⟩ := hok.find hj
    have HR := Lib.hid (getG_in (g := g) hj)
    generalize g j = v at HR hrow
    have HFh := Lib.hid hf
    obtain ⟨gA, rfl⟩ := (hs.ent (Ent.swap _ _ _)).own_at (by omega)
    have hrv := fun k u hu => (Rd.row4v (w0 := w0) (g := gA) (n := l.length) (cap := cap) (t := 510) (L := mpI M f l.length :: L) hrow k u hu).tail (p := blk D (dnC (some ⟨gA, 0, none⟩) l.length cap M) 462)
    clear hm hf hrow
    go_enter Tryz.func392, Tryz.ntmps392
    go_upto_region 1 with (fail)
    have hw := (St.start w).alloc (c3 V3.z).toArray 41
    generalize w.heap.size = g4 at hw ⊢
    refine wp_gen hw ?_
    clear hw
    intro w1 hw
    have hc1 := hr1 _ (hs.grew hw.made_grew)
    have hc0 := hr0 _ (hs.grew hw.made_grew)
    go_wp2_with (first
      | (refine wpl_lookup_ok mapII rfl rfl hi (hsM.grew hw.made_grew) ?_; rw [HFh.out])
      | (refine wpl_load_agg (cs := c3 v) (b := gA) (o := p * 4 + 1) rfl agg3 (size3 v) (hs.grew hw.made_grew) hrv ?_)
      | (refine wpl_store_agg (v := val3 v) rfl rfl (size3 _) hw WrA.slot3 ?_; clear hw; intro w3 hw))
    refine bodyPost_at (results_cell_tmp Tryz.results392 rfl (hw.slot_run agg3 (size3 _))) rfl ?_
    exact ⟨by rw [HR.out]; rfl, hw.made_grew⟩
end Go.Proofs.YtcnbmfaicbkhcaaGreatDoor

/-
  The contracts of values side by side (dense): Put, Take.
-/
set_option maxRecDepth 100000
namespace Go.Proofs.YtcnbmfaicbkhcaaGreatDoor
open Go Go.RowKit
attribute [local irreducible] wpList Calls Code.wp okI okN pS tS memS getG pG insS delS updI

theorem wf_nat {i : Nat} (h : i ≤ 2147483647) : (Lit.int .i64 (i : Nat)).wf = true := by
  show (decide (IntKind.i64.min ≤ (i : Int)) && decide ((i : Int) ≤ IntKind.i64.max)) = true
  have h1 : IntKind.i64.min = -9223372036854775808 := by decide
  have h2 : IntKind.i64.max = 9223372036854775807 := by decide
  rw [h1, h2, decide_eq_true (by omega), decide_eq_true (by omega)]
  rfl
theorem elemD : ElemOk Tryz.prog 458 510 4 32 := ElemOk.of Tryz.underlying458 (z := .agg (c4 (0, V3.z)).toArray) (by kernel_rfl) rfl (by decide)
theorem size_rowsD : (Tryz.prog.info? 458).map (·.size) = some 1 := by kernel_rfl
theorem size4D (r : Row) : (Tryz.prog.info? 510).map (·.size) = some (Value.agg (c4 r).toArray).cells.size := by kernel_rfl
theorem zero4D : (Tryz.prog.info? 510).bind (·.zero) = some (.agg (c4 (0, V3.z)).toArray) := by kernel_rfl
theorem Wr.dn0 {w0 : World} {D n cap n' cap' M : Nat} {A A' : Option Addr} {L : List As} {t : TypeId} : Wr w0 (YtcnbmfaicbkhcaaGreatDoor.blk D (dnC A n cap M) t :: L) ⟨D, 0, none⟩ (.slice A' n' cap') (YtcnbmfaicbkhcaaGreatDoor.blk D (dnC A' n' cap' M) t :: L) :=
  Wr.blk (by simp)
theorem WrA.slot4 {w0 : World} {g : Nat} {u v : Row} {t : TypeId} {L : List As} : WrA w0 (YtcnbmfaicbkhcaaGreatDoor.blk g (c4 u).toArray t :: L) ⟨g, 0, none⟩ (Value.agg (c4 v).toArray).cells.toList (YtcnbmfaicbkhcaaGreatDoor.blk g (c4 v).toArray t :: L) := by
  have := WrA.blk (w0 := w0) (g := g) (o := 0) (cs := c4 u) (t := t) (vs := c4 v) (L := L) (by simp [c4_len]) (c4_one v)
  rwa [splice_all (by simp [c4_len])] at this
theorem DnOk.cap {S : List Nat} {g : Nat → V3} {l : List Row} {f : Int → Option Int} (h : DnOk S g l f) : l.length ≤ 65536 := by rw [h.len]; exact sorted_short h.sorted h.small

/-- An index that may not be. -/
theorem dn_put_out {w0 w : World} {L : List As} {D : Nat} {S : List Nat} {g : Nat → V3} (hs : St w0 (DnB D S g :: L) w) {i : Int} (hi : okI i = false) (v : V3) :
    Calls Tryz.prog 394 #[.pointer (some ⟨D, 0, none⟩), .int .i64 i, val3 v] w fun e w' => e = .returned (.tuple #[val3 V3.z, .bool false]) ∧ St w0 (DnB D S g :: L) w' := by
  have hi2 : ¬ (0 ≤ i ∧ i < 65536) := by unfold okI at hi; exact of_decide_eq_false hi
  clear hi
  by_cases h0 : i < 0
  all_goals
    go_enter Tryz.func394, Tryz.ntmps394
    go_upto_region 2 with (first
      | (refine wpl_box_v (v := val3 v) rfl hs ?_; clear hs; intro g5 w hs)
      | (refine wpl_alloc zero3 hs ?_; clear hs; intro g6 w hs))
    try replace hs : St w0 (blk g6 (c3 V3.z).toArray 41 :: blk g5 (c3 v).toArray 41 :: DnB D S g :: L) w := hs
    go_wp2_with (first
      | (refine wpl_store_agg (v := val3 V3.z) rfl rfl (size3 _) hs WrA.slot3 ?_; clear hs; intro w hs))
    refine bodyPost_at (results_cell_tmp Tryz.results394 rfl (hs.slot_run agg3 (size3 _))) rfl ?_
    exact ⟨rfl, hs.drop.drop⟩
set_option maxHeartbeats 1000000 in
/-- An index that has a value. -/
theorem dn_put_old {w0 w : World} {L : List As} {D : Nat} {S : List Nat} {g : Nat → V3} (hs : St w0 (DnB D S g :: L) w) {i : Nat} (hi : i ∈ S) (v : V3) :
    Calls Tryz.prog 394 #[.pointer (some ⟨D, 0, none⟩), .int .i64 i, val3 v] w fun e w' => e = .returned (.tuple #[val3 (g i), .bool true]) ∧ St w0 (DnB D S (pG g i v) :: L) w' := by
  obtain ⟨l, f, A, cap, M, hok, hs⟩ := hs.dnopen
  obtain ⟨p, hf, hpl, hrow⟩ := hok.find hi
  have hi6 := hok.small i hi
  have HOK := Lib.hid (hok.set hi hf v)
  have hwf := wf_nat (i := i) (by omega)
  have HW := Lib.hid (cs4_setv v hrow)
  generalize g i = u at hrow ⊢
  have HFh := Lib.hid hf
  obtain ⟨gA, rfl⟩ := (hs.ent (Ent.swap _ _ _)).own_at (by omega)
  have d0 : decide ((i : Int) < 0) = false := decide_eq_false (by omega)
  have d1 : decide (65536 ≤ (i : Int)) = false := decide_eq_false (by omega)
  clear hf hok hi
  go_enter Tryz.func394, Tryz.ntmps394
  go_upto_region 3 with (first
    | (refine wpl_box_v (v := val3 v) rfl hs ?_; clear hs; intro g5 w hs)
    | (refine wpl_alloc zero3 hs ?_; clear hs; intro g6 w hs))
  replace hs : St w0 (blk D (dnC (some ⟨gA, 0, none⟩) l.length cap M) 462 :: own (some ⟨gA, 0, none⟩) l.length cap 510 4 (cs4 l) :: mpI M f l.length :: blk g6 (c3 V3.z).toArray 41 :: blk g5 (c3 v).toArray 41 :: L) w := (hs.ent (Ent.skip (Ent.skip (Ent.refl _)))).ent (Ent.cons _ ((Ent.skip (Ent.skip (Ent.refl _))).trans (Ent.cons _ (Ent.skip (Ent.skip (Ent.refl _))))))
  have hrD0 := fun L => Rd.dn0 (w0 := w0) (D := D) (n := l.length) (cap := cap) (A := some ⟨gA, 0, none⟩) (M := M) (t := 462) (L := L)
  have hrD1 := fun L => Rd.dn1 (w0 := w0) (D := D) (n := l.length) (cap := cap) (A := some ⟨gA, 0, none⟩) (M := M) (t := 462) (L := L)
  have hrv := fun L k x hx => (Rd.row4v (w0 := w0) (g := gA) (n := l.length) (cap := cap) (t := 510) (L := L) hrow k x hx).tail (p := blk D (dnC (some ⟨gA, 0, none⟩) l.length cap M) 462)
  have hc0 := hrD0 _ w hs
  have hc1 := hrD1 _ w hs
  go_upto_region 6 with (first
    | (refine wpl_lookup_ok mapII rfl rfl hwf (hs.ent (Ent.skip (Ent.skip (Ent.refl _)))) ?_; rw [HFh.out])
    | (refine wpl_load_agg (cs := c3 u) (b := gA) (o := p * 4 + 1) rfl agg3 (size3 u) hs (hrv _) ?_; clear hc0 hc1)
    | (refine wpl_alloc zero3 hs ?_; clear hs; intro g10 w hs)
    | (refine wpl_store_agg (v := val3 u) rfl rfl (size3 _) hs WrA.slot3 ?_; clear hs; intro w hs))
  clear hrv
  have hs2 : St w0 (blk D (dnC (some ⟨gA, 0, none⟩) l.length cap M) 462 :: blk g5 (c3 v).toArray 41 :: own (some ⟨gA, 0, none⟩) l.length cap 510 4 (cs4 l) :: mpI M f l.length :: blk g10 (c3 u).toArray 41 :: blk g6 (c3 V3.z).toArray 41 :: L) w :=
    hs.ent (by (repeat first | exact Ent.refl _ | refine Ent.step (by repeat first | exact Ent.refl _ | apply Ent.skip) ?_))
  clear hs
  simp only [Act.put, List.setIfInBounds_toArray, List.set_cons_succ, List.set_cons_zero]
  refine wp_region_plain [false, false, false, false, false, false, false, false, false, true] hs2.only2 (by kernel_rfl) (by kernel_rfl) fun hne => ?_
  have hc1 := (hrD0 [blk g5 (c3 v).toArray 41]).alln
  have hh := has3_tail (p := blk D (dnC (some ⟨gA, 0, none⟩) l.length cap M) 462) (has3_slot (w0 := w0) (L := []) (g := g5) (v := v) (t := 41))
  have hv0 := (hh 0 _ rfl).alln
  have hv1 := (hh 1 _ rfl).alln
  have hv2 := (hh 2 _ rfl).alln
  simp only [Nat.add_zero, Nat.zero_add] at hv0 hv1 hv2
  clear hh
  simp only [pickOps]
  repeat (go_big_quiet_step (fail))
  refine wpQuiet_nil ?_
  clear hne hc1 hv0 hv1 hv2
  simp only [chainIx]
  refine wpChain_last rfl ?_
  refine wpl_store_agg (v := val3 v) rfl rfl (size3 v) ((hs2.rot.drop).ent (M := own (some ⟨gA, 0, none⟩) l.length cap 510 4 (cs4 l) :: blk g10 (c3 u).toArray 41 :: blk g6 (c3 V3.z).toArray 41 :: blk D (dnC (some ⟨gA, 0, none⟩) l.length cap M) 462 :: mpI M f l.length :: L) (by (repeat first | exact Ent.refl _ | refine Ent.step (by repeat first | exact Ent.refl _ | apply Ent.skip) ?_))).drew (WrA.own (o := p * 4 + 1) (vs := c3 v) (by rw [cs4_len]; simp [c3]; omega) (one3 v)) ?_
  clear hs2
  intro w hs
  rw [HW.out] at hs
  refine wpList_nil ⟨rfl, ?_⟩
  go_wp2_with (first
    | (refine wpl_load3 (v := u) rfl ?hh agg3 size3n hs ?_; case hh => exact has3_tail has3_slot)
    | (refine wpl_store_agg (v := val3 u) rfl rfl (size3 _) (hs.ent (M := blk g6 (c3 V3.z).toArray 41 :: blk D (dnC (some ⟨gA, 0, none⟩) l.length cap M) 462 :: own (some ⟨gA, 0, none⟩) l.length cap 510 4 (cs4 (l.set p ((i : Nat), v))) :: mpI M f l.length :: blk g10 (c3 u).toArray 41 :: L) (by (repeat first | exact Ent.refl _ | refine Ent.step (by repeat first | exact Ent.refl _ | apply Ent.skip) ?_))) WrA.slot3 ?_; clear hs; intro w hs))
  refine bodyPost_at (results_cell_tmp Tryz.results394 rfl (hs.slot_run agg3 (size3 _))) rfl ?_
  refine ⟨rfl, ?_⟩
  have e : l.length = (l.set p ((i : Nat), v)).length := by simp
  replace hs := hs.drop
  rw [e] at hs
  have := hs.dnshut HOK.out
  exact this.rot.drop
end Go.Proofs.YtcnbmfaicbkhcaaGreatDoor

/-
  The contracts of values side by side (dense): Put of a new index; Put; Take.
-/
set_option maxRecDepth 100000
namespace Go.Proofs.YtcnbmfaicbkhcaaGreatDoor
open Go Go.RowKit
attribute [local irreducible] wpList Calls Code.wp okI okN pS tS memS getG pG insS delS updI

set_option maxHeartbeats 1000000 in
/-- An index that has none. -/
theorem dn_put_new {w0 w : World} {L : List As} {D : Nat} {S : List Nat} {g : Nat → V3} (hs : St w0 (DnB D S g :: L) w) {i : Nat} (hi : i ∉ S) (hi6 : i < 65536) (v : V3) :
    Calls Tryz.prog 394 #[.pointer (some ⟨D, 0, none⟩), .int .i64 i, val3 v] w fun e w' => e = .returned (.tuple #[val3 V3.z, .bool false]) ∧ St w0 (DnB D (insS i S) (pG g i v) :: L) w' := by
  obtain ⟨l, f, A, cap, M, hok, hs⟩ := hs.dnopen
  have HOK := Lib.hid (hok.add hi hi6 v)
  have hcap := hok.cap
  have hwf := wf_nat (i := i) (by omega)
  have hwl := wf_nat (i := l.length) (by omega)
  have hf : f (i : Nat) = none := by
    have := hok.isSome (i : Nat)
    rw [show memS S (i : Nat) = false by cases hm : memS S (i : Nat) with
      | false => rfl
      | true => exact absurd (memS_iff.1 hm) hi] at this
    cases hf : f (i : Nat) with
    | none => rfl
    | some k => rw [hf] at this; cases this
  have HFh := Lib.hid hf
  have d0 : decide ((i : Int) < 0) = false := decide_eq_false (by omega)
  have d1 : decide (65536 ≤ (i : Int)) = false := decide_eq_false (by omega)
  have hmx : l.length < maxLen := by simp only [maxLen]; omega
  clear hf hok hi
  go_enter Tryz.func394, Tryz.ntmps394
  go_upto_region 3 with (first
    | (refine wpl_box_v (v := val3 v) rfl hs ?_; clear hs; intro g5 w hs)
    | (refine wpl_alloc zero3 hs ?_; clear hs; intro g6 w hs))
  replace hs : St w0 (blk D (dnC A l.length cap M) 462 :: own A l.length cap 510 4 (cs4 l) :: mpI M f l.length :: blk g6 (c3 V3.z).toArray 41 :: blk g5 (c3 v).toArray 41 :: L) w := hs.ent (by (repeat first | exact Ent.refl _ | refine Ent.step (by repeat first | exact Ent.refl _ | apply Ent.skip) ?_))
  have hrD0 := fun L => Rd.dn0 (w0 := w0) (D := D) (n := l.length) (cap := cap) (A := A) (M := M) (t := 462) (L := L)
  have hrD1 := fun L => Rd.dn1 (w0 := w0) (D := D) (n := l.length) (cap := cap) (A := A) (M := M) (t := 462) (L := L)
  have hc0 := hrD0 _ w hs
  have hc1 := hrD1 _ w hs
  go_upto_region 8 with (first
    | (refine wpl_lookup_ok mapII rfl rfl hwf (hs.ent (Ent.skip (Ent.skip (Ent.refl _)))) ?_; rw [HFh.out]))
  clear hc0 hc1
  refine wp_region_plain [false, false, false, false, false, false, false, false, false, false, false, false, true] hs.only (by kernel_rfl) (by kernel_rfl) fun hne => ?_
  have hc0 := (hrD0 []).alln
  have hc1 := (hrD1 []).alln
  simp only [pickOps]
  repeat (go_big_quiet_step (fail))
  refine wpQuiet_nil ?_
  clear hne hc0 hc1
  simp only [chainIx]
  refine wpChain_last rfl ?_
  refine wpl_mapUpdate mapII rfl rfl hwf rfl hwl hmx (hs.ent (M := mpI M f l.length :: blk D (dnC A l.length cap M) 462 :: blk g5 (c3 v).toArray 41 :: own A l.length cap 510 4 (cs4 l) :: blk g6 (c3 V3.z).toArray 41 :: L) (by (repeat first | exact Ent.refl _ | refine Ent.step (by repeat first | exact Ent.refl _ | apply Ent.skip) ?_))).drew ?_
  clear hs
  intro w hs
  rw [HFh.out] at hs
  simp only [Option.isSome_none, Bool.false_eq_true, if_false] at hs
  refine wpList_nil ⟨rfl, ?_⟩
  replace hs := (hs.rot.ent (Ent.cons _ (Ent.swap _ _ _)))
  generalize hF : updI f (i : Nat) (some ((l.length : Nat) : Int)) = f' at hs HOK
  clear HFh hF
  simp only [Act.put]
  go_upto_region 9 with (fail)
  refine wp_region_plain [false, false, false, false, false, false, false, false, false, true, true, false, false, false, true] hs.only2 (by kernel_rfl) (by kernel_rfl) fun hne => ?_
  have hc0 := (hrD0 [blk g5 (c3 v).toArray 41]).alln
  have hh := has3_tail (p := blk D (dnC A l.length cap M) 462) (has3_slot (w0 := w0) (L := []) (g := g5) (v := v) (t := 41))
  have hv0 := (hh 0 _ rfl).alln
  have hv1 := (hh 1 _ rfl).alln
  have hv2 := (hh 2 _ rfl).alln
  simp only [Nat.add_zero, Nat.zero_add] at hv0 hv1 hv2
  clear hh
  simp only [pickOps]
  repeat (go_big_quiet_step (fail))
  refine wpQuiet_nil ?_
  clear hne hc0 hv0 hv1 hv2
  simp only [chainIx]
  refine wpChainP_next rfl ?_
  refine wpl_build1 (v := .agg (c4 ((i : Nat), v)).toArray) elemD (by decide) rfl rfl hs.drew ?_
  clear hs
  intro gb w2 hs
  replace hs : St w0 (blk gb (c4 ((i : Nat), v)).toArray 510 :: blk D (dnC A l.length cap M) 462 :: own A l.length cap 510 4 (cs4 l) :: blk g5 (c3 v).toArray 41 :: mpI M f' (l.length + 1) :: blk g6 (c3 V3.z).toArray 41 :: L) w2 := hs.ent (by (repeat first | exact Ent.refl _ | refine Ent.step (by repeat first | exact Ent.refl _ | apply Ent.skip) ?_))
  refine wpList_nil ⟨rfl, (hs.drop.ent (Ent.cons _ (Ent.swap _ _ _))).only2, ?_⟩
  refine wpChainP_next rfl ?_
  refine wpl_append (B := some ⟨gb, 0, none⟩) (m := 1) (news := c4 ((i : Nat), v)) elemD rfl rfl hs (Ent.skip (Ent.skip (Ent.refl _))) RdS.blk rfl (c4_one _) (by simp only [maxLen]; omega) (by omega) ?_
  clear hs
  intro A' cap' w3 hs
  rw [show cs4 l ++ c4 (((i : Nat) : Int), v) = cs4 (l ++ [(((i : Nat) : Int), v)]) by rw [cs4_append]; simp [cs4]] at hs
  have e : l.length + 1 = (l ++ [(((i : Nat) : Int), v)]).length := by simp
  rw [e] at hs
  replace hs := (hs.rot.drop).rot
  refine wpList_nil ⟨rfl, (hs.ent (Ent.cons _ (Ent.swap _ _ _))).only2, ?_⟩
  refine wpChain_last rfl ?_
  refine wpl_store rfl rfl rfl size_rowsD hs Wr.dn0 ?_
  clear hs
  intro w hs
  refine wpList_nil ⟨rfl, ?_⟩
  rw [e] at hs
  replace hs := (hs.ent (M := blk D (dnC A' (l ++ [(((i : Nat) : Int), v)]).length cap' M) 462 :: own A' (l ++ [(((i : Nat) : Int), v)]).length cap' 510 4 (cs4 (l ++ [(((i : Nat) : Int), v)])) :: mpI M f' (l ++ [(((i : Nat) : Int), v)]).length :: blk g6 (c3 V3.z).toArray 41 :: blk g5 (c3 v).toArray 41 :: L) (by (repeat first | exact Ent.refl _ | refine Ent.step (by repeat first | exact Ent.refl _ | apply Ent.skip) ?_))).dnshut HOK.out
  simp only [Act.put, List.setIfInBounds_toArray, List.set_cons_succ, List.set_cons_zero]
  go_wp2_with (first
    | (refine wpl_store_agg (v := val3 V3.z) rfl rfl (size3 _) hs.rot WrA.slot3 ?_; clear hs; intro w hs))
  refine bodyPost_at (results_cell_tmp Tryz.results394 rfl (hs.slot_run agg3 (size3 _))) rfl ?_
  exact ⟨rfl, hs.drop.rot.drop⟩
/-- Put, of any index. -/
theorem dn_put {w0 w : World} {L : List As} {D : Nat} {S : List Nat} {g : Nat → V3} (hs : St w0 (DnB D S g :: L) w) (i : Int) (v : V3) :
    Calls Tryz.prog 394 #[.pointer (some ⟨D, 0, none⟩), .int .i64 i, val3 v] w fun e w' => e = .returned (.tuple #[val3 (getG S g i), .bool (memS S i)]) ∧ St w0 (DnB D (pS S i) (if okI i then pG g i v else g) :: L) w' := by
  obtain ⟨l, f, A, cap, M, hok, _⟩ := hs.dnopen
  have hsm := hok.small
  have hsrt := hok.sorted
  clear hok
  cases hi : okI i with
  | true =>
    have hi2 : 0 ≤ i ∧ i < 65536 := by unfold okI at hi; exact of_decide_eq_true hi
    obtain ⟨j, rfl⟩ := Int.eq_ofNat_of_zero_le hi2.1
    rw [pS_in (by omega), if_pos rfl]
    by_cases hj : j ∈ S
    · rw [getG_in hj, memS_iff.2 hj, ins_id hsrt hj]
      exact dn_put_old hs hj v
    · have hm : memS S (j : Nat) = false := by
        cases hm : memS S (j : Nat) with
        | false => rfl
        | true => exact absurd (memS_iff.1 hm) hj
      rw [getG_out hm, hm]
      exact dn_put_new hs hj (by omega) v
  | false =>
    have hm : memS S i = false := by
      cases hm : memS S i with
      | false => rfl
      | true =>
        obtain ⟨j, rfl, hj⟩ := memS_in hm
        have := hsm j hj
        rw [okI_nat this] at hi
        cases hi
    rw [getG_out hm, hm, show pS S i = S by unfold pS; rw [hi]; rfl, if_neg (by decide)]
    exact dn_put_out hs hi v
end Go.Proofs.YtcnbmfaicbkhcaaGreatDoor

/-
  The contracts of values side by side (dense): Take.
-/
set_option maxRecDepth 100000
namespace Go.Proofs.YtcnbmfaicbkhcaaGreatDoor
open Go Go.RowKit
attribute [local irreducible] wpList Calls Code.wp okI okN pS tS memS getG pG insS delS updI

theorem dn_take_no {w0 w : World} {L : List As} {D : Nat} {S : List Nat} {g : Nat → V3} (hs : St w0 (DnB D S g :: L) w) {i : Int} (hi : (Lit.int .i64 i).wf = true) (hm : memS S i = false) :
    Calls Tryz.prog 395 #[.pointer (some ⟨D, 0, none⟩), .int .i64 i] w fun e w' => e = .returned (.tuple #[val3 V3.z, .bool false]) ∧ St w0 (DnB D S g :: L) w' := by
  obtain ⟨l, f, A, cap, M, hok, hs⟩ := hs.dnopen
  have HF : f i = none := by
    have := hok.isSome i
    rw [hm] at this
    cases hf : f i with
    | none => rfl
    | some k => rw [hf] at this; cases this
  have HFh := Lib.hid HF
  have HOK := Lib.hid hok
  clear hm HF hok
  go_enter Tryz.func395, Tryz.ntmps395
  go_upto_region 1 with (first
    | (refine wpl_alloc zero3 hs ?_; clear hs; intro g4 w hs))
  replace hs : St w0 (blk D (dnC A l.length cap M) 462 :: own A l.length cap 510 4 (cs4 l) :: mpI M f l.length :: blk g4 (c3 V3.z).toArray 41 :: L) w := hs.ent (by (repeat first | exact Ent.refl _ | refine Ent.step (by repeat first | exact Ent.refl _ | apply Ent.skip) ?_))
  have hc1 := Rd.dn1 w hs
  go_wp2_with (first
    | (refine wpl_lookup_ok mapII rfl rfl hi (hs.ent (Ent.skip (Ent.skip (Ent.refl _)))) ?_; rw [HFh.out])
    | (refine wpl_store_agg (v := val3 V3.z) rfl rfl (size3 _) (hs.ent (Ent.skip (Ent.skip (Ent.skip (Ent.refl _))))) WrA.slot3 ?_; clear hs; intro w hs))
  refine bodyPost_at (results_cell_tmp Tryz.results395 rfl (hs.slot_run agg3 (size3 _))) rfl ?_
  exact ⟨rfl, (hs.drop).dnshut HOK.out⟩
set_option maxHeartbeats 1000000 in
theorem dn_take_in {w0 w : World} {L : List As} {D : Nat} {S : List Nat} {g : Nat → V3} (hs : St w0 (DnB D S g :: L) w) {i : Nat} (hi : i ∈ S) :
    Calls Tryz.prog 395 #[.pointer (some ⟨D, 0, none⟩), .int .i64 (i : Nat)] w fun e w' => e = .returned (.tuple #[val3 (g i), .bool true]) ∧ St w0 (DnB D (delS i S) g :: L) w' := by
  obtain ⟨l, f, A, cap, M, hok, hs⟩ := hs.dnopen
  have hi6 := hok.small i hi
  have hcap := hok.cap
  obtain ⟨p, hf, hpl, hrow⟩ := hok.find hi
  obtain ⟨n, hn⟩ : ∃ n, l.length = n + 1 := ⟨l.length - 1, by omega⟩
  obtain ⟨q, hq⟩ : ∃ q, l[n]? = some q := ⟨_, List.getElem?_eq_getElem (by omega)⟩
  have HOK := Lib.hid (hok.take hi hf (by rw [hn]; exact hq))
  obtain ⟨hq1, jq, hq2, hq3, hq4⟩ := hok.row n q hq
  clear hq4
  have hjq := hok.small jq hq3
  have hwf := wf_nat (i := i) (by omega)
  have hwp := wf_nat (i := p) (by omega)
  have hwq : (Lit.int .i64 q.1).wf = true := by rw [hq2]; exact wf_nat (by omega)
  have HFh := Lib.hid hf
  have HQ1 := Lib.hid hq1
  have HQ := Lib.hid hq
  have HN := Lib.hid hn
  -- what the map's size is behind both
  have HS2 : Hid ((updI f q.1 (some ((p : Nat) : Int)) ((i : Nat) : Int)).isSome = true) := by
    rw [Hid]
    by_cases e : ((i : Nat) : Int) = q.1
    · rw [e, updI_same]; rfl
    · rw [updI_other e, hf]; rfl
  generalize hu : g i = u at hrow ⊢
  rw [hn] at hs
  have hmx : n + 1 < maxLen := by simp only [maxLen]; omega
  obtain ⟨gA, rfl⟩ := (hs.ent (Ent.swap _ _ _)).own_at (by omega)
  have hro := hs.ent (Ent.swap _ _ _)
  have hcapn := hro.own_len.2.1
  have hrD0 := fun L => Rd.dn0 (w0 := w0) (D := D) (n := n + 1) (cap := cap) (A := some ⟨gA, 0, none⟩) (M := M) (t := 462) (L := L)
  have hrD1 := fun L => Rd.dn1 (w0 := w0) (D := D) (n := n + 1) (cap := cap) (A := some ⟨gA, 0, none⟩) (M := M) (t := 462) (L := L)
  have hpn : p < n + 1 := by omega
  have hlen : l.length = n + 1 := hn
  clear hf hok hi hq hn hro hu hq1 hq2
  go_enter Tryz.func395, Tryz.ntmps395
  go_upto_region 1 with (first
    | (refine wpl_alloc zero3 hs ?_; clear hs; intro g4 w hs))
  replace hs : St w0 (blk D (dnC (some ⟨gA, 0, none⟩) (n + 1) cap M) 462 :: own (some ⟨gA, 0, none⟩) (n + 1) cap 510 4 (cs4 l) :: mpI M f (n + 1) :: blk g4 (c3 V3.z).toArray 41 :: L) w := hs.ent (by (repeat first | exact Ent.refl _ | refine Ent.step (by repeat first | exact Ent.refl _ | apply Ent.skip) ?_))
  have hc1 := hrD1 _ w hs
  go_upto_region 4 with (first
    | (refine wpl_lookup_ok mapII rfl rfl hwf (hs.ent (Ent.skip (Ent.skip (Ent.refl _)))) ?_; rw [HFh.out]))
  clear hc1
  have hcu := fun k x hx => ((Rd.row4v (w0 := w0) (g := gA) (n := n + 1) (cap := cap) (t := 510) (L := []) hrow k x hx).tail (p := blk D (dnC (some ⟨gA, 0, none⟩) (n + 1) cap M) 462)).alln
  have hcq := fun k x hx => ((Rd.row4 (w0 := w0) (g := gA) (n := n + 1) (cap := cap) (t := 510) (L := []) HQ.out k x hx).tail (p := blk D (dnC (some ⟨gA, 0, none⟩) (n + 1) cap M) 462)).alln
  refine wp_all_plain (n := 4) [false, false, false, false, false, false, false, false, false, false, false, false, false, false, false, false, false, false, false, false, false, false, false, true, true, true, true] hs.only2 (by kernel_rfl) (by kernel_rfl) (by kernel_rfl) fun hne => ?_
  have hc0 := (hrD0 [own (some ⟨gA, 0, none⟩) (n + 1) cap 510 4 (cs4 l)]).alln
  have hu0 := hcu 0 _ rfl
  have hu1 := hcu 1 _ rfl
  have hu2 := hcu 2 _ rfl
  have hq0 := hcq 0 _ rfl
  have hq1 := hcq 1 _ rfl
  have hq2 := hcq 2 _ rfl
  have hq3 := hcq 3 _ rfl
  simp only [Nat.add_zero] at hu0 hq0
  clear hcu hcq
  simp only [pickOps]
  repeat (go_big_quiet_step (fail))
  refine wpQuiet_nil ?_
  clear hne hc0 hu0 hu1 hu2 hq0 hq1 hq2 hq3
  replace hs := hs.drew
  refine wpAllP_next [23, 24] (by kernel_rfl) (fun c hc => ?_)
  simp only [List.mem_cons, List.not_mem_nil, or_false] at hc
  rcases hc with rfl | rfl
  · skip
    refine ⟨_, rfl, ?_⟩
    refine wpl_alloc zero3 hs ?_
    clear hs
    intro g8 w hs
    replace hs : St w0 (blk g8 (c3 V3.z).toArray 41 :: _) w := hs
    first | refine wpList_nil ⟨rfl, hs.drop.only2, ?_⟩ | refine wpList_nil ⟨rfl, hs.drop.drop.only2, ?_⟩
    refine wpAllP_next [24] (by kernel_rfl) (fun c hc => ?_)
    simp only [List.mem_singleton] at hc
    subst hc
    refine ⟨_, rfl, ?_⟩
    refine wpl_alloc zero4D hs ?_
    clear hs
    intro g9 w hs
    replace hs : St w0 (blk g9 (c4 (0, V3.z)).toArray 510 :: _) w := hs
    first | refine wpList_nil ⟨rfl, hs.drop.only2, ?_⟩ | refine wpList_nil ⟨rfl, hs.drop.drop.only2, ?_⟩
    refine wpAllP_next [25] (by kernel_rfl) (fun c hc => ?_)
    simp only [List.mem_singleton] at hc
    subst hc
    refine ⟨_, rfl, ?_⟩
    refine wpl_store_agg (v := val3 u) rfl rfl (size3 _) hs.rot WrA.slot3 ?_
    clear hs
    intro w hs
    first | refine wpList_nil ⟨rfl, hs.drop.only2, ?_⟩ | refine wpList_nil ⟨rfl, hs.drop.drop.only2, ?_⟩
    refine wpAll_last [26] (by kernel_rfl) (fun c hc => ?_)
    simp only [List.mem_singleton] at hc
    subst hc
    refine ⟨_, rfl, ?_⟩
    refine wpl_store_agg (v := .agg (c4 q).toArray) rfl rfl (size4D q) hs.rot WrA.slot4 ?_
    clear hs
    intro w hs
    refine wpList_nil ⟨rfl, ?_⟩
    have hs2 : St w0 (blk g9 (c4 q).toArray 510 :: blk g8 (c3 u).toArray 41 :: blk D (dnC (some ⟨gA, 0, none⟩) (n + 1) cap M) 462 :: own (some ⟨gA, 0, none⟩) (n + 1) cap 510 4 (cs4 l) :: mpI M f (n + 1) :: blk g4 (c3 V3.z).toArray 41 :: L) w := hs
    clear hs
    simp only [Act.put, List.setIfInBounds_toArray, List.set_cons_succ, List.set_cons_zero]
    have hs : St w0 (blk D (dnC (some ⟨gA, 0, none⟩) (n + 1) cap M) 462 :: blk g9 (c4 q).toArray 510 :: own (some ⟨gA, 0, none⟩) (n + 1) cap 510 4 (cs4 l) :: mpI M f (n + 1) :: blk g8 (c3 u).toArray 41 :: blk g4 (c3 V3.z).toArray 41 :: L) w := hs2.ent (by (repeat first | exact Ent.refl _ | refine Ent.step (by repeat first | exact Ent.refl _ | apply Ent.skip) ?_))
    clear hs2
    have hr9 := fun k x (hx : (c4 q)[k]? = some x) => ((Rd.blk (w0 := w0) (g := g9) (k := k) (cs := (c4 q).toArray) (v := x) (t := 510) (L := []) (by simpa using hx)).tail (p := blk D (dnC (some ⟨gA, 0, none⟩) (n + 1) cap M) 462)).alln
    go_upto_region 5 with (fail)
    refine wp_region_plain [false, false, false, false, false, false, false, false, true] hs.only2 (by kernel_rfl) (by kernel_rfl) fun hne => ?_
    have hc0 := (hrD0 [blk g9 (c4 q).toArray 510]).alln
    have q0 := hr9 0 _ rfl
    have q1 := hr9 1 _ rfl
    have q2 := hr9 2 _ rfl
    have q3 := hr9 3 _ rfl
    simp only [pickOps]
    repeat (go_big_quiet_step (fail))
    refine wpQuiet_nil ?_
    clear hne hc0 q0 q1 q2 q3
    simp only [chainIx]
    refine wpChain_last rfl ?_
    refine wpl_store_agg (v := .agg (c4 q).toArray) rfl rfl (size4D q) (hs.ent (M := own (some ⟨gA, 0, none⟩) (n + 1) cap 510 4 (cs4 l) :: blk D (dnC (some ⟨gA, 0, none⟩) (n + 1) cap M) 462 :: blk g9 (c4 q).toArray 510 :: mpI M f (n + 1) :: blk g8 (c3 u).toArray 41 :: blk g4 (c3 V3.z).toArray 41 :: L) (by (repeat first | exact Ent.refl _ | refine Ent.step (by repeat first | exact Ent.refl _ | apply Ent.skip) ?_))).drew (WrA.own (o := p * 4) (vs := c4 q) (by rw [cs4_len, c4_len]; omega) (c4_one q)) ?_
    clear hs
    intro w hs
    rw [cs4_set q (by omega)] at hs
    refine wpList_nil ⟨rfl, ?_⟩
    replace hs : St w0 (blk D (dnC (some ⟨gA, 0, none⟩) (n + 1) cap M) 462 :: blk g9 (c4 q).toArray 510 :: mpI M f (n + 1) :: own (some ⟨gA, 0, none⟩) (n + 1) cap 510 4 (cs4 (l.set p q)) :: blk g8 (c3 u).toArray 41 :: blk g4 (c3 V3.z).toArray 41 :: L) w := hs.ent (by (repeat first | exact Ent.refl _ | refine Ent.step (by repeat first | exact Ent.refl _ | apply Ent.skip) ?_))
    go_upto_region 6 with (fail)
    refine wp_region_plain [false, false, false, false, false, false, false, false, true] hs.only2 (by kernel_rfl) (by kernel_rfl) fun hne => ?_
    have hc1 := (hrD1 [blk g9 (c4 q).toArray 510]).alln
    have q0 := hr9 0 _ rfl
    simp only [pickOps]
    repeat (go_big_quiet_step (fail))
    refine wpQuiet_nil ?_
    clear hne hc1 q0
    simp only [chainIx]
    refine wpChain_last rfl ?_
    refine wpl_mapUpdate mapII rfl rfl hwq rfl hwp hmx (hs.ent (M := mpI M f (n + 1) :: blk D (dnC (some ⟨gA, 0, none⟩) (n + 1) cap M) 462 :: blk g9 (c4 q).toArray 510 :: own (some ⟨gA, 0, none⟩) (n + 1) cap 510 4 (cs4 (l.set p q)) :: blk g8 (c3 u).toArray 41 :: blk g4 (c3 V3.z).toArray 41 :: L) (by (repeat first | exact Ent.refl _ | refine Ent.step (by repeat first | exact Ent.refl _ | apply Ent.skip) ?_))).drew ?_
    clear hs
    intro w hs
    rw [HQ1.out] at hs
    simp only [Option.isSome_some, if_true] at hs
    refine wpList_nil ⟨rfl, ?_⟩
    replace hs := hs.rot
    have hc1 := hrD1 _ w hs
    simp only [Act.put]
    go_upto_region 8 with (first
      | (refine wpl_mapDelete mapII rfl rfl hwf hs.rot ?_; clear hs hc1; intro w hs))
    rw [HS2.out] at hs
    simp only [if_true, Nat.add_sub_cancel] at hs
    replace hs := hs.rot
    simp only [Act.put]
    refine wp_region_plain [false, false, false, false, false, false, false, false, false, false, false, false, false, false, false, false, false, true] hs.only (by kernel_rfl) (by kernel_rfl) fun hne => ?_
    have hc0 := (hrD0 []).alln
    simp only [pickOps]
    repeat (go_big_quiet_step (fail))
    refine wpQuiet_nil ?_
    clear hne hc0
    simp only [chainIx]
    refine wpChain_last rfl ?_
    refine wpl_store rfl rfl rfl size_rowsD hs.drew Wr.dn0 ?_
    clear hs
    intro w hs
    refine wpList_nil ⟨rfl, ?_⟩
    replace hs : St w0 (blk D (dnC (some ⟨gA, 0, none⟩) n cap M) 462 :: own (some ⟨gA, 0, none⟩) (n + 1) cap 510 4 (cs4 (l.set p q)) :: mpI M (updI (updI f q.1 (some ((p : Nat) : Int))) i none) n :: blk g8 (c3 u).toArray 41 :: blk g4 (c3 V3.z).toArray 41 :: blk g9 (c4 q).toArray 510 :: L) w := hs.ent (by (repeat first | exact Ent.refl _ | refine Ent.step (by repeat first | exact Ent.refl _ | apply Ent.skip) ?_))
    go_wp2_with (first
      | (refine wpl_load3 (v := u) rfl ?hh agg3 size3n hs ?_; case hh => exact has3_tail (has3_tail (has3_tail has3_slot)))
      | (refine wpl_store_agg (v := val3 u) rfl rfl (size3 _) (hs.ent (M := blk g4 (c3 V3.z).toArray 41 :: blk D (dnC (some ⟨gA, 0, none⟩) n cap M) 462 :: own (some ⟨gA, 0, none⟩) (n + 1) cap 510 4 (cs4 (l.set p q)) :: mpI M (updI (updI f q.1 (some ((p : Nat) : Int))) i none) n :: blk g8 (c3 u).toArray 41 :: blk g9 (c4 q).toArray 510 :: L) (by (repeat first | exact Ent.refl _ | refine Ent.step (by repeat first | exact Ent.refl _ | apply Ent.skip) ?_))) WrA.slot3 ?_; clear hs; intro w hs))
    refine bodyPost_at (results_cell_tmp Tryz.results395 rfl (hs.slot_run agg3 (size3 _))) rfl ?_
    refine ⟨rfl, ?_⟩
    have hs2 := (hs.drop.rot).conv (own_cut (m := n) (Nat.le_succ n))
    rw [cs4_take] at hs2
    have e : n = ((l.set p q).take n).length := by simp; omega
    have HOK2 := HOK.out
    rw [hlen, Nat.add_sub_cancel] at HOK2
    generalize (l.set p q).take n = l' at hs2 e HOK2 ⊢
    subst e
    exact (((hs2.rot).dnshut HOK2).rot.drop).rot.drop
  · skip
    refine ⟨_, rfl, ?_⟩
    refine wpl_alloc zero4D hs ?_
    clear hs
    intro g9 w hs
    replace hs : St w0 (blk g9 (c4 (0, V3.z)).toArray 510 :: _) w := hs
    first | refine wpList_nil ⟨rfl, hs.drop.only2, ?_⟩ | refine wpList_nil ⟨rfl, hs.drop.drop.only2, ?_⟩
    refine wpAllP_next [23] (by kernel_rfl) (fun c hc => ?_)
    simp only [List.mem_singleton] at hc
    subst hc
    refine ⟨_, rfl, ?_⟩
    refine wpl_alloc zero3 hs ?_
    clear hs
    intro g8 w hs
    replace hs : St w0 (blk g8 (c3 V3.z).toArray 41 :: _) w := hs
    first | refine wpList_nil ⟨rfl, hs.drop.only2, ?_⟩ | refine wpList_nil ⟨rfl, hs.drop.drop.only2, ?_⟩
    replace hs := hs.rot
    refine wpAllP_next [25] (by kernel_rfl) (fun c hc => ?_)
    simp only [List.mem_singleton] at hc
    subst hc
    refine ⟨_, rfl, ?_⟩
    refine wpl_store_agg (v := val3 u) rfl rfl (size3 _) hs.rot WrA.slot3 ?_
    clear hs
    intro w hs
    first | refine wpList_nil ⟨rfl, hs.drop.only2, ?_⟩ | refine wpList_nil ⟨rfl, hs.drop.drop.only2, ?_⟩
    refine wpAll_last [26] (by kernel_rfl) (fun c hc => ?_)
    simp only [List.mem_singleton] at hc
    subst hc
    refine ⟨_, rfl, ?_⟩
    refine wpl_store_agg (v := .agg (c4 q).toArray) rfl rfl (size4D q) hs.rot WrA.slot4 ?_
    clear hs
    intro w hs
    refine wpList_nil ⟨rfl, ?_⟩
    have hs2 : St w0 (blk g9 (c4 q).toArray 510 :: blk g8 (c3 u).toArray 41 :: blk D (dnC (some ⟨gA, 0, none⟩) (n + 1) cap M) 462 :: own (some ⟨gA, 0, none⟩) (n + 1) cap 510 4 (cs4 l) :: mpI M f (n + 1) :: blk g4 (c3 V3.z).toArray 41 :: L) w := hs
    clear hs
    simp only [Act.put, List.setIfInBounds_toArray, List.set_cons_succ, List.set_cons_zero]
    have hs : St w0 (blk D (dnC (some ⟨gA, 0, none⟩) (n + 1) cap M) 462 :: blk g9 (c4 q).toArray 510 :: own (some ⟨gA, 0, none⟩) (n + 1) cap 510 4 (cs4 l) :: mpI M f (n + 1) :: blk g8 (c3 u).toArray 41 :: blk g4 (c3 V3.z).toArray 41 :: L) w := hs2.ent (by (repeat first | exact Ent.refl _ | refine Ent.step (by repeat first | exact Ent.refl _ | apply Ent.skip) ?_))
    clear hs2
    have hr9 := fun k x (hx : (c4 q)[k]? = some x) => ((Rd.blk (w0 := w0) (g := g9) (k := k) (cs := (c4 q).toArray) (v := x) (t := 510) (L := []) (by simpa using hx)).tail (p := blk D (dnC (some ⟨gA, 0, none⟩) (n + 1) cap M) 462)).alln
    go_upto_region 5 with (fail)
    refine wp_region_plain [false, false, false, false, false, false, false, false, true] hs.only2 (by kernel_rfl) (by kernel_rfl) fun hne => ?_
    have hc0 := (hrD0 [blk g9 (c4 q).toArray 510]).alln
    have q0 := hr9 0 _ rfl
    have q1 := hr9 1 _ rfl
    have q2 := hr9 2 _ rfl
    have q3 := hr9 3 _ rfl
    simp only [pickOps]
    repeat (go_big_quiet_step (fail))
    refine wpQuiet_nil ?_
    clear hne hc0 q0 q1 q2 q3
    simp only [chainIx]
    refine wpChain_last rfl ?_
    refine wpl_store_agg (v := .agg (c4 q).toArray) rfl rfl (size4D q) (hs.ent (M := own (some ⟨gA, 0, none⟩) (n + 1) cap 510 4 (cs4 l) :: blk D (dnC (some ⟨gA, 0, none⟩) (n + 1) cap M) 462 :: blk g9 (c4 q).toArray 510 :: mpI M f (n + 1) :: blk g8 (c3 u).toArray 41 :: blk g4 (c3 V3.z).toArray 41 :: L) (by (repeat first | exact Ent.refl _ | refine Ent.step (by repeat first | exact Ent.refl _ | apply Ent.skip) ?_))).drew (WrA.own (o := p * 4) (vs := c4 q) (by rw [cs4_len, c4_len]; omega) (c4_one q)) ?_
    clear hs
    intro w hs
    rw [cs4_set q (by omega)] at hs
    refine wpList_nil ⟨rfl, ?_⟩
    replace hs : St w0 (blk D (dnC (some ⟨gA, 0, none⟩) (n + 1) cap M) 462 :: blk g9 (c4 q).toArray 510 :: mpI M f (n + 1) :: own (some ⟨gA, 0, none⟩) (n + 1) cap 510 4 (cs4 (l.set p q)) :: blk g8 (c3 u).toArray 41 :: blk g4 (c3 V3.z).toArray 41 :: L) w := hs.ent (by (repeat first | exact Ent.refl _ | refine Ent.step (by repeat first | exact Ent.refl _ | apply Ent.skip) ?_))
    go_upto_region 6 with (fail)
    refine wp_region_plain [false, false, false, false, false, false, false, false, true] hs.only2 (by kernel_rfl) (by kernel_rfl) fun hne => ?_
    have hc1 := (hrD1 [blk g9 (c4 q).toArray 510]).alln
    have q0 := hr9 0 _ rfl
    simp only [pickOps]
    repeat (go_big_quiet_step (fail))
    refine wpQuiet_nil ?_
    clear hne hc1 q0
    simp only [chainIx]
    refine wpChain_last rfl ?_
    refine wpl_mapUpdate mapII rfl rfl hwq rfl hwp hmx (hs.ent (M := mpI M f (n + 1) :: blk D (dnC (some ⟨gA, 0, none⟩) (n + 1) cap M) 462 :: blk g9 (c4 q).toArray 510 :: own (some ⟨gA, 0, none⟩) (n + 1) cap 510 4 (cs4 (l.set p q)) :: blk g8 (c3 u).toArray 41 :: blk g4 (c3 V3.z).toArray 41 :: L) (by (repeat first | exact Ent.refl _ | refine Ent.step (by repeat first | exact Ent.refl _ | apply Ent.skip) ?_))).drew ?_
    clear hs
    intro w hs
    rw [HQ1.out] at hs
    simp only [Option.isSome_some, if_true] at hs
    refine wpList_nil ⟨rfl, ?_⟩
    replace hs := hs.rot
    have hc1 := hrD1 _ w hs
    simp only [Act.put]
    go_upto_region 8 with (first
      | (refine wpl_mapDelete mapII rfl rfl hwf hs.rot ?_; clear hs hc1; intro w hs))
    rw [HS2.out] at hs
    simp only [if_true, Nat.add_sub_cancel] at hs
    replace hs := hs.rot
    simp only [Act.put]
    refine wp_region_plain [false, false, false, false, false, false, false, false, false, false, false, false, false, false, false, false, false, true] hs.only (by kernel_rfl) (by kernel_rfl) fun hne => ?_
    have hc0 := (hrD0 []).alln
    simp only [pickOps]
    repeat (go_big_quiet_step (fail))
    refine wpQuiet_nil ?_
    clear hne hc0
    simp only [chainIx]
    refine wpChain_last rfl ?_
    refine wpl_store rfl rfl rfl size_rowsD hs.drew Wr.dn0 ?_
    clear hs
    intro w hs
    refine wpList_nil ⟨rfl, ?_⟩
    replace hs : St w0 (blk D (dnC (some ⟨gA, 0, none⟩) n cap M) 462 :: own (some ⟨gA, 0, none⟩) (n + 1) cap 510 4 (cs4 (l.set p q)) :: mpI M (updI (updI f q.1 (some ((p : Nat) : Int))) i none) n :: blk g8 (c3 u).toArray 41 :: blk g4 (c3 V3.z).toArray 41 :: blk g9 (c4 q).toArray 510 :: L) w := hs.ent (by (repeat first | exact Ent.refl _ | refine Ent.step (by repeat first | exact Ent.refl _ | apply Ent.skip) ?_))
    go_wp2_with (first
      | (refine wpl_load3 (v := u) rfl ?hh agg3 size3n hs ?_; case hh => exact has3_tail (has3_tail (has3_tail has3_slot)))
      | (refine wpl_store_agg (v := val3 u) rfl rfl (size3 _) (hs.ent (M := blk g4 (c3 V3.z).toArray 41 :: blk D (dnC (some ⟨gA, 0, none⟩) n cap M) 462 :: own (some ⟨gA, 0, none⟩) (n + 1) cap 510 4 (cs4 (l.set p q)) :: mpI M (updI (updI f q.1 (some ((p : Nat) : Int))) i none) n :: blk g8 (c3 u).toArray 41 :: blk g9 (c4 q).toArray 510 :: L) (by (repeat first | exact Ent.refl _ | refine Ent.step (by repeat first | exact Ent.refl _ | apply Ent.skip) ?_))) WrA.slot3 ?_; clear hs; intro w hs))
    refine bodyPost_at (results_cell_tmp Tryz.results395 rfl (hs.slot_run agg3 (size3 _))) rfl ?_
    refine ⟨rfl, ?_⟩
    have hs2 := (hs.drop.rot).conv (own_cut (m := n) (Nat.le_succ n))
    rw [cs4_take] at hs2
    have e : n = ((l.set p q).take n).length := by simp; omega
    have HOK2 := HOK.out
    rw [hlen, Nat.add_sub_cancel] at HOK2
    generalize (l.set p q).take n = l' at hs2 e HOK2 ⊢
    subst e
    exact (((hs2.rot).dnshut HOK2).rot.drop).rot.drop
/-- Take, of any index. -/
theorem dn_take {w0 w : World} {L : List As} {D : Nat} {S : List Nat} {g : Nat → V3} (hs : St w0 (DnB D S g :: L) w) (i : Int) (hi : (Lit.int .i64 i).wf = true) :
    Calls Tryz.prog 395 #[.pointer (some ⟨D, 0, none⟩), .int .i64 i] w fun e w' => e = .returned (.tuple #[val3 (getG S g i), .bool (memS S i)]) ∧ St w0 (DnB D (tS S i) g :: L) w' := by
  cases hm : memS S i with
  | false =>
    rw [getG_out hm, show tS S i = S by unfold tS; rw [hm]; rfl]
    exact dn_take_no hs hi hm
  | true =>
    obtain ⟨j, rfl, hj⟩ := memS_in hm
    rw [getG_in hj, show tS S (j : Nat) = delS j S by unfold tS; rw [hm]; rfl]
    exact dn_take_in hs hj
end Go.Proofs.YtcnbmfaicbkhcaaGreatDoor
