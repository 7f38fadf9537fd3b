/-
  One kind of place behind another (slot.Slot): its state, its memory; Zero, Check, check, note, kept, New.
-/
import Derived.Test.YtmdjpeblbnbjmaaPl
import Derived.Test.YtmdjpeblbnbjmaaFl3
set_option maxRecDepth 100000
namespace Go.Proofs.Ytmdjpeblbnbjmaa
open Go Go.RowKit
attribute [local irreducible] wpList Calls Code.wp okI okN pS tS memS getG pG insS delS getV pV tV okVal

/-- What a Slot is: its Desc (kind, variant, bound), its indexes and values, its flag's place, what befell, its readers. -/
structure SlS where
  d : V3
  S : List Nat
  g : Nat → V3
  F : Option Nat
  evs : List Ev
  rds : List Nat
  pv : Value
def fpV (F : Option Nat) : Value := .pointer (F.map fun f => ⟨f, 0, none⟩)
def FlP (F : Option Nat) (bd : Int) (evs : List Ev) (rds : List Nat) : As := match F with
  | none => fun h => (evs = [] ∧ rds = []) ∧ emp h
  | some f => FlB f bd.toNat evs rds
def slC (v : Value) (d : V3) (M : Nat) (F : Option Nat) : Array Value := #[v, .int .i64 d.k, .int .i64 d.a, .int .i64 d.b, .pointer (some ⟨M, 0, none⟩), fpV F]
/-- Whether an index and a value may be: the error. -/
def SlS.err (s : SlS) (i : Int) (v : V3) : Int := if okI i = true then (if (okVal v && v.k == s.d.k) = true then 0 else 9) else 1
def ntE (F : Option Nat) (evs : List Ev) (k i : Int) : List Ev := if F.isSome then evs ++ [(k, i)] else evs
def kdE (b : Bool) : Int := if b then 2 else 1
def SlS.noted (s : SlS) (k i : Int) : List Ev := ntE s.F s.evs k i
/-- A value is put, taken, changed. -/
def SlS.put (s : SlS) (i : Int) (v : V3) : SlS := if s.err i v = 0 then { s with S := insS i.toNat s.S, g := pG s.g i v, evs := s.noted (kdE (memS s.S i)) i } else s
def SlS.has (s : SlS) (i : Int) : Bool := memS s.S i
def SlS.get (s : SlS) (i : Int) : V3 := getG s.S s.g i
def SlS.take (s : SlS) (i : Int) : SlS := if memS s.S i then { s with S := tS s.S i, evs := s.noted 3 i } else s
def SlS.errSet (s : SlS) (i : Int) (v : V3) : Int := if s.err i v = 0 then (if memS s.S i then 0 else 10) else s.err i v
def SlS.set (s : SlS) (i : Int) (v : V3) : SlS := if s.errSet i v = 0 then { s with g := pG s.g i v, evs := s.noted 2 i } else s
/-- The error of a Desc. -/
def descE (d : V3) : Int := if 1 ≤ d.k ∧ d.k ≤ 3 ∧ 1 ≤ d.a ∧ d.a ≤ 4 ∧ 0 ≤ d.b ∧ d.b ≤ 1000 then (if d.a = 4 ∧ d.k ≠ 3 then 9 else 0) else 1
structure SlS.Ok (s : SlS) : Prop where
  desc : descE s.d = 0
  flag : s.F.isSome = decide (0 < s.d.b)
def SlB (X : Nat) (s : SlS) : As := fun h => s.Ok ∧ ∃ M, star (blk X (slC s.pv s.d M s.F) 67) (star (PlB s.d.k s.pv s.S s.g) (star (HSet M s.S) (FlP s.F s.d.b s.evs s.rds))) h
theorem St.slopen {w0 w : World} {X : Nat} {s : SlS} {L : List As} (hs : St w0 (SlB X s :: L) w) : s.Ok ∧ ∃ M, St w0 (Ytmdjpeblbnbjmaa.blk X (slC s.pv s.d M s.F) 67 :: PlB s.d.k s.pv s.S s.g :: HSet M s.S :: FlP s.F s.d.b s.evs s.rds :: L) w := by
  obtain ⟨hb, h, r, hd, hu, a, b, hab, rfl, ⟨hok, M, ht⟩, hl⟩ := hs
  have h1 : St w0 (star (Ytmdjpeblbnbjmaa.blk X (slC s.pv s.d M s.F) 67) (star (PlB s.d.k s.pv s.S s.g) (star (HSet M s.S) (FlP s.F s.d.b s.evs s.rds))) :: L) w := ⟨hb, _, r, hd, hu, a, b, hab, rfl, ht, hl⟩
  exact ⟨hok, M, ((h1.ent (Ent.open2 fun _ h => h)).ent (Ent.cons _ (Ent.open2 fun _ h => h))).ent (Ent.cons _ (Ent.cons _ (Ent.open2 fun _ h => h)))⟩
theorem St.slshut {w0 w : World} {X M : Nat} {s : SlS} {L : List As} (hok : s.Ok) (hs : St w0 (Ytmdjpeblbnbjmaa.blk X (slC s.pv s.d M s.F) 67 :: PlB s.d.k s.pv s.S s.g :: HSet M s.S :: FlP s.F s.d.b s.evs s.rds :: L) w) : St w0 (SlB X s :: L) w :=
  (((hs.ent (Ent.cons _ (Ent.cons _ (Ent.shut2 fun _ h => h)))).ent (Ent.cons _ (Ent.shut2 fun _ h => h))).ent (Ent.shut2 fun _ h => h)).conv fun _ h => ⟨hok, M, h⟩
section
variable {w0 : World} {X M : Nat} {v : Value} {d : V3} {F : Option Nat} {L : List As} {t : TypeId}
theorem Rd.sl0 : Rd w0 (Ytmdjpeblbnbjmaa.blk X (slC v d M F) t :: L) ⟨X, 0, none⟩ v := Rd.blk rfl
theorem Rd.sl1 : Rd w0 (Ytmdjpeblbnbjmaa.blk X (slC v d M F) t :: L) ⟨X, 1, none⟩ (.int .i64 d.k) := Rd.blk rfl
theorem Rd.sl2 : Rd w0 (Ytmdjpeblbnbjmaa.blk X (slC v d M F) t :: L) ⟨X, 2, none⟩ (.int .i64 d.a) := Rd.blk rfl
theorem Rd.sl3 : Rd w0 (Ytmdjpeblbnbjmaa.blk X (slC v d M F) t :: L) ⟨X, 3, none⟩ (.int .i64 d.b) := Rd.blk rfl
theorem Rd.sl4 : Rd w0 (Ytmdjpeblbnbjmaa.blk X (slC v d M F) t :: L) ⟨X, 4, none⟩ (.pointer (some ⟨M, 0, none⟩)) := Rd.blk rfl
theorem Rd.sl5 : Rd w0 (Ytmdjpeblbnbjmaa.blk X (slC v d M F) t :: L) ⟨X, 5, none⟩ (fpV F) := Rd.blk rfl
theorem Rd.slD : ∀ j u, (c3 d)[j]? = some u → Rd w0 (Ytmdjpeblbnbjmaa.blk X (slC v d M F) t :: L) ⟨X, 1 + j, none⟩ u := fun j u hu => Rd.blk (by
  have : j < 3 := (List.getElem?_eq_some_iff.1 hu).1
  have h3 : j = 0 ∨ j = 1 ∨ j = 2 := by omega
  rcases h3 with rfl | rfl | rfl <;> exact hu)
end
/-- What befell an index is noted. -/
theorem sl_note {w0 w : World} {L : List As} {X M : Nat} {v : Value} {d : V3} {F : Option Nat} {evs : List Ev} {rds : List Nat} {bd : Int} (hs : St w0 (blk X (slC v d M F) 67 :: FlP F bd evs rds :: L) w) {k i : Int} (h1 : 1 ≤ k) (h2 : k ≤ 3) (h3 : 0 ≤ i) (hl : evs.length < 4611686018427387904) :
    Calls Try.prog 41 #[.pointer (some ⟨X, 0, none⟩), .int .i64 k, .int .i64 i] w fun e w' => e = .returned (.tuple #[]) ∧ St w0 (blk X (slC v d M F) 67 :: FlP F bd (ntE F evs k i) rds :: L) w' := by
  cases F with
  | none =>
    have hc : w.cell? ⟨X, 5, none⟩ = some (.pointer none) := Rd.sl5 (F := none) _ hs
    have hs2 := Lib.hid hs
    clear h1 h2 h3 hl
    go_enter Try.func41, Try.ntmps41
    go_wp2
    go_end0
    exact ⟨rfl, hs2.out⟩
  | some f =>
    have hc : w.cell? ⟨X, 5, none⟩ = some (.pointer (some ⟨f, 0, none⟩)) := Rd.sl5 (F := some f) _ hs
    have HN := Lib.hid (fun (w : World) (G : Nat) (cs : Array Value) (t : TypeId) (hs : St w0 (FlB f bd.toNat evs rds :: blk G cs t :: blk X (slC v d M (some f)) 67 :: L) w) (hG : cs.toList = e2 (k, i)) => fl_note (cG := 1) hs (e := (k, i)) h1 h2 h3 hl (hG ▸ RdS.blk))
    clear h1 h2 h3 hl
    have hs : St w0 (blk X (slC v d M (some f)) 67 :: FlB f bd.toNat evs rds :: L) w := hs
    go_enter Try.func41, Try.ntmps41
    go_wp2_with (first
      | (refine wpl_build1 (v := valE (k, i)) elemE (by decide) rfl rfl hs ?_; clear hs hc; intro G w hs)
      | (go_at_call 55; refine (HN.out _ _ _ _ hs.up2 rfl).mono ?_; clear hs; rintro e w ⟨rfl, hs⟩))
    go_end0
    exact ⟨rfl, hs.dn2.drop⟩
/-! ### Zero, Check -/
theorem build3k (k : Int) (w : World) : (Instr.build 40 #[(0, .int .i64 k)]).run Try.prog w = .ok (val3 ⟨k, 0, 0⟩) w := by kernel_rfl
theorem vzero_c {w : World} (k : Int) {b : Bool} {u : V3} (hb : Hid (decide (1 ≤ k ∧ k ≤ 3) = b)) (hu : Hid ((if 1 ≤ k ∧ k ≤ 3 then ⟨k, 0, 0⟩ else V3.z) = u)) :
    Calls Try.prog 38 #[.int .i64 k] w fun e w' => e = .returned (.tuple #[val3 u, .bool b]) ∧ Grew w w' := by
  have hk : okVal ⟨k, 0, 0⟩ = decide (1 ≤ k ∧ k ≤ 3) := by
    unfold okVal
    simp only [beq_self_eq_true, Bool.and_self]
    by_cases h1 : k = 1
    · subst h1; rfl
    · rw [if_neg h1]
      by_cases h2 : k = 2
      · subst h2; rfl
      · rw [if_neg h2]
        by_cases h3 : k = 3
        · subst h3; rfl
        · rw [if_neg h3]; symm; exact decide_eq_false (by omega)
  have HK : Hid (okVal ⟨k, 0, 0⟩ = b) := by rw [Hid, hk, hb.out]
  clear hk
  have hw := St.start w
  by_cases h : 1 ≤ k ∧ k ≤ 3
  · obtain rfl : b = true := by rw [← hb.out]; exact decide_eq_true h
    rw [if_pos h] at hu
    clear h hb
    go_enter Try.func38, Try.ntmps38
    go_upto_region 2 with (first
      | (refine wpl_alloc zero3 hw ?_; clear hw; intro g1 w1 hw)
      | (refine wpl_buildS (build3k k) rfl ?_)
      | (refine wpl_store_agg (v := val3 ⟨k, 0, 0⟩) rfl rfl (size3 _) hw WrA.slot3 ?_; clear hw; intro w2 hw))
    go_wp2_with (first
      | (refine wpl_load3 (v := ⟨k, 0, 0⟩) rfl ?hh agg3 size3n hw ?_; case hh => first | exact has3_slot | exact has3_tail has3_slot)
      | (go_at_call 50; refine (vok_c _).mono ?_; rintro e w3 ⟨rfl, hg⟩; rw [HK.out]; replace hw := hw.grew hg; clear hg)
      | (refine wpl_store_agg (v := val3 ⟨k, 0, 0⟩) rfl rfl (size3 _) hw.rot WrA.slot3 ?_; clear hw; intro w2 hw))
    refine bodyPost_at (results_cell_tmp Try.results38 rfl (hw.slot_run agg3 (size3 _))) rfl ?_
    exact ⟨by rw [← hu.out]; rfl, hw.made_grew⟩
  · obtain rfl : b = false := by rw [← hb.out]; exact decide_eq_false h
    rw [if_neg h] at hu
    clear h hb
    go_enter Try.func38, Try.ntmps38
    go_upto_region 2 with (first
      | (refine wpl_alloc zero3 hw ?_; clear hw; intro g1 w1 hw)
      | (refine wpl_buildS (build3k k) rfl ?_)
      | (refine wpl_store_agg (v := val3 ⟨k, 0, 0⟩) rfl rfl (size3 _) hw WrA.slot3 ?_; clear hw; intro w2 hw))
    go_wp2_with (first
      | (refine wpl_load3 (v := ⟨k, 0, 0⟩) rfl ?hh agg3 size3n hw ?_; case hh => first | exact has3_slot | exact has3_tail has3_slot)
      | (go_at_call 50; refine (vok_c _).mono ?_; rintro e w3 ⟨rfl, hg⟩; rw [HK.out]; replace hw := hw.grew hg; clear hg)
      | (refine wpl_store_agg (v := val3 V3.z) rfl rfl (size3 _) hw.rot WrA.slot3 ?_; clear hw; intro w2 hw))
    refine bodyPost_at (results_cell_tmp Try.results38 rfl (hw.slot_run agg3 (size3 _))) rfl ?_
    exact ⟨by rw [← hu.out]; rfl, hw.made_grew⟩
set_option maxHeartbeats 2000000 in
theorem scheck_c {w : World} (d : V3) {e : Int} (he : Hid (descE d = e)) :
    Calls Try.prog 16 #[val3 d] w fun r w' => r = .returned (.int .i64 e) ∧ Grew w w' := by
  by_cases hk : 1 ≤ d.k ∧ d.k ≤ 3
  · by_cases h1 : d.a < 1
    · have d1 : decide (d.a < 1) = true := decide_eq_true h1
      have HZ := Lib.hid (fun w => vzero_c (w := w) d.k (b := true) (u := ⟨d.k, 0, 0⟩) (by first | exact decide_eq_true (by omega) | exact decide_eq_false (by omega)) (by first | exact if_pos (by omega) | exact if_neg (by omega)))
      obtain rfl : e = 1 := by
        rw [← he.out]; unfold descE
        first | (rw [if_neg (by omega)]; done) | (rw [if_neg (by omega)]) | (rw [if_pos (by omega), if_pos (by omega)]) | (rw [if_pos (by omega), if_neg (by omega)])
      clear he
      skip
      have hw := St.start w
      go_enter Try.func16, Try.ntmps16
      go_upto_region 1 with (first
        | (refine wpl_box_v (v := val3 d) rfl hw ?_; clear hw; intro g1 w1 hw))
      have c0 := Rd.blk (w0 := w) (g := g1) (k := 0) (cs := #[.int .i64 d.k, .int .i64 d.a, .int .i64 d.b]) (t := 28) (v := .int .i64 d.k) (L := []) rfl _ hw
      go_upto_region 2 with (first
        | (go_at_call 38; refine (HZ.out _).mono ?_; rintro e w3 ⟨rfl, hg⟩; replace hw := hw.grew hg; clear hg c0)
        | (refine wpl_alloc zero3 hw ?_; clear hw; intro g2 w2 hw)
        | (refine wpl_store_agg (v := val3 (⟨d.k, 0, 0⟩)) rfl rfl (size3 _) hw WrA.slot3 ?_; clear hw; intro w2 hw))
      have c0 := Rd.blk (w0 := w) (g := g1) (k := 0) (cs := #[.int .i64 d.k, .int .i64 d.a, .int .i64 d.b]) (t := 28) (v := .int .i64 d.k) (L := []) rfl _ hw.drop
      have c1 := Rd.blk (w0 := w) (g := g1) (k := 1) (cs := #[.int .i64 d.k, .int .i64 d.a, .int .i64 d.b]) (t := 28) (v := .int .i64 d.a) (L := []) rfl _ hw.drop
      have c2 := Rd.blk (w0 := w) (g := g1) (k := 2) (cs := #[.int .i64 d.k, .int .i64 d.a, .int .i64 d.b]) (t := 28) (v := .int .i64 d.b) (L := []) rfl _ hw.drop
      go_wp2
      go_ret
      exact ⟨rfl, hw.made_grew⟩
    · by_cases h2 : 4 < d.a
      · skip
        have HZ := Lib.hid (fun w => vzero_c (w := w) d.k (b := true) (u := ⟨d.k, 0, 0⟩) (by first | exact decide_eq_true (by omega) | exact decide_eq_false (by omega)) (by first | exact if_pos (by omega) | exact if_neg (by omega)))
        obtain rfl : e = 1 := by
          rw [← he.out]; unfold descE
          first | (rw [if_neg (by omega)]; done) | (rw [if_neg (by omega)]) | (rw [if_pos (by omega), if_pos (by omega)]) | (rw [if_pos (by omega), if_neg (by omega)])
        clear he
        skip
        have hw := St.start w
        go_enter Try.func16, Try.ntmps16
        go_upto_region 1 with (first
          | (refine wpl_box_v (v := val3 d) rfl hw ?_; clear hw; intro g1 w1 hw))
        have c0 := Rd.blk (w0 := w) (g := g1) (k := 0) (cs := #[.int .i64 d.k, .int .i64 d.a, .int .i64 d.b]) (t := 28) (v := .int .i64 d.k) (L := []) rfl _ hw
        go_upto_region 2 with (first
          | (go_at_call 38; refine (HZ.out _).mono ?_; rintro e w3 ⟨rfl, hg⟩; replace hw := hw.grew hg; clear hg c0)
          | (refine wpl_alloc zero3 hw ?_; clear hw; intro g2 w2 hw)
          | (refine wpl_store_agg (v := val3 (⟨d.k, 0, 0⟩)) rfl rfl (size3 _) hw WrA.slot3 ?_; clear hw; intro w2 hw))
        have c0 := Rd.blk (w0 := w) (g := g1) (k := 0) (cs := #[.int .i64 d.k, .int .i64 d.a, .int .i64 d.b]) (t := 28) (v := .int .i64 d.k) (L := []) rfl _ hw.drop
        have c1 := Rd.blk (w0 := w) (g := g1) (k := 1) (cs := #[.int .i64 d.k, .int .i64 d.a, .int .i64 d.b]) (t := 28) (v := .int .i64 d.a) (L := []) rfl _ hw.drop
        have c2 := Rd.blk (w0 := w) (g := g1) (k := 2) (cs := #[.int .i64 d.k, .int .i64 d.a, .int .i64 d.b]) (t := 28) (v := .int .i64 d.b) (L := []) rfl _ hw.drop
        go_wp2
        go_ret
        exact ⟨rfl, hw.made_grew⟩
      · by_cases h3 : d.b < 0
        · skip
          have HZ := Lib.hid (fun w => vzero_c (w := w) d.k (b := true) (u := ⟨d.k, 0, 0⟩) (by first | exact decide_eq_true (by omega) | exact decide_eq_false (by omega)) (by first | exact if_pos (by omega) | exact if_neg (by omega)))
          obtain rfl : e = 1 := by
            rw [← he.out]; unfold descE
            first | (rw [if_neg (by omega)]; done) | (rw [if_neg (by omega)]) | (rw [if_pos (by omega), if_pos (by omega)]) | (rw [if_pos (by omega), if_neg (by omega)])
          clear he
          skip
          have hw := St.start w
          go_enter Try.func16, Try.ntmps16
          go_upto_region 1 with (first
            | (refine wpl_box_v (v := val3 d) rfl hw ?_; clear hw; intro g1 w1 hw))
          have c0 := Rd.blk (w0 := w) (g := g1) (k := 0) (cs := #[.int .i64 d.k, .int .i64 d.a, .int .i64 d.b]) (t := 28) (v := .int .i64 d.k) (L := []) rfl _ hw
          go_upto_region 2 with (first
            | (go_at_call 38; refine (HZ.out _).mono ?_; rintro e w3 ⟨rfl, hg⟩; replace hw := hw.grew hg; clear hg c0)
            | (refine wpl_alloc zero3 hw ?_; clear hw; intro g2 w2 hw)
            | (refine wpl_store_agg (v := val3 (⟨d.k, 0, 0⟩)) rfl rfl (size3 _) hw WrA.slot3 ?_; clear hw; intro w2 hw))
          have c0 := Rd.blk (w0 := w) (g := g1) (k := 0) (cs := #[.int .i64 d.k, .int .i64 d.a, .int .i64 d.b]) (t := 28) (v := .int .i64 d.k) (L := []) rfl _ hw.drop
          have c1 := Rd.blk (w0 := w) (g := g1) (k := 1) (cs := #[.int .i64 d.k, .int .i64 d.a, .int .i64 d.b]) (t := 28) (v := .int .i64 d.a) (L := []) rfl _ hw.drop
          have c2 := Rd.blk (w0 := w) (g := g1) (k := 2) (cs := #[.int .i64 d.k, .int .i64 d.a, .int .i64 d.b]) (t := 28) (v := .int .i64 d.b) (L := []) rfl _ hw.drop
          go_wp2
          go_ret
          exact ⟨rfl, hw.made_grew⟩
        · by_cases h4 : 1000 < d.b
          · skip
            have HZ := Lib.hid (fun w => vzero_c (w := w) d.k (b := true) (u := ⟨d.k, 0, 0⟩) (by first | exact decide_eq_true (by omega) | exact decide_eq_false (by omega)) (by first | exact if_pos (by omega) | exact if_neg (by omega)))
            obtain rfl : e = 1 := by
              rw [← he.out]; unfold descE
              first | (rw [if_neg (by omega)]; done) | (rw [if_neg (by omega)]) | (rw [if_pos (by omega), if_pos (by omega)]) | (rw [if_pos (by omega), if_neg (by omega)])
            clear he
            skip
            have hw := St.start w
            go_enter Try.func16, Try.ntmps16
            go_upto_region 1 with (first
              | (refine wpl_box_v (v := val3 d) rfl hw ?_; clear hw; intro g1 w1 hw))
            have c0 := Rd.blk (w0 := w) (g := g1) (k := 0) (cs := #[.int .i64 d.k, .int .i64 d.a, .int .i64 d.b]) (t := 28) (v := .int .i64 d.k) (L := []) rfl _ hw
            go_upto_region 2 with (first
              | (go_at_call 38; refine (HZ.out _).mono ?_; rintro e w3 ⟨rfl, hg⟩; replace hw := hw.grew hg; clear hg c0)
              | (refine wpl_alloc zero3 hw ?_; clear hw; intro g2 w2 hw)
              | (refine wpl_store_agg (v := val3 (⟨d.k, 0, 0⟩)) rfl rfl (size3 _) hw WrA.slot3 ?_; clear hw; intro w2 hw))
            have c0 := Rd.blk (w0 := w) (g := g1) (k := 0) (cs := #[.int .i64 d.k, .int .i64 d.a, .int .i64 d.b]) (t := 28) (v := .int .i64 d.k) (L := []) rfl _ hw.drop
            have c1 := Rd.blk (w0 := w) (g := g1) (k := 1) (cs := #[.int .i64 d.k, .int .i64 d.a, .int .i64 d.b]) (t := 28) (v := .int .i64 d.a) (L := []) rfl _ hw.drop
            have c2 := Rd.blk (w0 := w) (g := g1) (k := 2) (cs := #[.int .i64 d.k, .int .i64 d.a, .int .i64 d.b]) (t := 28) (v := .int .i64 d.b) (L := []) rfl _ hw.drop
            go_wp2
            go_ret
            exact ⟨rfl, hw.made_grew⟩
          · by_cases h5 : d.a = 4
            · by_cases h6 : d.k = 3
              · skip
                have HZ := Lib.hid (fun w => vzero_c (w := w) d.k (b := true) (u := ⟨d.k, 0, 0⟩) (by first | exact decide_eq_true (by omega) | exact decide_eq_false (by omega)) (by first | exact if_pos (by omega) | exact if_neg (by omega)))
                obtain rfl : e = 0 := by
                  rw [← he.out]; unfold descE
                  first | (rw [if_neg (by omega)]; done) | (rw [if_neg (by omega)]) | (rw [if_pos (by omega), if_pos (by omega)]) | (rw [if_pos (by omega), if_neg (by omega)])
                clear he
                (have d6 : (d.k == 3) = true := by simp [h6]); clear h6
                have hw := St.start w
                go_enter Try.func16, Try.ntmps16
                go_upto_region 1 with (first
                  | (refine wpl_box_v (v := val3 d) rfl hw ?_; clear hw; intro g1 w1 hw))
                have c0 := Rd.blk (w0 := w) (g := g1) (k := 0) (cs := #[.int .i64 d.k, .int .i64 d.a, .int .i64 d.b]) (t := 28) (v := .int .i64 d.k) (L := []) rfl _ hw
                go_upto_region 2 with (first
                  | (go_at_call 38; refine (HZ.out _).mono ?_; rintro e w3 ⟨rfl, hg⟩; replace hw := hw.grew hg; clear hg c0)
                  | (refine wpl_alloc zero3 hw ?_; clear hw; intro g2 w2 hw)
                  | (refine wpl_store_agg (v := val3 (⟨d.k, 0, 0⟩)) rfl rfl (size3 _) hw WrA.slot3 ?_; clear hw; intro w2 hw))
                have c0 := Rd.blk (w0 := w) (g := g1) (k := 0) (cs := #[.int .i64 d.k, .int .i64 d.a, .int .i64 d.b]) (t := 28) (v := .int .i64 d.k) (L := []) rfl _ hw.drop
                have c1 := Rd.blk (w0 := w) (g := g1) (k := 1) (cs := #[.int .i64 d.k, .int .i64 d.a, .int .i64 d.b]) (t := 28) (v := .int .i64 d.a) (L := []) rfl _ hw.drop
                have c2 := Rd.blk (w0 := w) (g := g1) (k := 2) (cs := #[.int .i64 d.k, .int .i64 d.a, .int .i64 d.b]) (t := 28) (v := .int .i64 d.b) (L := []) rfl _ hw.drop
                go_wp2
                go_ret
                exact ⟨rfl, hw.made_grew⟩
              · skip
                have HZ := Lib.hid (fun w => vzero_c (w := w) d.k (b := true) (u := ⟨d.k, 0, 0⟩) (by first | exact decide_eq_true (by omega) | exact decide_eq_false (by omega)) (by first | exact if_pos (by omega) | exact if_neg (by omega)))
                obtain rfl : e = 9 := by
                  rw [← he.out]; unfold descE
                  first | (rw [if_neg (by omega)]; done) | (rw [if_neg (by omega)]) | (rw [if_pos (by omega), if_pos (by omega)]) | (rw [if_pos (by omega), if_neg (by omega)])
                clear he
                skip
                have hw := St.start w
                go_enter Try.func16, Try.ntmps16
                go_upto_region 1 with (first
                  | (refine wpl_box_v (v := val3 d) rfl hw ?_; clear hw; intro g1 w1 hw))
                have c0 := Rd.blk (w0 := w) (g := g1) (k := 0) (cs := #[.int .i64 d.k, .int .i64 d.a, .int .i64 d.b]) (t := 28) (v := .int .i64 d.k) (L := []) rfl _ hw
                go_upto_region 2 with (first
                  | (go_at_call 38; refine (HZ.out _).mono ?_; rintro e w3 ⟨rfl, hg⟩; replace hw := hw.grew hg; clear hg c0)
                  | (refine wpl_alloc zero3 hw ?_; clear hw; intro g2 w2 hw)
                  | (refine wpl_store_agg (v := val3 (⟨d.k, 0, 0⟩)) rfl rfl (size3 _) hw WrA.slot3 ?_; clear hw; intro w2 hw))
                have c0 := Rd.blk (w0 := w) (g := g1) (k := 0) (cs := #[.int .i64 d.k, .int .i64 d.a, .int .i64 d.b]) (t := 28) (v := .int .i64 d.k) (L := []) rfl _ hw.drop
                have c1 := Rd.blk (w0 := w) (g := g1) (k := 1) (cs := #[.int .i64 d.k, .int .i64 d.a, .int .i64 d.b]) (t := 28) (v := .int .i64 d.a) (L := []) rfl _ hw.drop
                have c2 := Rd.blk (w0 := w) (g := g1) (k := 2) (cs := #[.int .i64 d.k, .int .i64 d.a, .int .i64 d.b]) (t := 28) (v := .int .i64 d.b) (L := []) rfl _ hw.drop
                go_wp2
                go_ret
                exact ⟨rfl, hw.made_grew⟩
            · skip
              have HZ := Lib.hid (fun w => vzero_c (w := w) d.k (b := true) (u := ⟨d.k, 0, 0⟩) (by first | exact decide_eq_true (by omega) | exact decide_eq_false (by omega)) (by first | exact if_pos (by omega) | exact if_neg (by omega)))
              obtain rfl : e = 0 := by
                rw [← he.out]; unfold descE
                first | (rw [if_neg (by omega)]; done) | (rw [if_neg (by omega)]) | (rw [if_pos (by omega), if_pos (by omega)]) | (rw [if_pos (by omega), if_neg (by omega)])
              clear he
              skip
              have hw := St.start w
              go_enter Try.func16, Try.ntmps16
              go_upto_region 1 with (first
                | (refine wpl_box_v (v := val3 d) rfl hw ?_; clear hw; intro g1 w1 hw))
              have c0 := Rd.blk (w0 := w) (g := g1) (k := 0) (cs := #[.int .i64 d.k, .int .i64 d.a, .int .i64 d.b]) (t := 28) (v := .int .i64 d.k) (L := []) rfl _ hw
              go_upto_region 2 with (first
                | (go_at_call 38; refine (HZ.out _).mono ?_; rintro e w3 ⟨rfl, hg⟩; replace hw := hw.grew hg; clear hg c0)
                | (refine wpl_alloc zero3 hw ?_; clear hw; intro g2 w2 hw)
                | (refine wpl_store_agg (v := val3 (⟨d.k, 0, 0⟩)) rfl rfl (size3 _) hw WrA.slot3 ?_; clear hw; intro w2 hw))
              have c0 := Rd.blk (w0 := w) (g := g1) (k := 0) (cs := #[.int .i64 d.k, .int .i64 d.a, .int .i64 d.b]) (t := 28) (v := .int .i64 d.k) (L := []) rfl _ hw.drop
              have c1 := Rd.blk (w0 := w) (g := g1) (k := 1) (cs := #[.int .i64 d.k, .int .i64 d.a, .int .i64 d.b]) (t := 28) (v := .int .i64 d.a) (L := []) rfl _ hw.drop
              have c2 := Rd.blk (w0 := w) (g := g1) (k := 2) (cs := #[.int .i64 d.k, .int .i64 d.a, .int .i64 d.b]) (t := 28) (v := .int .i64 d.b) (L := []) rfl _ hw.drop
              go_wp2
              go_ret
              exact ⟨rfl, hw.made_grew⟩
  · skip
    have HZ := Lib.hid (fun w => vzero_c (w := w) d.k (b := false) (u := V3.z) (by first | exact decide_eq_true (by omega) | exact decide_eq_false (by omega)) (by first | exact if_pos (by omega) | exact if_neg (by omega)))
    obtain rfl : e = 1 := by
      rw [← he.out]; unfold descE
      first | (rw [if_neg (by omega)]; done) | (rw [if_neg (by omega)]) | (rw [if_pos (by omega), if_pos (by omega)]) | (rw [if_pos (by omega), if_neg (by omega)])
    clear he
    skip
    have hw := St.start w
    go_enter Try.func16, Try.ntmps16
    go_upto_region 1 with (first
      | (refine wpl_box_v (v := val3 d) rfl hw ?_; clear hw; intro g1 w1 hw))
    have c0 := Rd.blk (w0 := w) (g := g1) (k := 0) (cs := #[.int .i64 d.k, .int .i64 d.a, .int .i64 d.b]) (t := 28) (v := .int .i64 d.k) (L := []) rfl _ hw
    go_upto_region 2 with (first
      | (go_at_call 38; refine (HZ.out _).mono ?_; rintro e w3 ⟨rfl, hg⟩; replace hw := hw.grew hg; clear hg c0)
      | (refine wpl_alloc zero3 hw ?_; clear hw; intro g2 w2 hw)
      | (refine wpl_store_agg (v := val3 (V3.z)) rfl rfl (size3 _) hw WrA.slot3 ?_; clear hw; intro w2 hw))
    have c0 := Rd.blk (w0 := w) (g := g1) (k := 0) (cs := #[.int .i64 d.k, .int .i64 d.a, .int .i64 d.b]) (t := 28) (v := .int .i64 d.k) (L := []) rfl _ hw.drop
    have c1 := Rd.blk (w0 := w) (g := g1) (k := 1) (cs := #[.int .i64 d.k, .int .i64 d.a, .int .i64 d.b]) (t := 28) (v := .int .i64 d.a) (L := []) rfl _ hw.drop
    have c2 := Rd.blk (w0 := w) (g := g1) (k := 2) (cs := #[.int .i64 d.k, .int .i64 d.a, .int .i64 d.b]) (t := 28) (v := .int .i64 d.b) (L := []) rfl _ hw.drop
    go_wp2
    go_ret
    exact ⟨rfl, hw.made_grew⟩
end Go.Proofs.Ytmdjpeblbnbjmaa
