/-
  XJU: joined of XSt XSt2 XSt3 XSt4 XSt5 XSlLaw XL11 XL11b XSlBo XL11c.
-/
import Derived.Test.YtcnbmfaicbkhcaaGreatDoorJT
import Derived.Test.YtcnbmfaicbkhcaaGreatDoorJY
import Derived.Deep.DeepCutAuto
import Derived.Deep.CutBlock
import Derived.Test.YtcnbmfaicbkhcaaGreatDoorJK
import Derived.Test.YtcnbmfaicbkhcaaGreatDoorJA
/-
  One kind of place behind another (slot.Slot): its state, its memory; Zero, Check, check, note, kept, New.
-/
set_option maxRecDepth 100000
namespace Go.Proofs.YtcnbmfaicbkhcaaGreatDoor
open Go Go.RowKit
attribute [local irreducible] wpList Calls Code.wp okI okN pS tS memS getG pG insS delS getV pV tV okVal

/-- What a Slot is: its Desc (kind, variant, bound), its indexes and values, its flag's place, what befell, its readers. -/
structure SlS where
  d : V3
  S : List Nat
  g : Nat → V3
  F : Option Nat
  evs : List Ev
  rds : List Nat
  pv : Value
def fpV (F : Option Nat) : Value := .pointer (F.map fun f => ⟨f, 0, none⟩)
def FlP (F : Option Nat) (bd : Int) (evs : List Ev) (rds : List Nat) : As := match F with
  | none => fun h => (evs = [] ∧ rds = []) ∧ emp h
  | some f => FlB f bd.toNat evs rds
def slC (v : Value) (d : V3) (M : Nat) (F : Option Nat) : Array Value := #[v, .int .i64 d.k, .int .i64 d.a, .int .i64 d.b, .pointer (some ⟨M, 0, none⟩), fpV F]
/-- Whether an index and a value may be: the error. -/
def SlS.err (s : SlS) (i : Int) (v : V3) : Int := if okI i = true then (if (okVal v && v.k == s.d.k) = true then 0 else 9) else 1
def ntE (F : Option Nat) (evs : List Ev) (k i : Int) : List Ev := if F.isSome then evs ++ [(k, i)] else evs
def kdE (b : Bool) : Int := if b then 2 else 1
def SlS.noted (s : SlS) (k i : Int) : List Ev := ntE s.F s.evs k i
/-- A value is put, taken, changed. -/
def SlS.put (s : SlS) (i : Int) (v : V3) : SlS := if s.err i v = 0 then { s with S := insS i.toNat s.S, g := pG s.g i v, evs := s.noted (kdE (memS s.S i)) i } else s
def SlS.has (s : SlS) (i : Int) : Bool := memS s.S i
def SlS.get (s : SlS) (i : Int) : V3 := getG s.S s.g i
def SlS.take (s : SlS) (i : Int) : SlS := if memS s.S i then { s with S := tS s.S i, evs := s.noted 3 i } else s
def SlS.errSet (s : SlS) (i : Int) (v : V3) : Int := if s.err i v = 0 then (if memS s.S i then 0 else 10) else s.err i v
def SlS.set (s : SlS) (i : Int) (v : V3) : SlS := if s.errSet i v = 0 then { s with g := pG s.g i v, evs := s.noted 2 i } else s
/-- The error of a Desc. -/
def descE (d : V3) : Int := if 1 ≤ d.k ∧ d.k ≤ 3 ∧ 1 ≤ d.a ∧ d.a ≤ 4 ∧ 0 ≤ d.b ∧ d.b ≤ 1000 then (if d.a = 4 ∧ d.k ≠ 3 then 9 else 0) else 1
structure SlS.Ok (s : SlS) : Prop where
  desc : descE s.d = 0
  flag : s.F.isSome = decide (0 < s.d.b)
def SlB (X : Nat) (s : SlS) : As := fun h => s.Ok ∧ ∃ M, star (blk X (slC s.pv s.d M s.F) 365) (star (PlB s.d.k s.pv s.S s.g) (star (HSet M s.S) (FlP s.F s.d.b s.evs s.rds))) h
theorem St.slopen {w0 w : World} {X : Nat} {s : SlS} {L : List As} (hs : St w0 (SlB X s :: L) w) : s.Ok ∧ ∃ M, St w0 (YtcnbmfaicbkhcaaGreatDoor.blk X (slC s.pv s.d M s.F) 365 :: PlB s.d.k s.pv s.S s.g :: HSet M s.S :: FlP s.F s.d.b s.evs s.rds :: L) w := by
  obtain ⟨hb, h, r, hd, hu, a, b, hab, rfl, ⟨hok, M, ht⟩, hl⟩ := hs
  have h1 : St w0 (star (YtcnbmfaicbkhcaaGreatDoor.blk X (slC s.pv s.d M s.F) 365) (star (PlB s.d.k s.pv s.S s.g) (star (HSet M s.S) (FlP s.F s.d.b s.evs s.rds))) :: L) w := ⟨hb, _, r, hd, hu, a, b, hab, rfl, ht, hl⟩
  exact ⟨hok, M, ((h1.ent (Ent.open2 fun _ h => h)).ent (Ent.cons _ (Ent.open2 fun _ h => h))).ent (Ent.cons _ (Ent.cons _ (Ent.open2 fun _ h => h)))⟩
theorem St.slshut {w0 w : World} {X M : Nat} {s : SlS} {L : List As} (hok : s.Ok) (hs : St w0 (YtcnbmfaicbkhcaaGreatDoor.blk X (slC s.pv s.d M s.F) 365 :: PlB s.d.k s.pv s.S s.g :: HSet M s.S :: FlP s.F s.d.b s.evs s.rds :: L) w) : St w0 (SlB X s :: L) w :=
  (((hs.ent (Ent.cons _ (Ent.cons _ (Ent.shut2 fun _ h => h)))).ent (Ent.cons _ (Ent.shut2 fun _ h => h))).ent (Ent.shut2 fun _ h => h)).conv fun _ h => ⟨hok, M, h⟩
section
variable {w0 : World} {X M : Nat} {v : Value} {d : V3} {F : Option Nat} {L : List As} {t : TypeId}
theorem Rd.sl0 : Rd w0 (YtcnbmfaicbkhcaaGreatDoor.blk X (slC v d M F) t :: L) ⟨X, 0, none⟩ v := Rd.blk rfl
theorem Rd.sl1 : Rd w0 (YtcnbmfaicbkhcaaGreatDoor.blk X (slC v d M F) t :: L) ⟨X, 1, none⟩ (.int .i64 d.k) := Rd.blk rfl
theorem Rd.sl4 : Rd w0 (YtcnbmfaicbkhcaaGreatDoor.blk X (slC v d M F) t :: L) ⟨X, 4, none⟩ (.pointer (some ⟨M, 0, none⟩)) := Rd.blk rfl
theorem Rd.sl5 : Rd w0 (YtcnbmfaicbkhcaaGreatDoor.blk X (slC v d M F) t :: L) ⟨X, 5, none⟩ (fpV F) := Rd.blk rfl
theorem Rd.slD : ∀ j u, (c3 d)[j]? = some u → Rd w0 (YtcnbmfaicbkhcaaGreatDoor.blk X (slC v d M F) t :: L) ⟨X, 1 + j, none⟩ u := fun j u hu => Rd.blk (by
  have : j < 3 := (List.getElem?_eq_some_iff.1 hu).1
  have h3 : j = 0 ∨ j = 1 ∨ j = 2 := by omega
  rcases h3 with rfl | rfl | rfl <;> exact hu)
end
/-- What befell an index is noted. -/
theorem sl_note {w0 w : World} {L : List As} {X M : Nat} {v : Value} {d : V3} {F : Option Nat} {evs : List Ev} {rds : List Nat} {bd : Int} (hs : St w0 (blk X (slC v d M F) 365 :: FlP F bd evs rds :: L) w) {k i : Int} (h1 : 1 ≤ k) (h2 : k ≤ 3) (h3 : 0 ≤ i) (hl : evs.length < 4611686018427387904) :
    Calls Tryz.prog 248 #[.pointer (some ⟨X, 0, none⟩), .int .i64 k, .int .i64 i] w fun e w' => e = .returned (.tuple #[]) ∧ St w0 (blk X (slC v d M F) 365 :: FlP F bd (ntE F evs k i) rds :: L) w' := by
  cases F with
  | none =>
    have hc : w.cell? ⟨X, 5, none⟩ = some (.pointer none) := Rd.sl5 (F := none) _ hs
    have hs2 := Lib.hid hs
    clear h1 h2 h3 hl
    go_enter Tryz.func248, Tryz.ntmps248
    go_wp2
    go_end0
    exact ⟨rfl, hs2.out⟩
  | some f =>
    have hc : w.cell? ⟨X, 5, none⟩ = some (.pointer (some ⟨f, 0, none⟩)) := Rd.sl5 (F := some f) _ hs
    have HN := Lib.hid (fun (w : World) (G : Nat) (cs : Array Value) (t : TypeId) (hs : St w0 (FlB f bd.toNat evs rds :: blk G cs t :: blk X (slC v d M (some f)) 365 :: L) w) (hG : cs.toList = e2 (k, i)) => fl_note (cG := 1) hs (e := (k, i)) h1 h2 h3 hl (hG ▸ RdS.blk))
    clear h1 h2 h3 hl
    have hs : St w0 (blk X (slC v d M (some f)) 365 :: FlB f bd.toNat evs rds :: L) w := hs
    go_enter Tryz.func248, Tryz.ntmps248
    go_wp2_with (first
      | (refine wpl_build1 (v := valE (k, i)) elemE (by decide) rfl rfl hs ?_; clear hs hc; intro G w hs)
      | (go_at_call 300; refine (HN.out _ _ _ _ hs.up2 rfl).mono ?_; clear hs; rintro e w ⟨rfl, hs⟩))
    go_end0
    exact ⟨rfl, hs.dn2.drop⟩
/-! ### Zero, Check -/
theorem build3k (k : Int) (w : World) : (Instr.build 41 #[(0, .int .i64 k)]).run Tryz.prog w = .ok (val3 ⟨k, 0, 0⟩) w := by kernel_rfl
theorem vzero_c {w : World} (k : Int) {b : Bool} {u : V3} (hb : Hid (decide (1 ≤ k ∧ k ≤ 3) = b)) (hu : Hid ((if 1 ≤ k ∧ k ≤ 3 then ⟨k, 0, 0⟩ else V3.z) = u)) :
    Calls Tryz.prog 329 #[.int .i64 k] w fun e w' => e = .returned (.tuple #[val3 u, .bool b]) ∧ Grew w w' := by
  have hk : okVal ⟨k, 0, 0⟩ = decide (1 ≤ k ∧ k ≤ 3) := by
    unfold okVal
    simp only [beq_self_eq_true, Bool.and_self]
    by_cases h1 : k = 1
    · subst h1; rfl
    · rw [if_neg h1]
      by_cases h2 : k = 2
      · subst h2; rfl
      · rw [if_neg h2]
        by_cases h3 : k = 3
        · subst h3; rfl
        · rw [if_neg h3]; symm; exact decide_eq_false (by omega)
  have HK : Hid (okVal ⟨k, 0, 0⟩ = b) := by rw [Hid, hk, hb.out]
  clear hk
  have hw := St.start w
  by_cases h : 1 ≤ k ∧ k ≤ 3
  · obtain rfl : b = true := by rw [← hb.out]; exact decide_eq_true h
    rw [if_pos h] at hu
    clear h hb
    go_enter Tryz.func329, Tryz.ntmps329
    go_upto_region 2 with (first
      | (refine wpl_alloc zero3 hw ?_; clear hw; intro g1 w1 hw)
      | (refine wpl_buildS (build3k k) rfl ?_)
      | (refine wpl_store_agg (v := val3 ⟨k, 0, 0⟩) rfl rfl (size3 _) hw WrA.slot3 ?_; clear hw; intro w2 hw))
    go_wp2_with (first
      | (refine wpl_load3 (v := ⟨k, 0, 0⟩) rfl ?hh agg3 size3n hw ?_; case hh => first | exact has3_slot | exact has3_tail has3_slot)
      | (go_at_call 299; refine (vok_c _).mono ?_; rintro e w3 ⟨rfl, hg⟩; rw [HK.out]; replace hw := hw.grew hg; clear hg)
      | (refine wpl_store_agg (v := val3 ⟨k, 0, 0⟩) rfl rfl (size3 _) hw.rot WrA.slot3 ?_; clear hw; intro w2 hw))
    refine bodyPost_at (results_cell_tmp Tryz.results329 rfl (hw.slot_run agg3 (size3 _))) rfl ?_
    exact ⟨by rw [← hu.out]; rfl, hw.made_grew⟩
  · obtain rfl : b = false := by rw [← hb.out]; exact decide_eq_false h
    rw [if_neg h] at hu
    clear h hb
    go_enter Tryz.func329, Tryz.ntmps329
    go_upto_region 2 with (first
      | (refine wpl_alloc zero3 hw ?_; clear hw; intro g1 w1 hw)
      | (refine wpl_buildS (build3k k) rfl ?_)
      | (refine wpl_store_agg (v := val3 ⟨k, 0, 0⟩) rfl rfl (size3 _) hw WrA.slot3 ?_; clear hw; intro w2 hw))
    go_wp2_with (first
      | (refine wpl_load3 (v := ⟨k, 0, 0⟩) rfl ?hh agg3 size3n hw ?_; case hh => first | exact has3_slot | exact has3_tail has3_slot)
      | (go_at_call 299; refine (vok_c _).mono ?_; rintro e w3 ⟨rfl, hg⟩; rw [HK.out]; replace hw := hw.grew hg; clear hg)
      | (refine wpl_store_agg (v := val3 V3.z) rfl rfl (size3 _) hw.rot WrA.slot3 ?_; clear hw; intro w2 hw))
    refine bodyPost_at (results_cell_tmp Tryz.results329 rfl (hw.slot_run agg3 (size3 _))) rfl ?_
    exact ⟨by rw [← hu.out]; rfl, hw.made_grew⟩
set_option maxHeartbeats 2000000 in
theorem scheck_c {w : World} (d : V3) {e : Int} (he : Hid (descE d = e)) :
    Calls Tryz.prog 295 #[val3 d] w fun r w' => r = .returned (.int .i64 e) ∧ Grew w w' := by
  by_cases hk : 1 ≤ d.k ∧ d.k ≤ 3
  · by_cases h1 : d.a < 1
    · have d1 : decide (d.a < 1) = true := decide_eq_true h1
      have HZ := Lib.hid (fun w => vzero_c (w := w) d.k (b := true) (u := ⟨d.k, 0, 0⟩) (by first | exact decide_eq_true (by omega) | exact decide_eq_false (by omega)) (by first | exact if_pos (by omega) | exact if_neg (by omega)))
      obtain rfl : e = 1 := by
        rw [← he.out]; unfold descE
        first | (rw [if_neg (by omega)]; done) | (rw [if_neg (by omega)]) | (rw [if_pos (by omega), if_pos (by omega)]) | (rw [if_pos (by omega), if_neg (by omega)])
      clear he
      skip
      have hw := St.start w
      go_enter Tryz.func295, Tryz.ntmps295
      go_upto_region 1 with (first
        | (refine wpl_box_v (v := val3 d) rfl hw ?_; clear hw; intro g1 w1 hw))
      have c0 := Rd.blk (w0 := w) (g := g1) (k := 0) (cs := #[.int .i64 d.k, .int .i64 d.a, .int .i64 d.b]) (t := 120) (v := .int .i64 d.k) (L := []) rfl _ hw
      go_upto_region 2 with (first
        | (go_at_call 329; refine (HZ.out _).mono ?_; rintro e w3 ⟨rfl, hg⟩; replace hw := hw.grew hg; clear hg c0)
        | (refine wpl_alloc zero3 hw ?_; clear hw; intro g2 w2 hw)
        | (refine wpl_store_agg (v := val3 (⟨d.k, 0, 0⟩)) rfl rfl (size3 _) hw WrA.slot3 ?_; clear hw; intro w2 hw))
      have c0 := Rd.blk (w0 := w) (g := g1) (k := 0) (cs := #[.int .i64 d.k, .int .i64 d.a, .int .i64 d.b]) (t := 120) (v := .int .i64 d.k) (L := []) rfl _ hw.drop
      have c1 := Rd.blk (w0 := w) (g := g1) (k := 1) (cs := #[.int .i64 d.k, .int .i64 d.a, .int .i64 d.b]) (t := 120) (v := .int .i64 d.a) (L := []) rfl _ hw.drop
      have c2 := Rd.blk (w0 := w) (g := g1) (k := 2) (cs := #[.int .i64 d.k, .int .i64 d.a, .int .i64 d.b]) (t := 120) (v := .int .i64 d.b) (L := []) rfl _ hw.drop
      go_wp2
      go_ret
      exact ⟨rfl, hw.made_grew⟩
    · by_cases h2 : 4 < d.a
      · skip
        have HZ := Lib.hid (fun w => vzero_c (w := w) d.k (b := true) (u := ⟨d.k, 0, 0⟩) (by first | exact decide_eq_true (by omega) | exact decide_eq_false (by omega)) (by first | exact if_pos (by omega) | exact if_neg (by omega)))
        obtain rfl : e = 1 := by
          rw [← he.out]; unfold descE
          first | (rw [if_neg (by omega)]; done) | (rw [if_neg (by omega)]) | (rw [if_pos (by omega), if_pos (by omega)]) | (rw [if_pos (by omega), if_neg (by omega)])
        clear he
        skip
        have hw := St.start w
        go_enter Tryz.func295, Tryz.ntmps295
        go_upto_region 1 with (first
          | (refine wpl_box_v (v := val3 d) rfl hw ?_; clear hw; intro g1 w1 hw))
        have c0 := Rd.blk (w0 := w) (g := g1) (k := 0) (cs := #[.int .i64 d.k, .int .i64 d.a, .int .i64 d.b]) (t := 120) (v := .int .i64 d.k) (L := []) rfl _ hw
        go_upto_region 2 with (first
          | (go_at_call 329; refine (HZ.out _).mono ?_; rintro e w3 ⟨rfl, hg⟩; replace hw := hw.grew hg; clear hg c0)
          | (refine wpl_alloc zero3 hw ?_; clear hw; intro g2 w2 hw)
          | (refine wpl_store_agg (v := val3 (⟨d.k, 0, 0⟩)) rfl rfl (size3 _) hw WrA.slot3 ?_; clear hw; intro w2 hw))
        have c0 := Rd.blk (w0 := w) (g := g1) (k := 0) (cs := #[.int .i64 d.k, .int .i64 d.a, .int .i64 d.b]) (t := 120) (v := .int .i64 d.k) (L := []) rfl _ hw.drop
        have c1 := Rd.blk (w0 := w) (g := g1) (k := 1) (cs := #[.int .i64 d.k, .int .i64 d.a, .int .i64 d.b]) (t := 120) (v := .int .i64 d.a) (L := []) rfl _ hw.drop
        have c2 := Rd.blk (w0 := w) (g := g1) (k := 2) (cs := #[.int .i64 d.k, .int .i64 d.a, .int .i64 d.b]) (t := 120) (v := .int .i64 d.b) (L := []) rfl _ hw.drop
        go_wp2
        go_ret
        exact ⟨rfl, hw.made_grew⟩
      · by_cases h3 : d.b < 0
        · skip
          have HZ := Lib.hid (fun w => vzero_c (w := w) d.k (b := true) (u := ⟨d.k, 0, 0⟩) (by first | exact decide_eq_true (by omega) | exact decide_eq_false (by omega)) (by first | exact if_pos (by omega) | exact if_neg (by omega)))
          obtain rfl : e = 1 := by
            rw [← he.out]; unfold descE
            first | (rw [if_neg (by omega)]; done) | (rw [if_neg (by omega)]) | (rw [if_pos (by omega), if_pos (by omega)]) | (rw [if_pos (by omega), if_neg (by omega)])
          clear he
          skip
          have hw := St.start w
          go_enter Tryz.func295, Tryz.ntmps295
          go_upto_region 1 with (first
            | (refine wpl_box_v (v := val3 d) rfl hw ?_; clear hw; intro g1 w1 hw))
          have c0 := Rd.blk (w0 := w) (g := g1) (k := 0) (cs := #[.int .i64 d.k, .int .i64 d.a, .int .i64 d.b]) (t := 120) (v := .int .i64 d.k) (L := []) rfl _ hw
          go_upto_region 2 with (first
            | (go_at_call 329; refine (HZ.out _).mono ?_; rintro e w3 ⟨rfl, hg⟩; replace hw := hw.grew hg; clear hg c0)
            | (refine wpl_alloc zero3 hw ?_; clear hw; intro g2 w2 hw)
            | (refine wpl_store_agg (v := val3 (⟨d.k, 0, 0⟩)) rfl rfl (size3 _) hw WrA.slot3 ?_; clear hw; intro w2 hw))
          have c0 := Rd.blk (w0 := w) (g := g1) (k := 0) (cs := #[.int .i64 d.k, .int .i64 d.a, .int .i64 d.b]) (t := 120) (v := .int .i64 d.k) (L := []) rfl _ hw.drop
          have c1 := Rd.blk (w0 := w) (g := g1) (k := 1) (cs := #[.int .i64 d.k, .int .i64 d.a, .int .i64 d.b]) (t := 120) (v := .int .i64 d.a) (L := []) rfl _ hw.drop
          have c2 := Rd.blk (w0 := w) (g := g1) (k := 2) (cs := #[.int .i64 d.k, .int .i64 d.a, .int .i64 d.b]) (t := 120) (v := .int .i64 d.b) (L := []) rfl _ hw.drop
          go_wp2
          go_ret
          exact ⟨rfl, hw.made_grew⟩
        · by_cases h4 : 1000 < d.b
          · skip
            have HZ := Lib.hid (fun w => vzero_c (w := w) d.k (b := true) (u := ⟨d.k, 0, 0⟩) (by first | exact decide_eq_true (by omega) | exact decide_eq_false (by omega)) (by first | exact if_pos (by omega) | exact if_neg (by omega)))
            obtain rfl : e = 1 := by
              rw [← he.out]; unfold descE
              first | (rw [if_neg (by omega)]; done) | (rw [if_neg (by omega)]) | (rw [if_pos (by omega), if_pos (by omega)]) | (rw [if_pos (by omega), if_neg (by omega)])
            clear he
            skip
            have hw := St.start w
            go_enter Tryz.func295, Tryz.ntmps295
            go_upto_region 1 with (first
              | (refine wpl_box_v (v := val3 d) rfl hw ?_; clear hw; intro g1 w1 hw))
            have c0 := Rd.blk (w0 := w) (g := g1) (k := 0) (cs := #[.int .i64 d.k, .int .i64 d.a, .int .i64 d.b]) (t := 120) (v := .int .i64 d.k) (L := []) rfl _ hw
            go_upto_region 2 with (first
              | (go_at_call 329; refine (HZ.out _).mono ?_; rintro e w3 ⟨rfl, hg⟩; replace hw := hw.grew hg; clear hg c0)
              | (refine wpl_alloc zero3 hw ?_; clear hw; intro g2 w2 hw)
              | (refine wpl_store_agg (v := val3 (⟨d.k, 0, 0⟩)) rfl rfl (size3 _) hw WrA.slot3 ?_; clear hw; intro w2 hw))
            have c0 := Rd.blk (w0 := w) (g := g1) (k := 0) (cs := #[.int .i64 d.k, .int .i64 d.a, .int .i64 d.b]) (t := 120) (v := .int .i64 d.k) (L := []) rfl _ hw.drop
            have c1 := Rd.blk (w0 := w) (g := g1) (k := 1) (cs := #[.int .i64 d.k, .int .i64 d.a, .int .i64 d.b]) (t := 120) (v := .int .i64 d.a) (L := []) rfl _ hw.drop
            have c2 := Rd.blk (w0 := w) (g := g1) (k := 2) (cs := #[.int .i64 d.k, .int .i64 d.a, .int .i64 d.b]) (t := 120) (v := .int .i64 d.b) (L := []) rfl _ hw.drop
            go_wp2
            go_ret
            exact ⟨rfl, hw.made_grew⟩
          · by_cases h5 : d.a = 4
            · by_cases h6 : d.k = 3
              · skip
                have HZ := Lib.hid (fun w => vzero_c (w := w) d.k (b := true) (u := ⟨d.k, 0, 0⟩) (by first | exact decide_eq_true (by omega) | exact decide_eq_false (by omega)) (by first | exact if_pos (by omega) | exact if_neg (by omega)))
                obtain rfl : e = 0 := by
                  rw [← he.out]; unfold descE
                  first | (rw [if_neg (by omega)]; done) | (rw [if_neg (by omega)]) | (rw [if_pos (by omega), if_pos (by omega)]) | (rw [if_pos (by omega), if_neg (by omega)])
                clear he
                (have d6 : (d.k == 3) = true := by simp [h6]); clear h6
                have hw := St.start w
                go_enter Tryz.func295, Tryz.ntmps295
                go_upto_region 1 with (first
                  | (refine wpl_box_v (v := val3 d) rfl hw ?_; clear hw; intro g1 w1 hw))
                have c0 := Rd.blk (w0 := w) (g := g1) (k := 0) (cs := #[.int .i64 d.k, .int .i64 d.a, .int .i64 d.b]) (t := 120) (v := .int .i64 d.k) (L := []) rfl _ hw
                go_upto_region 2 with (first
                  | (go_at_call 329; refine (HZ.out _).mono ?_; rintro e w3 ⟨rfl, hg⟩; replace hw := hw.grew hg; clear hg c0)
                  | (refine wpl_alloc zero3 hw ?_; clear hw; intro g2 w2 hw)
                  | (refine wpl_store_agg (v := val3 (⟨d.k, 0, 0⟩)) rfl rfl (size3 _) hw WrA.slot3 ?_; clear hw; intro w2 hw))
                have c0 := Rd.blk (w0 := w) (g := g1) (k := 0) (cs := #[.int .i64 d.k, .int .i64 d.a, .int .i64 d.b]) (t := 120) (v := .int .i64 d.k) (L := []) rfl _ hw.drop
                have c1 := Rd.blk (w0 := w) (g := g1) (k := 1) (cs := #[.int .i64 d.k, .int .i64 d.a, .int .i64 d.b]) (t := 120) (v := .int .i64 d.a) (L := []) rfl _ hw.drop
                have c2 := Rd.blk (w0 := w) (g := g1) (k := 2) (cs := #[.int .i64 d.k, .int .i64 d.a, .int .i64 d.b]) (t := 120) (v := .int .i64 d.b) (L := []) rfl _ hw.drop
                go_wp2
                go_ret
                exact ⟨rfl, hw.made_grew⟩
              · skip
                have HZ := Lib.hid (fun w => vzero_c (w := w) d.k (b := true) (u := ⟨d.k, 0, 0⟩) (by first | exact decide_eq_true (by omega) | exact decide_eq_false (by omega)) (by first | exact if_pos (by omega) | exact if_neg (by omega)))
                obtain rfl : e = 9 := by
                  rw [← he.out]; unfold descE
                  first | (rw [if_neg (by omega)]; done) | (rw [if_neg (by omega)]) | (rw [if_pos (by omega), if_pos (by omega)]) | (rw [if_pos (by omega), if_neg (by omega)])
                clear he
                skip
                have hw := St.start w
                go_enter Tryz.func295, Tryz.ntmps295
                go_upto_region 1 with (first
                  | (refine wpl_box_v (v := val3 d) rfl hw ?_; clear hw; intro g1 w1 hw))
                have c0 := Rd.blk (w0 := w) (g := g1) (k := 0) (cs := #[.int .i64 d.k, .int .i64 d.a, .int .i64 d.b]) (t := 120) (v := .int .i64 d.k) (L := []) rfl _ hw
                go_upto_region 2 with (first
                  | (go_at_call 329; refine (HZ.out _).mono ?_; rintro e w3 ⟨rfl, hg⟩; replace hw := hw.grew hg; clear hg c0)
                  | (refine wpl_alloc zero3 hw ?_; clear hw; intro g2 w2 hw)
                  | (refine wpl_store_agg (v := val3 (⟨d.k, 0, 0⟩)) rfl rfl (size3 _) hw WrA.slot3 ?_; clear hw; intro w2 hw))
                have c0 := Rd.blk (w0 := w) (g := g1) (k := 0) (cs := #[.int .i64 d.k, .int .i64 d.a, .int .i64 d.b]) (t := 120) (v := .int .i64 d.k) (L := []) rfl _ hw.drop
                have c1 := Rd.blk (w0 := w) (g := g1) (k := 1) (cs := #[.int .i64 d.k, .int .i64 d.a, .int .i64 d.b]) (t := 120) (v := .int .i64 d.a) (L := []) rfl _ hw.drop
                have c2 := Rd.blk (w0 := w) (g := g1) (k := 2) (cs := #[.int .i64 d.k, .int .i64 d.a, .int .i64 d.b]) (t := 120) (v := .int .i64 d.b) (L := []) rfl _ hw.drop
                go_wp2
                go_ret
                exact ⟨rfl, hw.made_grew⟩
            · skip
              have HZ := Lib.hid (fun w => vzero_c (w := w) d.k (b := true) (u := ⟨d.k, 0, 0⟩) (by first | exact decide_eq_true (by omega) | exact decide_eq_false (by omega)) (by first | exact if_pos (by omega) | exact if_neg (by omega)))
              obtain rfl : e = 0 := by
                rw [← he.out]; unfold descE
                first | (rw [if_neg (by omega)]; done) | (rw [if_neg (by omega)]) | (rw [if_pos (by omega), if_pos (by omega)]) | (rw [if_pos (by omega), if_neg (by omega)])
              clear he
              skip
              have hw := St.start w
              go_enter Tryz.func295, Tryz.ntmps295
              go_upto_region 1 with (first
                | (refine wpl_box_v (v := val3 d) rfl hw ?_; clear hw; intro g1 w1 hw))
              have c0 := Rd.blk (w0 := w) (g := g1) (k := 0) (cs := #[.int .i64 d.k, .int .i64 d.a, .int .i64 d.b]) (t := 120) (v := .int .i64 d.k) (L := []) rfl _ hw
              go_upto_region 2 with (first
                | (go_at_call 329; refine (HZ.out _).mono ?_; rintro e w3 ⟨rfl, hg⟩; replace hw := hw.grew hg; clear hg c0)
                | (refine wpl_alloc zero3 hw ?_; clear hw; intro g2 w2 hw)
                | (refine wpl_store_agg (v := val3 (⟨d.k, 0, 0⟩)) rfl rfl (size3 _) hw WrA.slot3 ?_; clear hw; intro w2 hw))
              have c0 := Rd.blk (w0 := w) (g := g1) (k := 0) (cs := #[.int .i64 d.k, .int .i64 d.a, .int .i64 d.b]) (t := 120) (v := .int .i64 d.k) (L := []) rfl _ hw.drop
              have c1 := Rd.blk (w0 := w) (g := g1) (k := 1) (cs := #[.int .i64 d.k, .int .i64 d.a, .int .i64 d.b]) (t := 120) (v := .int .i64 d.a) (L := []) rfl _ hw.drop
              have c2 := Rd.blk (w0 := w) (g := g1) (k := 2) (cs := #[.int .i64 d.k, .int .i64 d.a, .int .i64 d.b]) (t := 120) (v := .int .i64 d.b) (L := []) rfl _ hw.drop
              go_wp2
              go_ret
              exact ⟨rfl, hw.made_grew⟩
  · skip
    have HZ := Lib.hid (fun w => vzero_c (w := w) d.k (b := false) (u := V3.z) (by first | exact decide_eq_true (by omega) | exact decide_eq_false (by omega)) (by first | exact if_pos (by omega) | exact if_neg (by omega)))
    obtain rfl : e = 1 := by
      rw [← he.out]; unfold descE
      first | (rw [if_neg (by omega)]; done) | (rw [if_neg (by omega)]) | (rw [if_pos (by omega), if_pos (by omega)]) | (rw [if_pos (by omega), if_neg (by omega)])
    clear he
    skip
    have hw := St.start w
    go_enter Tryz.func295, Tryz.ntmps295
    go_upto_region 1 with (first
      | (refine wpl_box_v (v := val3 d) rfl hw ?_; clear hw; intro g1 w1 hw))
    have c0 := Rd.blk (w0 := w) (g := g1) (k := 0) (cs := #[.int .i64 d.k, .int .i64 d.a, .int .i64 d.b]) (t := 120) (v := .int .i64 d.k) (L := []) rfl _ hw
    go_upto_region 2 with (first
      | (go_at_call 329; refine (HZ.out _).mono ?_; rintro e w3 ⟨rfl, hg⟩; replace hw := hw.grew hg; clear hg c0)
      | (refine wpl_alloc zero3 hw ?_; clear hw; intro g2 w2 hw)
      | (refine wpl_store_agg (v := val3 (V3.z)) rfl rfl (size3 _) hw WrA.slot3 ?_; clear hw; intro w2 hw))
    have c0 := Rd.blk (w0 := w) (g := g1) (k := 0) (cs := #[.int .i64 d.k, .int .i64 d.a, .int .i64 d.b]) (t := 120) (v := .int .i64 d.k) (L := []) rfl _ hw.drop
    have c1 := Rd.blk (w0 := w) (g := g1) (k := 1) (cs := #[.int .i64 d.k, .int .i64 d.a, .int .i64 d.b]) (t := 120) (v := .int .i64 d.a) (L := []) rfl _ hw.drop
    have c2 := Rd.blk (w0 := w) (g := g1) (k := 2) (cs := #[.int .i64 d.k, .int .i64 d.a, .int .i64 d.b]) (t := 120) (v := .int .i64 d.b) (L := []) rfl _ hw.drop
    go_wp2
    go_ret
    exact ⟨rfl, hw.made_grew⟩
end Go.Proofs.YtcnbmfaicbkhcaaGreatDoor

/-
  One kind of place behind another (slot.Slot), 2: check, kept, New.
-/
set_option maxRecDepth 100000
namespace Go.Proofs.YtcnbmfaicbkhcaaGreatDoor
open Go Go.RowKit
attribute [local irreducible] wpList Calls Code.wp okI okN pS tS memS getG pG insS delS getV pV tV okVal

theorem Has3.gfacts {w0 wb : World} {L : List As} {g : Nat} {v : V3} (h : Has3 w0 L g v) (hs : St w0 L wb) : (∀ p : GW wb, p.w.cell? ⟨g, 0, none⟩ = some (.int .i64 v.k)) ∧ (∀ p : GW wb, p.w.cell? ⟨g, 1, none⟩ = some (.int .i64 v.a)) ∧ ∀ p : GW wb, p.w.cell? ⟨g, 2, none⟩ = some (.int .i64 v.b) :=
  ⟨fun p => (h.facts (hs.grew p.grew)).1, fun p => (h.facts (hs.grew p.grew)).2.1, fun p => (h.facts (hs.grew p.grew)).2.2⟩
def errV (kd i : Int) (v : V3) : Int := if okI i = true then (if (okVal v && v.k == kd) = true then 0 else 9) else 1
theorem okI_iff {i : Int} : okI i = true ↔ 0 ≤ i ∧ i < 65536 := by unfold okI; exact decide_eq_true_iff
theorem vok_v {w : World} {v : V3} {b : Bool} (hb : Hid (okVal v = b)) : Calls Tryz.prog 299 #[val3 v] w fun e w' => e = .returned (.bool b) ∧ Grew w w' := by rw [← hb.out]; exact vok_c v
theorem scheck2_c {w0 w : World} {L : List As} {X M : Nat} {v0 : Value} {d : V3} {F : Option Nat} (hs : St w0 (blk X (slC v0 d M F) 365 :: L) w) (i : Int) (v : V3) {e : Int} (he : Hid (errV d.k i v = e)) :
    Calls Tryz.prog 247 #[.pointer (some ⟨X, 0, none⟩), .int .i64 i, val3 v] w fun r w' => r = .returned (.int .i64 e) ∧ Grew w w' := by
  by_cases hI : okI i = true
  · have hi := okI_iff.1 hI
    cases hO : okVal v
    · skip
      obtain rfl : e = 9 := by
        rw [← he.out]; unfold errV
        rw [if_pos hI, if_neg (by simp [hO])]
      clear he
      (have HO := Lib.hid hO); clear hO hI
      have hw := St.start w
      have hk1 := Rd.sl1 _ hs
      go_enter Tryz.func247, Tryz.ntmps247
      go_upto_region 3 with (first
        | (refine wpl_box_v (v := val3 v) rfl hw ?_; clear hw; intro g1 w1 hw))
      have hs2 := hs.grew hw.made_grew
      refine wp_region_grow (by kernel_rfl) (by kernel_rfl) fun hne => ?_
      have q0 := (Rd.sl1 (w0 := w0) (X := X) (v := v0) (d := d) (M := M) (F := F) (L := L) (t := 365)).gall hs2
      obtain ⟨c0, c1, c2⟩ := Has3.gfacts (has3_slot (w0 := w) (L := []) (g := g1) (v := v) (t := 41)) hw
      repeat ((go_big_quiet_step ((first
        | (go_at_call 299; exact in_grew (vok_v HO))))))
      refine wpQuiet_nil ?_
      intro u hu
      go_wp2
      go_ret
      exact ⟨rfl, hw.made_grew.trans hu⟩
    · by_cases hK : v.k = d.k
      · skip
        obtain rfl : e = 0 := by
          rw [← he.out]; unfold errV
          rw [if_pos hI, if_pos (by simp [hO, hK])]
        clear he
        (have HO := Lib.hid hO); (have d6 : (v.k == d.k) = true := by simp [hK]); clear hO hI hK
        have hw := St.start w
        have hk1 := Rd.sl1 _ hs
        go_enter Tryz.func247, Tryz.ntmps247
        go_upto_region 3 with (first
          | (refine wpl_box_v (v := val3 v) rfl hw ?_; clear hw; intro g1 w1 hw))
        have hs2 := hs.grew hw.made_grew
        refine wp_region_grow (by kernel_rfl) (by kernel_rfl) fun hne => ?_
        have q0 := (Rd.sl1 (w0 := w0) (X := X) (v := v0) (d := d) (M := M) (F := F) (L := L) (t := 365)).gall hs2
        obtain ⟨c0, c1, c2⟩ := Has3.gfacts (has3_slot (w0 := w) (L := []) (g := g1) (v := v) (t := 41)) hw
        repeat ((go_big_quiet_step ((first
          | (go_at_call 299; exact in_grew (vok_v HO))))))
        refine wpQuiet_nil ?_
        intro u hu
        go_wp2
        go_ret
        exact ⟨rfl, hw.made_grew.trans hu⟩
      · skip
        obtain rfl : e = 9 := by
          rw [← he.out]; unfold errV
          rw [if_pos hI, if_neg (by simp [hO, hK])]
        clear he
        (have HO := Lib.hid hO); (have d6 : (v.k == d.k) = false := by simp [hK]); clear hO hI hK
        have hw := St.start w
        have hk1 := Rd.sl1 _ hs
        go_enter Tryz.func247, Tryz.ntmps247
        go_upto_region 3 with (first
          | (refine wpl_box_v (v := val3 v) rfl hw ?_; clear hw; intro g1 w1 hw))
        have hs2 := hs.grew hw.made_grew
        refine wp_region_grow (by kernel_rfl) (by kernel_rfl) fun hne => ?_
        have q0 := (Rd.sl1 (w0 := w0) (X := X) (v := v0) (d := d) (M := M) (F := F) (L := L) (t := 365)).gall hs2
        obtain ⟨c0, c1, c2⟩ := Has3.gfacts (has3_slot (w0 := w) (L := []) (g := g1) (v := v) (t := 41)) hw
        repeat ((go_big_quiet_step ((first
          | (go_at_call 299; exact in_grew (vok_v HO))))))
        refine wpQuiet_nil ?_
        intro u hu
        go_wp2
        go_ret
        exact ⟨rfl, hw.made_grew.trans hu⟩
  · by_cases h0 : i < 0
    · skip
      obtain rfl : e = 1 := by
        rw [← he.out]; unfold errV
        rw [if_neg hI]
      clear he
      clear hI
      have hw := St.start w
      have hk1 := Rd.sl1 _ hs
      go_enter Tryz.func247, Tryz.ntmps247
      go_wp2_with (first
        | (refine wpl_box_v (v := val3 v) rfl hw ?_; clear hw; intro g1 w1 hw))
      go_ret
      exact ⟨rfl, hw.made_grew⟩
    · have h1 : 65536 ≤ i := by
        have h2 : ¬ (0 ≤ i ∧ i < 65536) := fun h => hI (okI_iff.2 h)
        omega
      obtain rfl : e = 1 := by
        rw [← he.out]; unfold errV
        rw [if_neg hI]
      clear he
      clear hI
      have hw := St.start w
      have hk1 := Rd.sl1 _ hs
      go_enter Tryz.func247, Tryz.ntmps247
      go_wp2_with (first
        | (refine wpl_box_v (v := val3 v) rfl hw ?_; clear hw; intro g1 w1 hw))
      go_ret
      exact ⟨rfl, hw.made_grew⟩
theorem build_nl (T : Nat) (w : World) : (Instr.build 441 #[(0, .pointer (some ⟨T, 0, none⟩))]).run Tryz.prog w = .ok (.agg #[.pointer (some ⟨T, 0, none⟩)]) w := by kernel_rfl
theorem kept_c {w0 w : World} {L : List As} (hs : St w0 L w) {a kd : Int} (h1 : 1 ≤ a) (h2 : a ≤ 4) (hk : a = 4 → kd = 3) :
    Calls Tryz.prog 296 #[.int .i64 a] w fun e w' => ∃ t u, e = .returned (.iface t u) ∧ St w0 (PlB kd (.iface t u) [] (fun _ => V3.z) :: L) w' := by
  have ha : a = 1 ∨ a = 2 ∨ a = 3 ∨ a = 4 := by omega
  have h0 : ∀ a ∈ ([] : List Nat), a < 65536 := fun _ h => nomatch h
  clear h1 h2
  rcases ha with rfl | rfl | rfl | rfl
  · clear hk
    go_enter Tryz.func296, Tryz.ntmps296
    go_wp2_with (first
      | (go_at_call 330; refine dn_new.mono ?_; rintro e w ⟨D, rfl, hm⟩; replace hs := hs.made hm; clear hm))
    go_ret
    exact ⟨_, _, rfl, hs.pldn h0⟩
  · clear hk
    go_enter Tryz.func296, Tryz.ntmps296
    go_wp2_with (first
      | (go_at_call 331; refine (sp_new hs).mono ?_; clear hs; rintro e w ⟨D, T, rfl, hs⟩))
    go_ret
    exact ⟨_, _, rfl, hs.plsp h0 fun i => by unfold getV getG memS; rfl⟩
  · clear hk
    go_enter Tryz.func296, Tryz.ntmps296
    go_wp2_with (first
      | (go_at_call 332; refine ht_new.mono ?_; rintro e w ⟨D, rfl, hm⟩; replace hs := hs.made hm; clear hm))
    go_ret
    exact ⟨_, _, rfl, hs.plht h0⟩
  · obtain rfl := hk rfl
    clear hk
    go_enter Tryz.func296, Tryz.ntmps296
    go_wp2_with (first
      | (go_at_call 242; refine (new_nil hs).mono ?_; clear hs; rintro e w ⟨T, rfl, hs⟩)
      | (refine wpl_buildS (build_nl T) rfl ?_))
    go_ret
    exact ⟨_, _, rfl, hs.plnl h0 fun _ h => nomatch h⟩
/-- A Slot that is new. -/
def newSl (d : V3) (v : Value) (F : Option Nat) : SlS := ⟨d, [], fun _ => V3.z, F, [], [], v⟩
theorem build_sl (ty : TypeId) (u : Value) (d : V3) (M : Nat) (w : World) : (Instr.build 365 #[(0, .iface ty u), (1, val3 d), (2, .pointer (some ⟨M, 0, none⟩))]).run Tryz.prog w = .ok (.agg (slC (.iface ty u) d M none)) w := by kernel_rfl
theorem size_fp : (Tryz.prog.info? 363).map (·.size) = some 1 := by kernel_rfl
theorem Wr.sl5 {w0 : World} {X M : Nat} {v : Value} {d : V3} {F F' : Option Nat} {L : List As} {t : TypeId} : Wr w0 (YtcnbmfaicbkhcaaGreatDoor.blk X (slC v d M F) t :: L) ⟨X, 5, none⟩ (fpV F') (YtcnbmfaicbkhcaaGreatDoor.blk X (slC v d M F') t :: L) := Wr.blk (by simp [slC])
theorem sl_new_no {w : World} (d : V3) {e : Int} (he : Hid (descE d = e)) (h0 : e ≠ 0) :
    Calls Tryz.prog 244 #[val3 d] w fun r w' => r = .returned (.tuple #[.pointer none, .int .i64 e]) ∧ Grew w w' := by
  have hw := St.start w
  have d0 : (e == 0) = false := by simpa using h0
  go_enter Tryz.func244, Tryz.ntmps244
  go_upto_region 1 with (first
    | (refine wpl_box_v (v := val3 d) rfl hw ?_; clear hw; intro g1 w1 hw))
  obtain ⟨c0, c1, c2⟩ := (has3_slot (w0 := w) (L := []) (g := g1) (v := d) (t := 120)).facts hw
  go_wp2_with (first
    | (go_at_call 295; refine (scheck_c d he).mono ?_; rintro r w3 ⟨rfl, hg⟩; replace hw := hw.grew hg; clear hg))
  go_ret2
  exact ⟨rfl, hw.made_grew⟩
theorem sl_new {w0 w : World} {L : List As} (hs : St w0 L w) (d : V3) (he : Hid (descE d = 0)) :
    Calls Tryz.prog 244 #[val3 d] w fun r w' => ∃ X v F, r = .returned (.tuple #[.pointer (some ⟨X, 0, none⟩), .int .i64 0]) ∧ St w0 (SlB X (newSl d v F) :: L) w' := by
  have hde : (1 ≤ d.a ∧ d.a ≤ 4) ∧ (d.a = 4 → d.k = 3) ∧ 0 ≤ d.b ∧ d.b ≤ 1000 := by
    have h := he.out
    unfold descE at h
    by_cases h1 : 1 ≤ d.k ∧ d.k ≤ 3 ∧ 1 ≤ d.a ∧ d.a ≤ 4 ∧ 0 ≤ d.b ∧ d.b ≤ 1000
    · rw [if_pos h1] at h
      by_cases h2 : d.a = 4 ∧ d.k ≠ 3
      · rw [if_pos h2] at h; cases h
      · exact ⟨⟨h1.2.2.1, h1.2.2.2.1⟩, fun h3 => by omega, h1.2.2.2.2.1, h1.2.2.2.2.2⟩
    · rw [if_neg h1] at h; cases h
  obtain ⟨⟨ha1, ha2⟩, hak, hb1, hb2⟩ := hde
  have HK := Lib.hid (fun (w : World) (L : List As) (hs : St w0 L w) => kept_c hs ha1 ha2 hak)
  clear ha1 ha2 hak
  go_enter Tryz.func244, Tryz.ntmps244
  go_upto_region 1 with (first
    | (refine wpl_box_v (v := val3 d) rfl hs ?_; clear hs; intro g1 w hs))
  replace hs : St w0 (blk g1 (c3 d).toArray 120 :: L) w := hs
  have hr3 := has3_slot (w0 := w0) (L := []) (g := g1) (v := d) (t := 120)
  obtain ⟨c0, c1, c2⟩ := hr3.facts hs.only
  go_upto_region 4 with (first
    | (go_at_call 295; refine (scheck_c d he).mono ?_; rintro r w3 ⟨rfl, hg⟩; replace hs := hs.grew hg; clear hg c0 c1 c2))
  refine wp_region_plain [false, false, true, false, true, true, true, true] hs.only (by kernel_rfl) (by kernel_rfl) fun hne => ?_
  have c0 := (hr3 0 _ rfl).alln
  have c1 := (hr3 1 _ rfl).alln
  have c2 := (hr3 2 _ rfl).alln
  simp only [pickOps]
  repeat (go_big_quiet_step (fail))
  refine wpQuiet_nil ?_
  clear hne c0 c1 c2
  simp only [chainIx]
  refine wpChainP_next rfl ?_
  replace hs := hs.drew
  go_wp2_with (first
    | (go_at_call 296; refine (HK.out _ _ hs).mono ?_; clear hs; rintro r w ⟨tv, uv, rfl, hs⟩))
  refine ⟨hs.drop.only, ?_⟩
  refine wpChainP_next rfl ?_
  go_wp2_with (first
    | (go_at_call 242; refine (new_nil hs).mono ?_; clear hs; rintro r w ⟨M, rfl, hs⟩))
  refine ⟨hs.drop.drop.only, ?_⟩
  refine wpChainP_next rfl ?_
  refine wpl_buildS (build_sl tv uv d M) rfl ?_
  refine wpList_nil ⟨rfl, hs.drop.drop.only, ?_⟩
  refine wpChainP_next rfl ?_
  refine wpl_box_v (v := .agg (slC (.iface tv uv) d M none)) rfl hs ?_
  clear hs
  intro X w hs
  replace hs : St w0 (blk X (slC (.iface tv uv) d M none) 365 :: HSet M [] :: PlB d.k (.iface tv uv) [] (fun _ => V3.z) :: blk g1 (c3 d).toArray 120 :: L) w := hs
  refine wpList_nil ⟨rfl, hs.drop.drop.drop.only, ?_⟩
  refine wpChain_last rfl ?_
  have c2 : w.cell? ⟨g1, 2, none⟩ = some (.int .i64 d.b) := (hr3 2 _ rfl) _ hs.drop.drop.drop.only
  by_cases hb : 0 < d.b
  · have HF : Hid (∀ w, Calls Tryz.prog 297 #[.int .i64 d.b] w fun e w' => ∃ F, e = .returned (.tuple #[.pointer (some ⟨F, 0, none⟩), .int .i64 0]) ∧ St w [FlB F d.b.toNat [] []] w') := fun w => by
      obtain ⟨n, hn⟩ := Int.eq_ofNat_of_zero_le hb1
      rw [hn]
      exact fl_new (by omega) (by omega)
    go_wp2_with (first
      | (go_at_call 297; refine (HF.out _).mono ?_; rintro r w ⟨F, rfl, hm⟩; replace hs := hs.made hm; clear hm c2)
      | (refine wpl_store (v := .pointer (some ⟨F, 0, none⟩)) rfl rfl rfl size_fp hs.rot (Wr.sl5 (F' := some F)) ?_; clear hs; intro w hs))
    go_ret2
    refine ⟨X, .iface tv uv, some F, rfl, ?_⟩
    refine St.slshut (s := newSl d (.iface tv uv) (some F)) (M := M) ⟨he.out, (decide_eq_true (show 0 < d.b by omega)).symm⟩ ?_
    exact (hs.ent (M := blk X (slC (.iface tv uv) d M (some F)) 365 :: PlB d.k (.iface tv uv) [] (fun _ => V3.z) :: HSet M [] :: FlB F d.b.toNat [] [] :: blk g1 (c3 d).toArray 120 :: L) (by (repeat first | exact Ent.refl _ | refine Ent.step (by repeat first | exact Ent.refl _ | apply Ent.skip) ?_))).up4.drop
  · go_wp2
    go_ret2
    refine ⟨X, .iface tv uv, none, rfl, ?_⟩
    refine St.slshut (s := newSl d (.iface tv uv) none) (M := M) ⟨he.out, (decide_eq_false (show ¬ 0 < d.b by omega)).symm⟩ ?_
    have hs2 := hs.up3.drop
    have hs3 : St w0 (FlP none d.b [] [] :: blk X (slC (.iface tv uv) d M none) 365 :: HSet M [] :: PlB d.k (.iface tv uv) [] (fun _ => V3.z) :: L) w := hs2.ent fun _ h => star_mono (fun _ he => ⟨⟨rfl, rfl⟩, he⟩) (fun _ x => x) (emp_star h)
    exact hs3.ent (M := blk X (slC (.iface tv uv) d M none) 365 :: PlB d.k (.iface tv uv) [] (fun _ => V3.z) :: HSet M [] :: FlP none d.b [] [] :: L) (by (repeat first | exact Ent.refl _ | refine Ent.step (by repeat first | exact Ent.refl _ | apply Ent.skip) ?_))
end Go.Proofs.YtcnbmfaicbkhcaaGreatDoor

/-
  One kind of place behind another (slot.Slot), 3: Put. (Printed by gen_put.py.)
-/
set_option maxRecDepth 100000
namespace Go.Proofs.YtcnbmfaicbkhcaaGreatDoor
open Go Go.RowKit
attribute [local irreducible] wpList Calls Code.wp okI okN pS tS memS getG pG insS delS getV pV tV okVal errV ntE

theorem scheck_v {w0 w : World} {L : List As} {X M : Nat} {v0 : Value} {d : V3} {F : Option Nat} (hs : St w0 (blk X (slC v0 d M F) 365 :: L) w) {i : Int} {v : V3} {e : Int} (he : Hid (errV d.k i v = e)) :
    Calls Tryz.prog 247 #[.pointer (some ⟨X, 0, none⟩), .int .i64 i, val3 v] w fun r w' => r = .returned (.int .i64 e) ∧ Grew w w' := scheck2_c hs i v he
set_option maxHeartbeats 4000000 in
theorem put_in {w0 w : World} {L : List As} {X M : Nat} {v0 : Value} {d : V3} {F : Option Nat} {S : List Nat} {g : Nat → V3} {evs : List Ev} {rds : List Nat} {bd : Int}
    (hs : St w0 (blk X (slC v0 d M F) 365 :: PlB d.k v0 S g :: HSet M S :: FlP F bd evs rds :: L) w) {i : Nat} (hi : i < 65536) {v u : V3} (hvk : v.k = d.k) (hok : okVal v = true) (hl : evs.length < 4611686018427387904)
    {b : Bool} {S' : List Nat} {g' : Nat → V3} (hu : Hid (getG S g (i : Nat) = u)) (hb : Hid (memS S (i : Nat) = b)) (hS : Hid (insS i S = S')) (hg : Hid (pG g (i : Nat) v = g')) {evs' : List Ev} (hev : Hid (ntE F evs (kdE b) (i : Nat) = evs')) :
    Calls Tryz.prog 181 #[.pointer (some ⟨X, 0, none⟩), .int .i64 (i : Nat), val3 v] w fun r w' => r = .returned (.tuple #[val3 u, .bool b, .int .i64 0]) ∧
      St w0 (blk X (slC v0 d M F) 365 :: PlB d.k v0 S' g' :: HSet M S' :: FlP F bd evs' rds :: L) w' := by
  have HE : Hid (errV d.k ((i : Nat) : Int) v = 0) := by
    rw [Hid]; unfold errV
    rw [if_pos (okI_iff.2 (by omega)), if_pos (by simp [hok, hvk])]
  have hi2 : i < 16777216 := by omega
  have HN := Lib.hid (fun (w : World) (L : List As) (k : Int) (h1 : 1 ≤ k) (h2 : k ≤ 3) (hs : St w0 (blk X (slC v0 d M F) 365 :: FlP F bd evs rds :: L) w) => sl_note (i := ((i : Nat) : Int)) hs h1 h2 (by omega) hl)
  have HP := Lib.hid (fun (w : World) (L : List As) (hs : St w0 (PlB d.k v0 S g :: L) w) => pl_put hs hi hvk hok hu hb hS hg)
  clear hl hvk hok
  go_enter Tryz.func181, Tryz.ntmps181
  go_upto_region 1 with (first
    | (refine wpl_box_v (v := val3 v) rfl hs ?_; clear hs; intro g5 w hs)
    | (refine wpl_alloc zero3 hs ?_; clear hs; intro g6 w hs))
  replace hs : St w0 (blk X (slC v0 d M F) 365 :: blk g5 (c3 v).toArray 41 :: PlB d.k v0 S g :: HSet M S :: FlP F bd evs rds :: blk g6 (c3 V3.z).toArray 41 :: L) w := hs.ent (by (repeat first | exact Ent.refl _ | refine Ent.step (by repeat first | exact Ent.refl _ | apply Ent.skip) ?_))
  have hv5 := (has3_tail (has3_slot (w0 := w0) (L := []) (g := g5) (v := v) (t := 41)) : Has3 w0 [blk X (slC v0 d M F) 365, blk g5 (c3 v).toArray 41] g5 v)
  go_upto_region 4 with (first
    | (refine wpl_load3 (v := v) rfl ?hh agg3 size3n hs.only2 ?_; case hh => exact hv5)
    | (go_at_call 247; refine (scheck_v hs HE).mono ?_; rintro r w3 ⟨rfl, hg2⟩; replace hs := hs.grew hg2; clear hg2))
  go_cut [10, 11] (fun p q wx => ∃ g10, p = .pointer (some ⟨g10, 0, none⟩) ∧ q = .bool b ∧ St w0 (blk X (slC v0 d M F) 365 :: blk g5 (c3 v).toArray 41 :: PlB d.k v0 S' g' :: blk g10 (c3 u).toArray 41 :: HSet M S :: FlP F bd evs rds :: blk g6 (c3 V3.z).toArray 41 :: L) wx)
  case first => as_aux_lemma =>
    refine wp_all_plain (n := 7) [false, false, false, false, false, false, true, true, true, true, true, true, true] hs.only2 (by kernel_rfl) (by kernel_rfl) (by kernel_rfl) fun hne => ?_
    have c0 := ((Rd.sl0 (w0 := w0) (X := X) (v := v0) (d := d) (M := M) (F := F) (L := [blk g5 (c3 v).toArray 41]) (t := 365))).alln
    have v0' := (hv5 0 _ rfl).alln
    have v1' := (hv5 1 _ rfl).alln
    have v2' := (hv5 2 _ rfl).alln
    simp only [Nat.zero_add] at v0' v1' v2'
    clear hv5
    simp only [pickOps]
    repeat (go_big_quiet_step (fail))
    refine wpQuiet_nil ?_
    clear hne c0 v0' v1' v2'
    replace hs := hs.drew
    clear HN HE hu hb hS hg
    refine wpAllP_next [6, 10] (by kernel_rfl) (fun c hc => ?_)
    simp only [List.mem_cons, List.not_mem_nil, or_false] at hc
    rcases hc with rfl | rfl
    · skip
      refine ⟨_, rfl, ?_⟩
      refine wpl_inv2 (v := v0) (v1 := .int .i64 ((i : Nat) : Int)) (v2 := val3 v) rfl rfl rfl (HP.out _ _ (hs.ent (M := PlB d.k v0 S g :: blk X (slC v0 d M F) 365 :: blk g5 (c3 v).toArray 41 :: HSet M S :: FlP F bd evs rds :: blk g6 (c3 V3.z).toArray 41 :: L) (by (repeat first | exact Ent.refl _ | refine Ent.step (by repeat first | exact Ent.refl _ | apply Ent.skip) ?_)))) ?_
      clear hs
      rintro r w ⟨rfl, hs⟩
      replace hs : St w0 (blk X (slC v0 d M F) 365 :: blk g5 (c3 v).toArray 41 :: PlB d.k v0 S' g' :: HSet M S :: FlP F bd evs rds :: blk g6 (c3 V3.z).toArray 41 :: L) w := hs.ent (by (repeat first | exact Ent.refl _ | refine Ent.step (by repeat first | exact Ent.refl _ | apply Ent.skip) ?_))
      refine wpList_nil ⟨rfl, hs.only2, ?_⟩
      refine wpAllP_next [7, 10] (by kernel_rfl) (fun c hc => ?_)
      simp only [List.mem_cons, List.not_mem_nil, or_false] at hc
      rcases hc with rfl | rfl
      · skip
        refine ⟨_, rfl, ?_⟩
        go_wp2
        refine ⟨hs.only2, ?_⟩
        refine wpAllP_next [8, 9, 10] (by kernel_rfl) (fun c hc => ?_)
        simp only [List.mem_cons, List.not_mem_nil, or_false] at hc
        rcases hc with rfl | rfl | rfl
        · skip
          refine ⟨_, rfl, ?_⟩
          go_wp2
          refine ⟨hs.only2, ?_⟩
          refine wpAllP_next [9, 10] (by kernel_rfl) (fun c hc => ?_)
          simp only [List.mem_cons, List.not_mem_nil, or_false] at hc
          rcases hc with rfl | rfl
          · skip
            refine ⟨_, rfl, ?_⟩
            go_wp2
            refine ⟨hs.only2, ?_⟩
            refine wpAllP_next [10] (by kernel_rfl) (fun c hc => ?_)
            simp only [List.mem_singleton] at hc
            subst hc
            refine ⟨_, rfl, ?_⟩
            refine wpl_alloc zero3 hs ?_
            clear hs
            intro g10 w hs
            replace hs : St w0 (blk g10 (c3 V3.z).toArray 41 :: blk X (slC v0 d M F) 365 :: blk g5 (c3 v).toArray 41 :: PlB d.k v0 S' g' :: HSet M S :: FlP F bd evs rds :: blk g6 (c3 V3.z).toArray 41 :: L) w := hs
            replace hs : St w0 (blk X (slC v0 d M F) 365 :: blk g5 (c3 v).toArray 41 :: PlB d.k v0 S' g' :: blk g10 (c3 V3.z).toArray 41 :: HSet M S :: FlP F bd evs rds :: blk g6 (c3 V3.z).toArray 41 :: L) w := hs.ent (by (repeat first | exact Ent.refl _ | refine Ent.step (by repeat first | exact Ent.refl _ | apply Ent.skip) ?_))
            refine wpList_nil ⟨rfl, hs.only2, ?_⟩
            refine wpAllP_next [11] (by kernel_rfl) (fun c hc => ?_)
            simp only [List.mem_singleton] at hc
            subst hc
            refine ⟨_, rfl, ?_⟩
            refine wpl_store_agg (v := val3 u) rfl rfl (size3 _) (hs.ent (M := blk g10 (c3 V3.z).toArray 41 :: blk X (slC v0 d M F) 365 :: blk g5 (c3 v).toArray 41 :: PlB d.k v0 S' g' :: HSet M S :: FlP F bd evs rds :: blk g6 (c3 V3.z).toArray 41 :: L) (by (repeat first | exact Ent.refl _ | refine Ent.step (by repeat first | exact Ent.refl _ | apply Ent.skip) ?_))) WrA.slot3 ?_
            clear hs
            intro w hs
            replace hs : St w0 (blk X (slC v0 d M F) 365 :: blk g5 (c3 v).toArray 41 :: PlB d.k v0 S' g' :: blk g10 (c3 u).toArray 41 :: HSet M S :: FlP F bd evs rds :: blk g6 (c3 V3.z).toArray 41 :: L) w := hs.ent (by (repeat first | exact Ent.refl _ | refine Ent.step (by repeat first | exact Ent.refl _ | apply Ent.skip) ?_))
            refine wpList_nil ⟨rfl, hs.only2, ?_⟩
            refine wpAll_last [12] (by kernel_rfl) (fun c hc => ?_)
            simp only [List.mem_singleton] at hc
            subst hc
            refine ⟨_, rfl, ?_⟩
            go_wp2
            go_meet
            exact ⟨_, rfl, rfl, hs⟩
          · skip
            refine ⟨_, rfl, ?_⟩
            refine wpl_alloc zero3 hs ?_
            clear hs
            intro g10 w hs
            replace hs : St w0 (blk g10 (c3 V3.z).toArray 41 :: blk X (slC v0 d M F) 365 :: blk g5 (c3 v).toArray 41 :: PlB d.k v0 S' g' :: HSet M S :: FlP F bd evs rds :: blk g6 (c3 V3.z).toArray 41 :: L) w := hs
            replace hs : St w0 (blk X (slC v0 d M F) 365 :: blk g5 (c3 v).toArray 41 :: PlB d.k v0 S' g' :: blk g10 (c3 V3.z).toArray 41 :: HSet M S :: FlP F bd evs rds :: blk g6 (c3 V3.z).toArray 41 :: L) w := hs.ent (by (repeat first | exact Ent.refl _ | refine Ent.step (by repeat first | exact Ent.refl _ | apply Ent.skip) ?_))
            refine wpList_nil ⟨rfl, hs.only2, ?_⟩
            refine wpAllP_next [9, 11] (by kernel_rfl) (fun c hc => ?_)
            simp only [List.mem_cons, List.not_mem_nil, or_false] at hc
            rcases hc with rfl | rfl
            · skip
              refine ⟨_, rfl, ?_⟩
              go_wp2
              refine ⟨hs.only2, ?_⟩
              refine wpAllP_next [11] (by kernel_rfl) (fun c hc => ?_)
              simp only [List.mem_singleton] at hc
              subst hc
              refine ⟨_, rfl, ?_⟩
              refine wpl_store_agg (v := val3 u) rfl rfl (size3 _) (hs.ent (M := blk g10 (c3 V3.z).toArray 41 :: blk X (slC v0 d M F) 365 :: blk g5 (c3 v).toArray 41 :: PlB d.k v0 S' g' :: HSet M S :: FlP F bd evs rds :: blk g6 (c3 V3.z).toArray 41 :: L) (by (repeat first | exact Ent.refl _ | refine Ent.step (by repeat first | exact Ent.refl _ | apply Ent.skip) ?_))) WrA.slot3 ?_
              clear hs
              intro w hs
              replace hs : St w0 (blk X (slC v0 d M F) 365 :: blk g5 (c3 v).toArray 41 :: PlB d.k v0 S' g' :: blk g10 (c3 u).toArray 41 :: HSet M S :: FlP F bd evs rds :: blk g6 (c3 V3.z).toArray 41 :: L) w := hs.ent (by (repeat first | exact Ent.refl _ | refine Ent.step (by repeat first | exact Ent.refl _ | apply Ent.skip) ?_))
              refine wpList_nil ⟨rfl, hs.only2, ?_⟩
              refine wpAll_last [12] (by kernel_rfl) (fun c hc => ?_)
              simp only [List.mem_singleton] at hc
              subst hc
              refine ⟨_, rfl, ?_⟩
              go_wp2
              go_meet
              exact ⟨_, rfl, rfl, hs⟩
            · skip
              refine ⟨_, rfl, ?_⟩
              refine wpl_store_agg (v := val3 u) rfl rfl (size3 _) (hs.ent (M := blk g10 (c3 V3.z).toArray 41 :: blk X (slC v0 d M F) 365 :: blk g5 (c3 v).toArray 41 :: PlB d.k v0 S' g' :: HSet M S :: FlP F bd evs rds :: blk g6 (c3 V3.z).toArray 41 :: L) (by (repeat first | exact Ent.refl _ | refine Ent.step (by repeat first | exact Ent.refl _ | apply Ent.skip) ?_))) WrA.slot3 ?_
              clear hs
              intro w hs
              replace hs : St w0 (blk X (slC v0 d M F) 365 :: blk g5 (c3 v).toArray 41 :: PlB d.k v0 S' g' :: blk g10 (c3 u).toArray 41 :: HSet M S :: FlP F bd evs rds :: blk g6 (c3 V3.z).toArray 41 :: L) w := hs.ent (by (repeat first | exact Ent.refl _ | refine Ent.step (by repeat first | exact Ent.refl _ | apply Ent.skip) ?_))
              refine wpList_nil ⟨rfl, hs.only2, ?_⟩
              refine wpAllP_next [9] (by kernel_rfl) (fun c hc => ?_)
              simp only [List.mem_singleton] at hc
              subst hc
              refine ⟨_, rfl, ?_⟩
              go_wp2
              refine ⟨hs.only2, ?_⟩
              refine wpAll_last [12] (by kernel_rfl) (fun c hc => ?_)
              simp only [List.mem_singleton] at hc
              subst hc
              refine ⟨_, rfl, ?_⟩
              go_wp2
              go_meet
              exact ⟨_, rfl, rfl, hs⟩
        · skip
          refine ⟨_, rfl, ?_⟩
          go_wp2
          refine ⟨hs.only2, ?_⟩
          refine wpAllP_next [8, 10] (by kernel_rfl) (fun c hc => ?_)
          simp only [List.mem_cons, List.not_mem_nil, or_false] at hc
          rcases hc with rfl | rfl
          · skip
            refine ⟨_, rfl, ?_⟩
            go_wp2
            refine ⟨hs.only2, ?_⟩
            refine wpAllP_next [10] (by kernel_rfl) (fun c hc => ?_)
            simp only [List.mem_singleton] at hc
            subst hc
            refine ⟨_, rfl, ?_⟩
            refine wpl_alloc zero3 hs ?_
            clear hs
            intro g10 w hs
            replace hs : St w0 (blk g10 (c3 V3.z).toArray 41 :: blk X (slC v0 d M F) 365 :: blk g5 (c3 v).toArray 41 :: PlB d.k v0 S' g' :: HSet M S :: FlP F bd evs rds :: blk g6 (c3 V3.z).toArray 41 :: L) w := hs
            replace hs : St w0 (blk X (slC v0 d M F) 365 :: blk g5 (c3 v).toArray 41 :: PlB d.k v0 S' g' :: blk g10 (c3 V3.z).toArray 41 :: HSet M S :: FlP F bd evs rds :: blk g6 (c3 V3.z).toArray 41 :: L) w := hs.ent (by (repeat first | exact Ent.refl _ | refine Ent.step (by repeat first | exact Ent.refl _ | apply Ent.skip) ?_))
            refine wpList_nil ⟨rfl, hs.only2, ?_⟩
            refine wpAllP_next [11] (by kernel_rfl) (fun c hc => ?_)
            simp only [List.mem_singleton] at hc
            subst hc
            refine ⟨_, rfl, ?_⟩
            refine wpl_store_agg (v := val3 u) rfl rfl (size3 _) (hs.ent (M := blk g10 (c3 V3.z).toArray 41 :: blk X (slC v0 d M F) 365 :: blk g5 (c3 v).toArray 41 :: PlB d.k v0 S' g' :: HSet M S :: FlP F bd evs rds :: blk g6 (c3 V3.z).toArray 41 :: L) (by (repeat first | exact Ent.refl _ | refine Ent.step (by repeat first | exact Ent.refl _ | apply Ent.skip) ?_))) WrA.slot3 ?_
            clear hs
            intro w hs
            replace hs : St w0 (blk X (slC v0 d M F) 365 :: blk g5 (c3 v).toArray 41 :: PlB d.k v0 S' g' :: blk g10 (c3 u).toArray 41 :: HSet M S :: FlP F bd evs rds :: blk g6 (c3 V3.z).toArray 41 :: L) w := hs.ent (by (repeat first | exact Ent.refl _ | refine Ent.step (by repeat first | exact Ent.refl _ | apply Ent.skip) ?_))
            refine wpList_nil ⟨rfl, hs.only2, ?_⟩
            refine wpAll_last [12] (by kernel_rfl) (fun c hc => ?_)
            simp only [List.mem_singleton] at hc
            subst hc
            refine ⟨_, rfl, ?_⟩
            go_wp2
            go_meet
            exact ⟨_, rfl, rfl, hs⟩
          · skip
            refine ⟨_, rfl, ?_⟩
            refine wpl_alloc zero3 hs ?_
            clear hs
            intro g10 w hs
            replace hs : St w0 (blk g10 (c3 V3.z).toArray 41 :: blk X (slC v0 d M F) 365 :: blk g5 (c3 v).toArray 41 :: PlB d.k v0 S' g' :: HSet M S :: FlP F bd evs rds :: blk g6 (c3 V3.z).toArray 41 :: L) w := hs
            replace hs : St w0 (blk X (slC v0 d M F) 365 :: blk g5 (c3 v).toArray 41 :: PlB d.k v0 S' g' :: blk g10 (c3 V3.z).toArray 41 :: HSet M S :: FlP F bd evs rds :: blk g6 (c3 V3.z).toArray 41 :: L) w := hs.ent (by (repeat first | exact Ent.refl _ | refine Ent.step (by repeat first | exact Ent.refl _ | apply Ent.skip) ?_))
            refine wpList_nil ⟨rfl, hs.only2, ?_⟩
            refine wpAllP_next [8] (by kernel_rfl) (fun c hc => ?_)
            simp only [List.mem_singleton] at hc
            subst hc
            refine ⟨_, rfl, ?_⟩
            go_wp2
            refine ⟨hs.only2, ?_⟩
            refine wpAllP_next [11] (by kernel_rfl) (fun c hc => ?_)
            simp only [List.mem_singleton] at hc
            subst hc
            refine ⟨_, rfl, ?_⟩
            refine wpl_store_agg (v := val3 u) rfl rfl (size3 _) (hs.ent (M := blk g10 (c3 V3.z).toArray 41 :: blk X (slC v0 d M F) 365 :: blk g5 (c3 v).toArray 41 :: PlB d.k v0 S' g' :: HSet M S :: FlP F bd evs rds :: blk g6 (c3 V3.z).toArray 41 :: L) (by (repeat first | exact Ent.refl _ | refine Ent.step (by repeat first | exact Ent.refl _ | apply Ent.skip) ?_))) WrA.slot3 ?_
            clear hs
            intro w hs
            replace hs : St w0 (blk X (slC v0 d M F) 365 :: blk g5 (c3 v).toArray 41 :: PlB d.k v0 S' g' :: blk g10 (c3 u).toArray 41 :: HSet M S :: FlP F bd evs rds :: blk g6 (c3 V3.z).toArray 41 :: L) w := hs.ent (by (repeat first | exact Ent.refl _ | refine Ent.step (by repeat first | exact Ent.refl _ | apply Ent.skip) ?_))
            refine wpList_nil ⟨rfl, hs.only2, ?_⟩
            refine wpAll_last [12] (by kernel_rfl) (fun c hc => ?_)
            simp only [List.mem_singleton] at hc
            subst hc
            refine ⟨_, rfl, ?_⟩
            go_wp2
            go_meet
            exact ⟨_, rfl, rfl, hs⟩
        · skip
          refine ⟨_, rfl, ?_⟩
          refine wpl_alloc zero3 hs ?_
          clear hs
          intro g10 w hs
          replace hs : St w0 (blk g10 (c3 V3.z).toArray 41 :: blk X (slC v0 d M F) 365 :: blk g5 (c3 v).toArray 41 :: PlB d.k v0 S' g' :: HSet M S :: FlP F bd evs rds :: blk g6 (c3 V3.z).toArray 41 :: L) w := hs
          replace hs : St w0 (blk X (slC v0 d M F) 365 :: blk g5 (c3 v).toArray 41 :: PlB d.k v0 S' g' :: blk g10 (c3 V3.z).toArray 41 :: HSet M S :: FlP F bd evs rds :: blk g6 (c3 V3.z).toArray 41 :: L) w := hs.ent (by (repeat first | exact Ent.refl _ | refine Ent.step (by repeat first | exact Ent.refl _ | apply Ent.skip) ?_))
          refine wpList_nil ⟨rfl, hs.only2, ?_⟩
          refine wpAllP_next [8, 9] (by kernel_rfl) (fun c hc => ?_)
          simp only [List.mem_cons, List.not_mem_nil, or_false] at hc
          rcases hc with rfl | rfl
          · skip
            refine ⟨_, rfl, ?_⟩
            go_wp2
            refine ⟨hs.only2, ?_⟩
            refine wpAllP_next [9, 11] (by kernel_rfl) (fun c hc => ?_)
            simp only [List.mem_cons, List.not_mem_nil, or_false] at hc
            rcases hc with rfl | rfl
            · skip
              refine ⟨_, rfl, ?_⟩
              go_wp2
              refine ⟨hs.only2, ?_⟩
              refine wpAllP_next [11] (by kernel_rfl) (fun c hc => ?_)
              simp only [List.mem_singleton] at hc
              subst hc
              refine ⟨_, rfl, ?_⟩
              refine wpl_store_agg (v := val3 u) rfl rfl (size3 _) (hs.ent (M := blk g10 (c3 V3.z).toArray 41 :: blk X (slC v0 d M F) 365 :: blk g5 (c3 v).toArray 41 :: PlB d.k v0 S' g' :: HSet M S :: FlP F bd evs rds :: blk g6 (c3 V3.z).toArray 41 :: L) (by (repeat first | exact Ent.refl _ | refine Ent.step (by repeat first | exact Ent.refl _ | apply Ent.skip) ?_))) WrA.slot3 ?_
              clear hs
              intro w hs
              replace hs : St w0 (blk X (slC v0 d M F) 365 :: blk g5 (c3 v).toArray 41 :: PlB d.k v0 S' g' :: blk g10 (c3 u).toArray 41 :: HSet M S :: FlP F bd evs rds :: blk g6 (c3 V3.z).toArray 41 :: L) w := hs.ent (by (repeat first | exact Ent.refl _ | refine Ent.step (by repeat first | exact Ent.refl _ | apply Ent.skip) ?_))
              refine wpList_nil ⟨rfl, hs.only2, ?_⟩
              refine wpAll_last [12] (by kernel_rfl) (fun c hc => ?_)
              simp only [List.mem_singleton] at hc
              subst hc
              refine ⟨_, rfl, ?_⟩
              go_wp2
              go_meet
              exact ⟨_, rfl, rfl, hs⟩
            · skip
              refine ⟨_, rfl, ?_⟩
              refine wpl_store_agg (v := val3 u) rfl rfl (size3 _) (hs.ent (M := blk g10 (c3 V3.z).toArray 41 :: blk X (slC v0 d M F) 365 :: blk g5 (c3 v).toArray 41 :: PlB d.k v0 S' g' :: HSet M S :: FlP F bd evs rds :: blk g6 (c3 V3.z).toArray 41 :: L) (by (repeat first | exact Ent.refl _ | refine Ent.step (by repeat first | exact Ent.refl _ | apply Ent.skip) ?_))) WrA.slot3 ?_
              clear hs
              intro w hs
              replace hs : St w0 (blk X (slC v0 d M F) 365 :: blk g5 (c3 v).toArray 41 :: PlB d.k v0 S' g' :: blk g10 (c3 u).toArray 41 :: HSet M S :: FlP F bd evs rds :: blk g6 (c3 V3.z).toArray 41 :: L) w := hs.ent (by (repeat first | exact Ent.refl _ | refine Ent.step (by repeat first | exact Ent.refl _ | apply Ent.skip) ?_))
              refine wpList_nil ⟨rfl, hs.only2, ?_⟩
              refine wpAllP_next [9] (by kernel_rfl) (fun c hc => ?_)
              simp only [List.mem_singleton] at hc
              subst hc
              refine ⟨_, rfl, ?_⟩
              go_wp2
              refine ⟨hs.only2, ?_⟩
              refine wpAll_last [12] (by kernel_rfl) (fun c hc => ?_)
              simp only [List.mem_singleton] at hc
              subst hc
              refine ⟨_, rfl, ?_⟩
              go_wp2
              go_meet
              exact ⟨_, rfl, rfl, hs⟩
          · skip
            refine ⟨_, rfl, ?_⟩
            go_wp2
            refine ⟨hs.only2, ?_⟩
            refine wpAllP_next [8] (by kernel_rfl) (fun c hc => ?_)
            simp only [List.mem_singleton] at hc
            subst hc
            refine ⟨_, rfl, ?_⟩
            go_wp2
            refine ⟨hs.only2, ?_⟩
            refine wpAllP_next [11] (by kernel_rfl) (fun c hc => ?_)
            simp only [List.mem_singleton] at hc
            subst hc
            refine ⟨_, rfl, ?_⟩
            refine wpl_store_agg (v := val3 u) rfl rfl (size3 _) (hs.ent (M := blk g10 (c3 V3.z).toArray 41 :: blk X (slC v0 d M F) 365 :: blk g5 (c3 v).toArray 41 :: PlB d.k v0 S' g' :: HSet M S :: FlP F bd evs rds :: blk g6 (c3 V3.z).toArray 41 :: L) (by (repeat first | exact Ent.refl _ | refine Ent.step (by repeat first | exact Ent.refl _ | apply Ent.skip) ?_))) WrA.slot3 ?_
            clear hs
            intro w hs
            replace hs : St w0 (blk X (slC v0 d M F) 365 :: blk g5 (c3 v).toArray 41 :: PlB d.k v0 S' g' :: blk g10 (c3 u).toArray 41 :: HSet M S :: FlP F bd evs rds :: blk g6 (c3 V3.z).toArray 41 :: L) w := hs.ent (by (repeat first | exact Ent.refl _ | refine Ent.step (by repeat first | exact Ent.refl _ | apply Ent.skip) ?_))
            refine wpList_nil ⟨rfl, hs.only2, ?_⟩
            refine wpAll_last [12] (by kernel_rfl) (fun c hc => ?_)
            simp only [List.mem_singleton] at hc
            subst hc
            refine ⟨_, rfl, ?_⟩
            go_wp2
            go_meet
            exact ⟨_, rfl, rfl, hs⟩
      · skip
        refine ⟨_, rfl, ?_⟩
        refine wpl_alloc zero3 hs ?_
        clear hs
        intro g10 w hs
        replace hs : St w0 (blk g10 (c3 V3.z).toArray 41 :: blk X (slC v0 d M F) 365 :: blk g5 (c3 v).toArray 41 :: PlB d.k v0 S' g' :: HSet M S :: FlP F bd evs rds :: blk g6 (c3 V3.z).toArray 41 :: L) w := hs
        replace hs : St w0 (blk X (slC v0 d M F) 365 :: blk g5 (c3 v).toArray 41 :: PlB d.k v0 S' g' :: blk g10 (c3 V3.z).toArray 41 :: HSet M S :: FlP F bd evs rds :: blk g6 (c3 V3.z).toArray 41 :: L) w := hs.ent (by (repeat first | exact Ent.refl _ | refine Ent.step (by repeat first | exact Ent.refl _ | apply Ent.skip) ?_))
        refine wpList_nil ⟨rfl, hs.only2, ?_⟩
        refine wpAllP_next [7] (by kernel_rfl) (fun c hc => ?_)
        simp only [List.mem_singleton] at hc
        subst hc
        refine ⟨_, rfl, ?_⟩
        go_wp2
        refine ⟨hs.only2, ?_⟩
        refine wpAllP_next [8, 9] (by kernel_rfl) (fun c hc => ?_)
        simp only [List.mem_cons, List.not_mem_nil, or_false] at hc
        rcases hc with rfl | rfl
        · skip
          refine ⟨_, rfl, ?_⟩
          go_wp2
          refine ⟨hs.only2, ?_⟩
          refine wpAllP_next [9, 11] (by kernel_rfl) (fun c hc => ?_)
          simp only [List.mem_cons, List.not_mem_nil, or_false] at hc
          rcases hc with rfl | rfl
          · skip
            refine ⟨_, rfl, ?_⟩
            go_wp2
            refine ⟨hs.only2, ?_⟩
            refine wpAllP_next [11] (by kernel_rfl) (fun c hc => ?_)
            simp only [List.mem_singleton] at hc
            subst hc
            refine ⟨_, rfl, ?_⟩
            refine wpl_store_agg (v := val3 u) rfl rfl (size3 _) (hs.ent (M := blk g10 (c3 V3.z).toArray 41 :: blk X (slC v0 d M F) 365 :: blk g5 (c3 v).toArray 41 :: PlB d.k v0 S' g' :: HSet M S :: FlP F bd evs rds :: blk g6 (c3 V3.z).toArray 41 :: L) (by (repeat first | exact Ent.refl _ | refine Ent.step (by repeat first | exact Ent.refl _ | apply Ent.skip) ?_))) WrA.slot3 ?_
            clear hs
            intro w hs
            replace hs : St w0 (blk X (slC v0 d M F) 365 :: blk g5 (c3 v).toArray 41 :: PlB d.k v0 S' g' :: blk g10 (c3 u).toArray 41 :: HSet M S :: FlP F bd evs rds :: blk g6 (c3 V3.z).toArray 41 :: L) w := hs.ent (by (repeat first | exact Ent.refl _ | refine Ent.step (by repeat first | exact Ent.refl _ | apply Ent.skip) ?_))
            refine wpList_nil ⟨rfl, hs.only2, ?_⟩
            refine wpAll_last [12] (by kernel_rfl) (fun c hc => ?_)
            simp only [List.mem_singleton] at hc
            subst hc
            refine ⟨_, rfl, ?_⟩
            go_wp2
            go_meet
            exact ⟨_, rfl, rfl, hs⟩
          · skip
            refine ⟨_, rfl, ?_⟩
            refine wpl_store_agg (v := val3 u) rfl rfl (size3 _) (hs.ent (M := blk g10 (c3 V3.z).toArray 41 :: blk X (slC v0 d M F) 365 :: blk g5 (c3 v).toArray 41 :: PlB d.k v0 S' g' :: HSet M S :: FlP F bd evs rds :: blk g6 (c3 V3.z).toArray 41 :: L) (by (repeat first | exact Ent.refl _ | refine Ent.step (by repeat first | exact Ent.refl _ | apply Ent.skip) ?_))) WrA.slot3 ?_
            clear hs
            intro w hs
            replace hs : St w0 (blk X (slC v0 d M F) 365 :: blk g5 (c3 v).toArray 41 :: PlB d.k v0 S' g' :: blk g10 (c3 u).toArray 41 :: HSet M S :: FlP F bd evs rds :: blk g6 (c3 V3.z).toArray 41 :: L) w := hs.ent (by (repeat first | exact Ent.refl _ | refine Ent.step (by repeat first | exact Ent.refl _ | apply Ent.skip) ?_))
            refine wpList_nil ⟨rfl, hs.only2, ?_⟩
            refine wpAllP_next [9] (by kernel_rfl) (fun c hc => ?_)
            simp only [List.mem_singleton] at hc
            subst hc
            refine ⟨_, rfl, ?_⟩
            go_wp2
            refine ⟨hs.only2, ?_⟩
            refine wpAll_last [12] (by kernel_rfl) (fun c hc => ?_)
            simp only [List.mem_singleton] at hc
            subst hc
            refine ⟨_, rfl, ?_⟩
            go_wp2
            go_meet
            exact ⟨_, rfl, rfl, hs⟩
        · skip
          refine ⟨_, rfl, ?_⟩
          go_wp2
          refine ⟨hs.only2, ?_⟩
          refine wpAllP_next [8] (by kernel_rfl) (fun c hc => ?_)
          simp only [List.mem_singleton] at hc
          subst hc
          refine ⟨_, rfl, ?_⟩
          go_wp2
          refine ⟨hs.only2, ?_⟩
          refine wpAllP_next [11] (by kernel_rfl) (fun c hc => ?_)
          simp only [List.mem_singleton] at hc
          subst hc
          refine ⟨_, rfl, ?_⟩
          refine wpl_store_agg (v := val3 u) rfl rfl (size3 _) (hs.ent (M := blk g10 (c3 V3.z).toArray 41 :: blk X (slC v0 d M F) 365 :: blk g5 (c3 v).toArray 41 :: PlB d.k v0 S' g' :: HSet M S :: FlP F bd evs rds :: blk g6 (c3 V3.z).toArray 41 :: L) (by (repeat first | exact Ent.refl _ | refine Ent.step (by repeat first | exact Ent.refl _ | apply Ent.skip) ?_))) WrA.slot3 ?_
          clear hs
          intro w hs
          replace hs : St w0 (blk X (slC v0 d M F) 365 :: blk g5 (c3 v).toArray 41 :: PlB d.k v0 S' g' :: blk g10 (c3 u).toArray 41 :: HSet M S :: FlP F bd evs rds :: blk g6 (c3 V3.z).toArray 41 :: L) w := hs.ent (by (repeat first | exact Ent.refl _ | refine Ent.step (by repeat first | exact Ent.refl _ | apply Ent.skip) ?_))
          refine wpList_nil ⟨rfl, hs.only2, ?_⟩
          refine wpAll_last [12] (by kernel_rfl) (fun c hc => ?_)
          simp only [List.mem_singleton] at hc
          subst hc
          refine ⟨_, rfl, ?_⟩
          go_wp2
          go_meet
          exact ⟨_, rfl, rfl, hs⟩
    · skip
      refine ⟨_, rfl, ?_⟩
      refine wpl_alloc zero3 hs ?_
      clear hs
      intro g10 w hs
      replace hs : St w0 (blk g10 (c3 V3.z).toArray 41 :: blk X (slC v0 d M F) 365 :: blk g5 (c3 v).toArray 41 :: PlB d.k v0 S g :: HSet M S :: FlP F bd evs rds :: blk g6 (c3 V3.z).toArray 41 :: L) w := hs
      replace hs : St w0 (blk X (slC v0 d M F) 365 :: blk g5 (c3 v).toArray 41 :: PlB d.k v0 S g :: blk g10 (c3 V3.z).toArray 41 :: HSet M S :: FlP F bd evs rds :: blk g6 (c3 V3.z).toArray 41 :: L) w := hs.ent (by (repeat first | exact Ent.refl _ | refine Ent.step (by repeat first | exact Ent.refl _ | apply Ent.skip) ?_))
      refine wpList_nil ⟨rfl, hs.only2, ?_⟩
      refine wpAllP_next [6] (by kernel_rfl) (fun c hc => ?_)
      simp only [List.mem_singleton] at hc
      subst hc
      refine ⟨_, rfl, ?_⟩
      refine wpl_inv2 (v := v0) (v1 := .int .i64 ((i : Nat) : Int)) (v2 := val3 v) rfl rfl rfl (HP.out _ _ (hs.ent (M := PlB d.k v0 S g :: blk X (slC v0 d M F) 365 :: blk g5 (c3 v).toArray 41 :: blk g10 (c3 V3.z).toArray 41 :: HSet M S :: FlP F bd evs rds :: blk g6 (c3 V3.z).toArray 41 :: L) (by (repeat first | exact Ent.refl _ | refine Ent.step (by repeat first | exact Ent.refl _ | apply Ent.skip) ?_)))) ?_
      clear hs
      rintro r w ⟨rfl, hs⟩
      replace hs : St w0 (blk X (slC v0 d M F) 365 :: blk g5 (c3 v).toArray 41 :: PlB d.k v0 S' g' :: blk g10 (c3 V3.z).toArray 41 :: HSet M S :: FlP F bd evs rds :: blk g6 (c3 V3.z).toArray 41 :: L) w := hs.ent (by (repeat first | exact Ent.refl _ | refine Ent.step (by repeat first | exact Ent.refl _ | apply Ent.skip) ?_))
      refine wpList_nil ⟨rfl, hs.only2, ?_⟩
      refine wpAllP_next [7] (by kernel_rfl) (fun c hc => ?_)
      simp only [List.mem_singleton] at hc
      subst hc
      refine ⟨_, rfl, ?_⟩
      go_wp2
      refine ⟨hs.only2, ?_⟩
      refine wpAllP_next [8, 9] (by kernel_rfl) (fun c hc => ?_)
      simp only [List.mem_cons, List.not_mem_nil, or_false] at hc
      rcases hc with rfl | rfl
      · skip
        refine ⟨_, rfl, ?_⟩
        go_wp2
        refine ⟨hs.only2, ?_⟩
        refine wpAllP_next [9, 11] (by kernel_rfl) (fun c hc => ?_)
        simp only [List.mem_cons, List.not_mem_nil, or_false] at hc
        rcases hc with rfl | rfl
        · skip
          refine ⟨_, rfl, ?_⟩
          go_wp2
          refine ⟨hs.only2, ?_⟩
          refine wpAllP_next [11] (by kernel_rfl) (fun c hc => ?_)
          simp only [List.mem_singleton] at hc
          subst hc
          refine ⟨_, rfl, ?_⟩
          refine wpl_store_agg (v := val3 u) rfl rfl (size3 _) (hs.ent (M := blk g10 (c3 V3.z).toArray 41 :: blk X (slC v0 d M F) 365 :: blk g5 (c3 v).toArray 41 :: PlB d.k v0 S' g' :: HSet M S :: FlP F bd evs rds :: blk g6 (c3 V3.z).toArray 41 :: L) (by (repeat first | exact Ent.refl _ | refine Ent.step (by repeat first | exact Ent.refl _ | apply Ent.skip) ?_))) WrA.slot3 ?_
          clear hs
          intro w hs
          replace hs : St w0 (blk X (slC v0 d M F) 365 :: blk g5 (c3 v).toArray 41 :: PlB d.k v0 S' g' :: blk g10 (c3 u).toArray 41 :: HSet M S :: FlP F bd evs rds :: blk g6 (c3 V3.z).toArray 41 :: L) w := hs.ent (by (repeat first | exact Ent.refl _ | refine Ent.step (by repeat first | exact Ent.refl _ | apply Ent.skip) ?_))
          refine wpList_nil ⟨rfl, hs.only2, ?_⟩
          refine wpAll_last [12] (by kernel_rfl) (fun c hc => ?_)
          simp only [List.mem_singleton] at hc
          subst hc
          refine ⟨_, rfl, ?_⟩
          go_wp2
          go_meet
          exact ⟨_, rfl, rfl, hs⟩
        · skip
          refine ⟨_, rfl, ?_⟩
          refine wpl_store_agg (v := val3 u) rfl rfl (size3 _) (hs.ent (M := blk g10 (c3 V3.z).toArray 41 :: blk X (slC v0 d M F) 365 :: blk g5 (c3 v).toArray 41 :: PlB d.k v0 S' g' :: HSet M S :: FlP F bd evs rds :: blk g6 (c3 V3.z).toArray 41 :: L) (by (repeat first | exact Ent.refl _ | refine Ent.step (by repeat first | exact Ent.refl _ | apply Ent.skip) ?_))) WrA.slot3 ?_
          clear hs
          intro w hs
          replace hs : St w0 (blk X (slC v0 d M F) 365 :: blk g5 (c3 v).toArray 41 :: PlB d.k v0 S' g' :: blk g10 (c3 u).toArray 41 :: HSet M S :: FlP F bd evs rds :: blk g6 (c3 V3.z).toArray 41 :: L) w := hs.ent (by (repeat first | exact Ent.refl _ | refine Ent.step (by repeat first | exact Ent.refl _ | apply Ent.skip) ?_))
          refine wpList_nil ⟨rfl, hs.only2, ?_⟩
          refine wpAllP_next [9] (by kernel_rfl) (fun c hc => ?_)
          simp only [List.mem_singleton] at hc
          subst hc
          refine ⟨_, rfl, ?_⟩
          go_wp2
          refine ⟨hs.only2, ?_⟩
          refine wpAll_last [12] (by kernel_rfl) (fun c hc => ?_)
          simp only [List.mem_singleton] at hc
          subst hc
          refine ⟨_, rfl, ?_⟩
          go_wp2
          go_meet
          exact ⟨_, rfl, rfl, hs⟩
      · skip
        refine ⟨_, rfl, ?_⟩
        go_wp2
        refine ⟨hs.only2, ?_⟩
        refine wpAllP_next [8] (by kernel_rfl) (fun c hc => ?_)
        simp only [List.mem_singleton] at hc
        subst hc
        refine ⟨_, rfl, ?_⟩
        go_wp2
        refine ⟨hs.only2, ?_⟩
        refine wpAllP_next [11] (by kernel_rfl) (fun c hc => ?_)
        simp only [List.mem_singleton] at hc
        subst hc
        refine ⟨_, rfl, ?_⟩
        refine wpl_store_agg (v := val3 u) rfl rfl (size3 _) (hs.ent (M := blk g10 (c3 V3.z).toArray 41 :: blk X (slC v0 d M F) 365 :: blk g5 (c3 v).toArray 41 :: PlB d.k v0 S' g' :: HSet M S :: FlP F bd evs rds :: blk g6 (c3 V3.z).toArray 41 :: L) (by (repeat first | exact Ent.refl _ | refine Ent.step (by repeat first | exact Ent.refl _ | apply Ent.skip) ?_))) WrA.slot3 ?_
        clear hs
        intro w hs
        replace hs : St w0 (blk X (slC v0 d M F) 365 :: blk g5 (c3 v).toArray 41 :: PlB d.k v0 S' g' :: blk g10 (c3 u).toArray 41 :: HSet M S :: FlP F bd evs rds :: blk g6 (c3 V3.z).toArray 41 :: L) w := hs.ent (by (repeat first | exact Ent.refl _ | refine Ent.step (by repeat first | exact Ent.refl _ | apply Ent.skip) ?_))
        refine wpList_nil ⟨rfl, hs.only2, ?_⟩
        refine wpAll_last [12] (by kernel_rfl) (fun c hc => ?_)
        simp only [List.mem_singleton] at hc
        subst hc
        refine ⟨_, rfl, ?_⟩
        go_wp2
        go_meet
        exact ⟨_, rfl, rfl, hs⟩
  case rest => as_aux_lemma =>
    obtain ⟨g10, rfl, rfl, hs⟩ := hcut
    have hr4 := fun L => Rd.sl4 (w0 := w0) (X := X) (v := v0) (d := d) (M := M) (F := F) (L := L) (t := 365)
    have hc4 := hr4 _ _ hs
    cases b
    · have hk0 : Hid (ntE F evs 1 ((i : Nat) : Int) = evs') := hev
      clear hev
      go_upto_region 9 with (first
        | (go_at_call 243; refine (add_any (hs.ent (M := HSet M S :: blk X (slC v0 d M F) 365 :: FlP F bd evs rds :: blk g5 (c3 v).toArray 41 :: PlB d.k v0 S' g' :: blk g10 (c3 u).toArray 41 :: blk g6 (c3 V3.z).toArray 41 :: L) (by (repeat first | exact Ent.refl _ | refine Ent.step (by repeat first | exact Ent.refl _ | apply Ent.skip) ?_))) i hi2 hS).mono ?_; clear hs hc4; rintro e w ⟨b', x', rfl, hs⟩)
        | (go_at_call 248; refine (HN.out _ _ _ (by decide) (by decide) (hs.ent (M := blk X (slC v0 d M F) 365 :: FlP F bd evs rds :: HSet M S' :: blk g5 (c3 v).toArray 41 :: PlB d.k v0 S' g' :: blk g10 (c3 u).toArray 41 :: blk g6 (c3 V3.z).toArray 41 :: L) (by (repeat first | exact Ent.refl _ | refine Ent.step (by repeat first | exact Ent.refl _ | apply Ent.skip) ?_)))).mono ?_; clear hs; rintro e w ⟨rfl, hs⟩; rw [hk0.out] at hs))
      replace hs : St w0 (blk g6 (c3 V3.z).toArray 41 :: blk g10 (c3 u).toArray 41 :: blk X (slC v0 d M F) 365 :: PlB d.k v0 S' g' :: HSet M S' :: FlP F bd evs' rds :: blk g5 (c3 v).toArray 41 :: L) w := hs.ent (by (repeat first | exact Ent.refl _ | refine Ent.step (by repeat first | exact Ent.refl _ | apply Ent.skip) ?_))
      go_wp2_with (first
        | (refine wpl_load3 (v := u) rfl ?hh agg3 size3n hs ?_; case hh => exact has3_tail has3_slot)
        | (refine wpl_store_agg (v := val3 u) rfl rfl (size3 _) hs WrA.slot3 ?_; clear hs; intro w hs))
      refine bodyPost_at (results_cell_tmp2 Tryz.results181 rfl (hs.slot_run agg3 (size3 _))) rfl ?_
      exact ⟨rfl, (hs.drop.drop.ent (M := blk X (slC v0 d M F) 365 :: PlB d.k v0 S' g' :: HSet M S' :: FlP F bd evs' rds :: blk g5 (c3 v).toArray 41 :: L) (by (repeat first | exact Ent.refl _ | refine Ent.step (by repeat first | exact Ent.refl _ | apply Ent.skip) ?_))).up4.drop⟩
    · have hk0 : Hid (ntE F evs 2 ((i : Nat) : Int) = evs') := hev
      clear hev
      go_upto_region 9 with (first
        | (go_at_call 243; refine (add_any (hs.ent (M := HSet M S :: blk X (slC v0 d M F) 365 :: FlP F bd evs rds :: blk g5 (c3 v).toArray 41 :: PlB d.k v0 S' g' :: blk g10 (c3 u).toArray 41 :: blk g6 (c3 V3.z).toArray 41 :: L) (by (repeat first | exact Ent.refl _ | refine Ent.step (by repeat first | exact Ent.refl _ | apply Ent.skip) ?_))) i hi2 hS).mono ?_; clear hs hc4; rintro e w ⟨b', x', rfl, hs⟩)
        | (go_at_call 248; refine (HN.out _ _ _ (by decide) (by decide) (hs.ent (M := blk X (slC v0 d M F) 365 :: FlP F bd evs rds :: HSet M S' :: blk g5 (c3 v).toArray 41 :: PlB d.k v0 S' g' :: blk g10 (c3 u).toArray 41 :: blk g6 (c3 V3.z).toArray 41 :: L) (by (repeat first | exact Ent.refl _ | refine Ent.step (by repeat first | exact Ent.refl _ | apply Ent.skip) ?_)))).mono ?_; clear hs; rintro e w ⟨rfl, hs⟩; rw [hk0.out] at hs))
      replace hs : St w0 (blk g6 (c3 V3.z).toArray 41 :: blk g10 (c3 u).toArray 41 :: blk X (slC v0 d M F) 365 :: PlB d.k v0 S' g' :: HSet M S' :: FlP F bd evs' rds :: blk g5 (c3 v).toArray 41 :: L) w := hs.ent (by (repeat first | exact Ent.refl _ | refine Ent.step (by repeat first | exact Ent.refl _ | apply Ent.skip) ?_))
      go_wp2_with (first
        | (refine wpl_load3 (v := u) rfl ?hh agg3 size3n hs ?_; case hh => exact has3_tail has3_slot)
        | (refine wpl_store_agg (v := val3 u) rfl rfl (size3 _) hs WrA.slot3 ?_; clear hs; intro w hs))
      refine bodyPost_at (results_cell_tmp2 Tryz.results181 rfl (hs.slot_run agg3 (size3 _))) rfl ?_
      exact ⟨rfl, (hs.drop.drop.ent (M := blk X (slC v0 d M F) 365 :: PlB d.k v0 S' g' :: HSet M S' :: FlP F bd evs' rds :: blk g5 (c3 v).toArray 41 :: L) (by (repeat first | exact Ent.refl _ | refine Ent.step (by repeat first | exact Ent.refl _ | apply Ent.skip) ?_))).up4.drop⟩
end Go.Proofs.YtcnbmfaicbkhcaaGreatDoor

/-
  One kind of place behind another (slot.Slot), 4: Put refused, Take, Set, Flag, Desc, Mask.
-/
set_option maxRecDepth 100000
namespace Go.Proofs.YtcnbmfaicbkhcaaGreatDoor
open Go Go.RowKit
attribute [local irreducible] wpList Calls Code.wp okI okN pS tS memS getG pG insS delS getV pV tV okVal errV ntE

theorem put_out {w0 w : World} {L : List As} {X M : Nat} {v0 : Value} {d : V3} {F : Option Nat} (hs : St w0 (blk X (slC v0 d M F) 365 :: L) w) {i : Int} {v : V3} {e : Int} (he : Hid (errV d.k i v = e)) (h0 : e ≠ 0) :
    Calls Tryz.prog 181 #[.pointer (some ⟨X, 0, none⟩), .int .i64 i, val3 v] w fun r w' => r = .returned (.tuple #[val3 V3.z, .bool false, .int .i64 e]) ∧ Grew w w' := by
  have d0 : (e == 0) = false := by simpa using h0
  have hw := St.start w
  have HC := Lib.hid (fun (w : World) (hs : St w0 (blk X (slC v0 d M F) 365 :: L) w) => scheck_v hs he)
  clear he
  go_enter Tryz.func181, Tryz.ntmps181
  go_upto_region 1 with (first
    | (refine wpl_box_v (v := val3 v) rfl hw ?_; clear hw; intro g5 w1 hw)
    | (refine wpl_alloc zero3 hw ?_; clear hw; intro g6 w1 hw))
  replace hw : St _ [blk g6 (c3 V3.z).toArray 41, blk g5 (c3 v).toArray 41] _ := hw
  go_wp2_with (first
    | (refine wpl_load3 (v := v) rfl ?hh agg3 size3n hw ?_; case hh => exact has3_tail has3_slot)
    | (go_at_call 247; refine (HC.out _ (hs.grew hw.made_grew)).mono ?_; rintro r w3 ⟨rfl, hg2⟩; replace hw := hw.grew hg2; clear hg2)
    | (refine wpl_store_agg (v := val3 V3.z) rfl rfl (size3 _) hw WrA.slot3 ?_; clear hw; intro w2 hw))
  refine bodyPost_at (results_cell_tmp2 Tryz.results181 rfl (hw.slot_run agg3 (size3 _))) rfl ?_
  exact ⟨rfl, hw.made_grew⟩
set_option maxHeartbeats 1000000 in
theorem take_c {w0 w : World} {L : List As} {X M : Nat} {v0 : Value} {d : V3} {F : Option Nat} {S : List Nat} {g : Nat → V3} {evs : List Ev} {rds : List Nat} {bd : Int}
    (hs : St w0 (blk X (slC v0 d M F) 365 :: PlB d.k v0 S g :: HSet M S :: FlP F bd evs rds :: L) w) {i : Int} (hi : (Lit.int .i64 i).wf = true) {u : V3} (hl : evs.length < 4611686018427387904)
    {b : Bool} {S' : List Nat} (hu : Hid (getG S g i = u)) (hb : Hid (memS S i = b)) (hS : Hid (tS S i = S')) {evs' : List Ev} (hev : Hid ((if b then ntE F evs 3 i else evs) = evs')) :
    Calls Tryz.prog 261 #[.pointer (some ⟨X, 0, none⟩), .int .i64 i] w fun r w' => r = .returned (.tuple #[val3 u, .bool b]) ∧
      St w0 (blk X (slC v0 d M F) 365 :: PlB d.k v0 S' g :: HSet M S' :: FlP F bd evs' rds :: L) w' := by
  have hsm := (hs.rot.plcases).1
  have HT := Lib.hid (fun (w : World) (L : List As) (hs : St w0 (PlB d.k v0 S g :: L) w) => pl_take hs hi hu hb hS)
  have HN := Lib.hid (fun (w : World) (L : List As) (h0 : 0 ≤ i) (hs : St w0 (blk X (slC v0 d M F) 365 :: FlP F bd evs rds :: L) w) => sl_note (k := 3) hs (by decide) (by decide) h0 hl)
  have HR : Hid (remS S i = S') := by rw [Hid, rem_tS hsm]; exact hS.out
  have hr0 := fun L => Rd.sl0 (w0 := w0) (X := X) (v := v0) (d := d) (M := M) (F := F) (L := L) (t := 365)
  have hr4 := fun L => Rd.sl4 (w0 := w0) (X := X) (v := v0) (d := d) (M := M) (F := F) (L := L) (t := 365)
  clear hsm hl
  go_enter Tryz.func261, Tryz.ntmps261
  go_upto_region 1 with (first
    | (refine wpl_alloc zero3 hs ?_; clear hs; intro g4 w hs))
  replace hs : St w0 (blk X (slC v0 d M F) 365 :: PlB d.k v0 S g :: HSet M S :: FlP F bd evs rds :: blk g4 (c3 V3.z).toArray 41 :: L) w := hs.ent (by (repeat first | exact Ent.refl _ | refine Ent.step (by repeat first | exact Ent.refl _ | apply Ent.skip) ?_))
  have hc := hr0 _ _ hs
  go_upto_region 2 with (first
    | (refine wpl_inv1 (v := v0) (v1 := .int .i64 i) rfl rfl (HT.out _ _ hs.rot) ?_; clear hs hc; rintro r w ⟨rfl, hs⟩)
    | (refine wpl_alloc zero3 hs ?_; clear hs; intro g6 w hs)
    | (refine wpl_store_agg (v := val3 u) rfl rfl (size3 _) hs WrA.slot3 ?_; clear hs; intro w hs))
  replace hs : St w0 (blk X (slC v0 d M F) 365 :: HSet M S :: FlP F bd evs rds :: blk g4 (c3 V3.z).toArray 41 :: blk g6 (c3 u).toArray 41 :: PlB d.k v0 S' g :: L) w := hs.ent (by (repeat first | exact Ent.refl _ | refine Ent.step (by repeat first | exact Ent.refl _ | apply Ent.skip) ?_))
  have hc := hr4 _ _ hs
  cases b
  · have hss : Hid (S = S') := by
      rw [Hid, ← hS.out]; unfold tS; rw [hb.out]; rfl
    obtain rfl : evs = evs' := hev.out
    rw [hss.out] at hs
    clear HT HN HR hS hss hb hu
    replace hs : St w0 (blk g4 (c3 V3.z).toArray 41 :: blk g6 (c3 u).toArray 41 :: blk X (slC v0 d M F) 365 :: PlB d.k v0 S' g :: HSet M S' :: FlP F bd evs rds :: L) w := hs.ent (by (repeat first | exact Ent.refl _ | refine Ent.step (by repeat first | exact Ent.refl _ | apply Ent.skip) ?_))
    go_wp2_with (first
      | (refine wpl_load3 (v := u) rfl ?hh agg3 size3n hs ?_; case hh => exact has3_tail has3_slot)
      | (refine wpl_store_agg (v := val3 u) rfl rfl (size3 _) hs WrA.slot3 ?_; clear hs; intro w hs))
    refine bodyPost_at (results_cell_tmp Tryz.results261 rfl (hs.slot_run agg3 (size3 _))) rfl ?_
    exact ⟨rfl, hs.drop.drop⟩
  · have hev2 : Hid (ntE F evs 3 i = evs') := hev.out
    have hi0 : 0 ≤ i := by
      obtain ⟨j, rfl, _⟩ := memS_in hb.out
      omega
    clear HT hev hb hu
    go_upto_region 5 with (first
      | (go_at_call 246; refine (remove_all hs.rot i HR).mono ?_; clear hs hc; rintro e w ⟨b', x', rfl, hs⟩)
      | (go_at_call 248; refine (HN.out _ _ hi0 (hs.ent (M := blk X (slC v0 d M F) 365 :: FlP F bd evs rds :: HSet M S' :: blk g4 (c3 V3.z).toArray 41 :: blk g6 (c3 u).toArray 41 :: PlB d.k v0 S' g :: L) (by (repeat first | exact Ent.refl _ | refine Ent.step (by repeat first | exact Ent.refl _ | apply Ent.skip) ?_)))).mono ?_; clear hs; rintro e w ⟨rfl, hs⟩; rw [hev2.out] at hs))
    replace hs : St w0 (blk g4 (c3 V3.z).toArray 41 :: blk g6 (c3 u).toArray 41 :: blk X (slC v0 d M F) 365 :: PlB d.k v0 S' g :: HSet M S' :: FlP F bd evs' rds :: L) w := hs.ent (by (repeat first | exact Ent.refl _ | refine Ent.step (by repeat first | exact Ent.refl _ | apply Ent.skip) ?_))
    go_wp2_with (first
      | (refine wpl_load3 (v := u) rfl ?hh agg3 size3n hs ?_; case hh => exact has3_tail has3_slot)
      | (refine wpl_store_agg (v := val3 u) rfl rfl (size3 _) hs WrA.slot3 ?_; clear hs; intro w hs))
    refine bodyPost_at (results_cell_tmp Tryz.results261 rfl (hs.slot_run agg3 (size3 _))) rfl ?_
    exact ⟨rfl, hs.drop.drop⟩
end Go.Proofs.YtcnbmfaicbkhcaaGreatDoor

/-
  One kind of place behind another (slot.Slot), 5: the contracts over the whole Slot.
-/
set_option maxRecDepth 100000
namespace Go.Proofs.YtcnbmfaicbkhcaaGreatDoor
open Go Go.RowKit
attribute [local irreducible] wpList Calls Code.wp okI okN pS tS memS getG pG insS delS getV pV tV okVal ntE

def SlS.putU (s : SlS) (i : Int) (v : V3) : V3 := if s.err i v = 0 then s.get i else V3.z
def SlS.putB (s : SlS) (i : Int) (v : V3) : Bool := decide (s.err i v = 0) && s.has i
section
variable (s : SlS) (i : Int) (v : V3)
theorem SlS.put_d : (s.put i v).d = s.d := by unfold SlS.put; split <;> rfl
theorem SlS.put_F : (s.put i v).F = s.F := by unfold SlS.put; split <;> rfl
theorem SlS.take_d : (s.take i).d = s.d := by unfold SlS.take; split <;> rfl
theorem SlS.take_F : (s.take i).F = s.F := by unfold SlS.take; split <;> rfl
theorem SlS.set_d : (s.set i v).d = s.d := by unfold SlS.set; split <;> rfl
theorem SlS.set_F : (s.set i v).F = s.F := by unfold SlS.set; split <;> rfl
theorem ntE_len (F : Option Nat) (evs : List Ev) (k i : Int) : (ntE F evs k i).length ≤ evs.length + 1 := by unfold ntE; split <;> simp
theorem SlS.put_len : (s.put i v).evs.length ≤ s.evs.length + 1 := by unfold SlS.put; split; exact ntE_len _ _ _ _; exact Nat.le_succ _
theorem SlS.take_len : (s.take i).evs.length ≤ s.evs.length + 1 := by unfold SlS.take; split; exact ntE_len _ _ _ _; exact Nat.le_succ _
theorem SlS.set_len : (s.set i v).evs.length ≤ s.evs.length + 1 := by unfold SlS.set; split; exact ntE_len _ _ _ _; exact Nat.le_succ _
variable {s i v}
theorem SlS.Ok.put (h : s.Ok) : (s.put i v).Ok := ⟨by rw [SlS.put_d]; exact h.desc, by rw [SlS.put_d, SlS.put_F]; exact h.flag⟩
theorem SlS.Ok.take (h : s.Ok) : (s.take i).Ok := ⟨by rw [SlS.take_d]; exact h.desc, by rw [SlS.take_d, SlS.take_F]; exact h.flag⟩
theorem SlS.Ok.set (h : s.Ok) : (s.set i v).Ok := ⟨by rw [SlS.set_d]; exact h.desc, by rw [SlS.set_d, SlS.set_F]; exact h.flag⟩
end
theorem err_zero {kd i : Int} {v : V3} (h : errV kd i v = 0) : (∃ j : Nat, i = (j : Nat) ∧ j < 65536) ∧ okVal v = true ∧ v.k = kd := by
  unfold errV at h
  split at h
  · rename_i h1
    have h2 := okI_iff.1 h1
    split at h
    · rename_i h3
      simp only [Bool.and_eq_true, beq_iff_eq] at h3
      obtain ⟨j, rfl⟩ := Int.eq_ofNat_of_zero_le h2.1
      exact ⟨⟨j, rfl, by omega⟩, h3.1, h3.2⟩
    · cases h
  · cases h
theorem sl_put {w0 w : World} {L : List As} {X : Nat} {s : SlS} (hs : St w0 (SlB X s :: L) w) {i : Int} {v : V3} (hl : s.evs.length < 4611686018427387904)
    {u : V3} {b : Bool} {e : Int} {s' : SlS} (hu : Hid (s.putU i v = u)) (hb : Hid (s.putB i v = b)) (he : Hid (s.err i v = e)) (hs' : Hid (s.put i v = s')) :
    Calls Tryz.prog 181 #[.pointer (some ⟨X, 0, none⟩), .int .i64 i, val3 v] w fun r w' => r = .returned (.tuple #[val3 u, .bool b, .int .i64 e]) ∧ St w0 (SlB X s' :: L) w' := by
  have he0 := he.out
  rw [← hu.out, ← hb.out, ← hs'.out]
  obtain ⟨hok, M, hs⟩ := hs.slopen
  by_cases h0 : e = 0
  · subst h0
    obtain ⟨⟨j, rfl, hj⟩, hvo, hvk⟩ := err_zero (kd := s.d.k) he0
    refine (put_in hs hj hvk hvo hl rfl rfl rfl rfl rfl).mono fun r w' ⟨h1, h2⟩ => ⟨?_, ?_⟩
    · rw [h1]; unfold SlS.putU SlS.putB; rw [if_pos he0, decide_eq_true he0]; rfl
    · have h3 := hok.put (i := ((j : Nat) : Int)) (v := v)
      have e1 : s.put ((j : Nat) : Int) v = { s with S := insS j s.S, g := pG s.g ((j : Nat) : Int) v, evs := s.noted (kdE (memS s.S ((j : Nat) : Int))) ((j : Nat) : Int) } := by
        unfold SlS.put; rw [if_pos he0, Int.toNat_natCast]
      rw [e1] at h3 ⊢
      exact h2.slshut h3
  · refine (put_out hs (e := e) he h0).mono fun r w' ⟨h1, h2⟩ => ⟨?_, ?_⟩
    · rw [h1]; unfold SlS.putU SlS.putB; rw [if_neg (by rw [he0]; exact h0), decide_eq_false (by rw [he0]; exact h0)]; rfl
    · have e1 : s.put i v = s := by unfold SlS.put; rw [if_neg (by rw [he0]; exact h0)]
      rw [e1]
      exact (hs.grew h2).slshut hok
theorem sl_take {w0 w : World} {L : List As} {X : Nat} {s : SlS} (hs : St w0 (SlB X s :: L) w) {i : Int} (hi : (Lit.int .i64 i).wf = true) (hl : s.evs.length < 4611686018427387904)
    {u : V3} {b : Bool} {s' : SlS} (hu : Hid (s.get i = u)) (hb : Hid (s.has i = b)) (hs' : Hid (s.take i = s')) :
    Calls Tryz.prog 261 #[.pointer (some ⟨X, 0, none⟩), .int .i64 i] w fun r w' => r = .returned (.tuple #[val3 u, .bool b]) ∧ St w0 (SlB X s' :: L) w' := by
  rw [← hs'.out]
  obtain ⟨hok, M, hs⟩ := hs.slopen
  refine (take_c hs hi hl hu hb rfl rfl).mono fun r w' ⟨h1, h2⟩ => ⟨h1, ?_⟩
  have h3 := hok.take (i := i)
  have hm : memS s.S i = b := hb.out
  cases b
  · have e1 : s.take i = s := by unfold SlS.take; rw [hm]; rfl
    have e2 : tS s.S i = s.S := by unfold tS; rw [hm]; rfl
    rw [e2] at h2
    rw [e1]
    exact h2.slshut hok
  · have e1 : s.take i = { s with S := tS s.S i, evs := s.noted 3 i } := by unfold SlS.take; rw [hm]; rfl
    rw [e1] at h3 ⊢
    exact h2.slshut h3
theorem size3D (v : V3) : (Tryz.prog.info? 120).map (·.size) = some (val3 v).cells.size := by kernel_rfl
theorem size3Dn {v : V3} : (Tryz.prog.info? 120).map (·.size) = some (c3 v).length := by kernel_rfl
theorem agg3D : aggB Tryz.prog 120 = true := by kernel_rfl
theorem zero3D : (Tryz.prog.info? 120).bind (·.zero) = some (val3 V3.z) := by kernel_rfl
theorem sl_desc {w0 w : World} {L : List As} {X : Nat} {s : SlS} (hs : St w0 (SlB X s :: L) w) :
    Calls Tryz.prog 252 #[.pointer (some ⟨X, 0, none⟩)] w fun r w' => r = .returned (val3 s.d) ∧ Grew w w' := by
  obtain ⟨hok, M, hs⟩ := hs.slopen
  have hw := St.start w
  have hr := Rd.slD (w0 := w0) (X := X) (M := M) (v := s.pv) (d := s.d) (F := s.F) (t := 365) (L := PlB s.d.k s.pv s.S s.g :: HSet M s.S :: FlP s.F s.d.b s.evs s.rds :: L)
  clear hok
  generalize s.d = d at hr hs ⊢
  go_enter Tryz.func252, Tryz.ntmps252
  go_wp2_with (first
    | (refine wpl_alloc zero3D hw ?_; clear hw; intro g2 w1 hw)
    | (refine wpl_load_agg (cs := c3 d) (b := X) (o := 1) rfl agg3D size3Dn (hs.grew hw.made_grew) hr ?_)
    | (refine wpl_store_agg (v := val3 d) rfl rfl (size3D _) hw WrA.slot3 ?_; clear hw; intro w2 hw))
  refine bodyPost_at (results_cell1 Tryz.results252 rfl (hw.slot_run agg3D (size3D _))) rfl ?_
  exact ⟨rfl, hw.made_grew⟩
/-- The place that a Slot holds: where it is read, what it answers. -/
theorem Rd.slp {w0 : World} {L : List As} {X : Nat} {s : SlS} : Rd w0 (SlB X s :: L) ⟨X, 0, none⟩ s.pv := fun w hs => by
  obtain ⟨hok, M, hs⟩ := hs.slopen
  exact Rd.sl0 _ hs
theorem sl_get {w0 w : World} {L : List As} {X : Nat} {s : SlS} (hs : St w0 (SlB X s :: L) w) {v : Value} (hv : Hid (s.pv = v)) {i : Int} (hi : (Lit.int .i64 i).wf = true) {u : V3} {b : Bool} (hu : Hid (s.get i = u)) (hb : Hid (s.has i = b)) :
    IvC v "Get" #[.int .i64 i] w fun r w' => r = .tuple #[val3 u, .bool b] ∧ Grew w w' := by
  obtain ⟨hok, M, hs⟩ := hs.slopen
  rw [← hv.out]
  exact pl_get hs.rot hi hu hb
theorem sl_mask {w0 w : World} {L : List As} {X : Nat} {s : SlS} (hs : St w0 (SlB X s :: L) w) :
    Calls Tryz.prog 188 #[.pointer (some ⟨X, 0, none⟩)] w fun r w' => ∃ T', r = .returned (.pointer (some ⟨T', 0, none⟩)) ∧ St w [HSet T' s.S] w' := by
  obtain ⟨hok, M, hs⟩ := hs.slopen
  have hc := Rd.sl4 _ hs
  have HC := Lib.hid (copy_h hs.up2)
  clear hok
  go_enter Tryz.func188, Tryz.ntmps188
  go_wp2_with (first
    | (go_at_call 256; refine HC.out.mono ?_; rintro r w' ⟨T', rfl, hm⟩))
  go_ret
  exact ⟨T', rfl, hm⟩
/-! ### The flag of a Slot -/
end Go.Proofs.YtcnbmfaicbkhcaaGreatDoor

/-
  One kind of place behind another: plain law of what is put, taken, changed. No function of the program stands here.
-/
set_option maxRecDepth 100000
namespace Go.Proofs.YtcnbmfaicbkhcaaGreatDoor
open Go Go.RowKit

section
variable {s : SlS} {i j : Int} {v w : V3}
theorem SlS.put_of (h : s.err i v = 0) : s.put i v = { s with S := insS i.toNat s.S, g := pG s.g i v, evs := s.noted (kdE (memS s.S i)) i } := by unfold SlS.put; rw [if_pos h]
theorem SlS.take_no (hm : s.has i = false) : s.take i = s := by unfold SlS.take; rw [show memS s.S i = false from hm]; rfl
end
/-- A Slot's state is in order. -/
structure SlS.Wf (s : SlS) : Prop where
  ok : s.Ok
  sorted : s.S.Pairwise (· < ·)
  small : ∀ a ∈ s.S, a < 65536
end Go.Proofs.YtcnbmfaicbkhcaaGreatDoor

/-
  The statements' own functions of layer 11: Desc, Value, awake; the document's DescMay.
-/
set_option maxRecDepth 100000
namespace Go.Proofs.YtcnbmfaicbkhcaaGreatDoor
open Go Go.RowKit
attribute [local irreducible] wpList Calls Code.wp okI okN pS tS memS getG pG insS delS getV pV tV okVal

def lo8 (z : Int) : Nat := (z % 256).toNat
def lo5 (z : Int) : Nat := (z % 32).toNat
/-- A Desc that may be, made of numbers. -/
def mkD (a b c : Int) : V3 := ⟨((lo8 a % 3 + 1 : Nat) : Int), if lo8 a % 3 = 2 ∧ bits .and .i64 b 768 = 0 then 4 else ((lo8 b % 3 + 1 : Nat) : Int), ((lo5 c - 10 : Nat) : Int)⟩
theorem Wr.c31 {w0 : World} {g : Nat} {k a b a' : Int} {L : List As} {t : TypeId} : Wr w0 (YtcnbmfaicbkhcaaGreatDoor.blk g (c3 ⟨k, a, b⟩).toArray t :: L) ⟨g, 1, none⟩ (.int .i64 a') (YtcnbmfaicbkhcaaGreatDoor.blk g (c3 ⟨k, a', b⟩).toArray t :: L) := Wr.blk (by simp [c3])
theorem Wr.c32 {w0 : World} {g : Nat} {k a b b' : Int} {L : List As} {t : TypeId} : Wr w0 (YtcnbmfaicbkhcaaGreatDoor.blk g (c3 ⟨k, a, b⟩).toArray t :: L) ⟨g, 2, none⟩ (.int .i64 b') (YtcnbmfaicbkhcaaGreatDoor.blk g (c3 ⟨k, a, b'⟩).toArray t :: L) := Wr.blk (by simp [c3])
/-- A value of a kind, made of two numbers. -/
def mkV (k a b : Int) : V3 := ⟨k, if k = 3 then 0 else a, if k = 2 then b else 0⟩
set_option maxHeartbeats 1000000 in
theorem lvalue_c {w : World} (k a b : Int) {v : V3} (hv : Hid (mkV k a b = v)) :
    Calls Tryz.prog 37 #[.int .i64 k, .int .i64 a, .int .i64 b] w fun r w' => r = .returned (val3 v) ∧ Grew w w' := by
  have hw := St.start w
  have hb := build3k k
  have hvv := hv.out
  unfold mkV at hvv
  clear hv
  by_cases h3 : k = 3
  · subst h3
    rw [if_pos rfl, if_neg (by decide)] at hvv
    subst hvv
    go_enter Tryz.func37, Tryz.ntmps37
    go_wp2_with (first
      | (refine wpl_alloc zero3 hw ?_; clear hw; intro g1 w1 hw)
      | (refine wpl_buildS hb rfl ?_)
      | (refine wpl_load3 (v := ⟨3, 0, 0⟩) rfl (has3_slot (t := 41)) agg3 size3n hw ?_)
      | (refine wpl_store_agg (v := val3 ⟨3, 0, 0⟩) rfl rfl (size3 _) hw WrA.slot3 ?_; clear hw; intro w2 hw; replace hw := hw)
      | (refine wpl_store_agg (v := val3 ⟨3, 0, 0⟩) rfl rfl (size3 _) hw.rot WrA.slot3 ?_; clear hw; intro w2 hw))
    refine bodyPost_at (results_cell1 Tryz.results37 rfl (hw.slot_run agg3 (size3 _))) rfl ?_
    exact ⟨rfl, hw.made_grew⟩
  · have d3 : (k == 3) = false := by simpa using h3
    rw [if_neg h3] at hvv
    by_cases h2 : k = 2
    · have d2 : (k == 2) = true := by simp [h2]
      rw [if_pos h2] at hvv
      clear h2 h3
      subst hvv
      go_enter Tryz.func37, Tryz.ntmps37
      go_upto_region 4 with (first
        | (refine wpl_alloc zero3 hw ?_; clear hw; intro g1 w1 hw)
        | (refine wpl_buildS hb rfl ?_)
        | (refine wpl_store_agg (v := val3 ⟨k, 0, 0⟩) rfl rfl (size3 _) hw WrA.slot3 ?_; clear hw; intro w2 hw)
        | (refine wpl_store rfl rfl rfl size8 hw (Wr.c31 (a' := a)) ?_; clear hw; intro w3 hw))
      go_wp2_with (first
        | (refine wpl_store rfl rfl rfl size8 hw (Wr.c32 (b' := b)) ?_; clear hw; intro w3 hw)
        | (refine wpl_load3 (v := ⟨k, a, b⟩) rfl (has3_slot (t := 41)) agg3 size3n hw ?_)
        | (refine wpl_store_agg (v := val3 ⟨k, a, b⟩) rfl rfl (size3 _) hw.rot WrA.slot3 ?_; clear hw; intro w2 hw))
      refine bodyPost_at (results_cell1 Tryz.results37 rfl (hw.slot_run agg3 (size3 _))) rfl ?_
      exact ⟨rfl, hw.made_grew⟩
    · have d2 : (k == 2) = false := by simpa using h2
      rw [if_neg h2] at hvv
      clear h2 h3
      subst hvv
      go_enter Tryz.func37, Tryz.ntmps37
      go_upto_region 4 with (first
        | (refine wpl_alloc zero3 hw ?_; clear hw; intro g1 w1 hw)
        | (refine wpl_buildS hb rfl ?_)
        | (refine wpl_store_agg (v := val3 ⟨k, 0, 0⟩) rfl rfl (size3 _) hw WrA.slot3 ?_; clear hw; intro w2 hw)
        | (refine wpl_store rfl rfl rfl size8 hw (Wr.c31 (a' := a)) ?_; clear hw; intro w3 hw))
      go_wp2_with (first
        | (refine wpl_load3 (v := ⟨k, a, 0⟩) rfl (has3_slot (t := 41)) agg3 size3n hw ?_)
        | (refine wpl_store_agg (v := val3 ⟨k, a, 0⟩) rfl rfl (size3 _) hw.rot WrA.slot3 ?_; clear hw; intro w2 hw))
      refine bodyPost_at (results_cell1 Tryz.results37 rfl (hw.slot_run agg3 (size3 _))) rfl ?_
      exact ⟨rfl, hw.made_grew⟩
end Go.Proofs.YtcnbmfaicbkhcaaGreatDoor

/-
  The statements' own functions of layer 11: awake.
-/
set_option maxRecDepth 100000
namespace Go.Proofs.YtcnbmfaicbkhcaaGreatDoor
open Go Go.RowKit
attribute [local irreducible] wpList Calls Code.wp okI okN pS tS memS getG pG insS delS getV pV tV okVal newSl SlS.put SlS.err SlS.putU SlS.putB
theorem one_pl : one1 Tryz.prog 362 = true := by kernel_rfl
theorem Rd.slp_v {w0 : World} {L : List As} {X : Nat} {s : SlS} {v : Value} (h : Hid (s.pv = v)) : Rd w0 (SlB X s :: L) ⟨X, 0, none⟩ v := by rw [← h.out]; exact Rd.slp
end Go.Proofs.YtcnbmfaicbkhcaaGreatDoor

/-
  SlotBounds: the walk.
-/
set_option maxRecDepth 100000
namespace Go.Proofs.YtcnbmfaicbkhcaaGreatDoor
open Go Go.RowKit
def LawPost (w0 : World) (e : Ending) (w' : World) : Prop := e = .returned (.bool true) ∧ St w0 [] w'
def lo3 (z : Int) : Nat := (z % 8).toNat
attribute [local irreducible] wpList Calls Code.wp okI okN pS tS memS getG pG insS delS getV pV tV okVal newSl SlS.put SlS.err SlS.putU SlS.putB descE
end Go.Proofs.YtcnbmfaicbkhcaaGreatDoor

/-
  The statements' own functions of layer 11: rows of calls; SameEvents of the document.
-/
set_option maxRecDepth 100000
namespace Go.Proofs.YtcnbmfaicbkhcaaGreatDoor
open Go Go.RowKit Go.ChangeShapes Go.WideShapes Go.Deep
/-- A call of a script. -/
structure OpS where
  k : Int
  i : Int
  v : V3
def c5o (o : OpS) : List Value := [.int .i64 o.k, .int .i64 o.i, .int .i64 o.v.k, .int .i64 o.v.a, .int .i64 o.v.b]
def Q5o (o : OpS) : Prop := (Lit.int .i64 o.i).wf = true
attribute [local irreducible] wpList Calls Code.wp
end Go.Proofs.YtcnbmfaicbkhcaaGreatDoor
