/-
  XJT: joined of XNl XIv XVl XPl.
-/
import Derived.Test.YtcnbmfaicbkhcaaGreatDoorJQ
import Derived.Test.YtcnbmfaicbkhcaaGreatDoorJA
import Derived.Test.YtcnbmfaicbkhcaaGreatDoorJR
import Derived.Test.YtcnbmfaicbkhcaaGreatDoorJS
/-
  The contracts of a place that keeps no values (null).
-/
set_option maxRecDepth 100000
namespace Go.Proofs.YtcnbmfaicbkhcaaGreatDoor
open Go Go.RowKit
attribute [local irreducible] wpList Calls Code.wp okI okN pS tS memS getG insS delS

def tagV : V3 := ⟨3, 0, 0⟩
theorem tag_c {w : World} : Calls Tryz.prog 411 #[] w fun e w' => e = .returned (val3 tagV) ∧ Grew w w' := by
  have hw := St.start w
  go_enter Tryz.func411, Tryz.ntmps411
  go_wp2_with (first
    | (refine wpl_alloc zero3 hw ?_; clear hw; intro g0 w1 hw)
    | (refine wpl_store_agg (v := val3 tagV) rfl rfl (size3 _) hw WrA.slot3 ?_; clear hw; intro w2 hw))
  refine bodyPost_at (results_cell1 Tryz.results411 rfl (hw.slot_run agg3 (size3 _))) rfl ?_
  exact ⟨rfl, hw.made_grew⟩
/-- What null has at an index. -/
def nlG (b : Bool) : V3 := if b then tagV else V3.z
theorem nl_get {w0 w : World} {L : List As} {T : Nat} {S : List Nat} (hs : St w0 (HSet T S :: L) w) {i : Int} {b : Bool} (hb : Hid (memS S i = b)) :
    Calls Tryz.prog 408 #[.agg #[.pointer (some ⟨T, 0, none⟩)], .int .i64 i] w fun e w' => e = .returned (.tuple #[val3 (nlG b), .bool b]) ∧ Grew w w' := by
  cases b
  all_goals
    go_enter Tryz.func408, Tryz.ntmps408
    have hw := St.start w
    go_wp2_with (first
      | (refine wpl_box_v (v := .agg #[.pointer (some ⟨T, 0, none⟩)]) rfl hw ?_; clear hw; intro g2 w1 hw; have hc := Rd.blk (k := 0) (v := .pointer (some ⟨T, 0, none⟩)) rfl w1 hw)
      | (refine wpl_alloc zero3 hw ?_; clear hw hc; intro g4 w2 hw; have hc := (Rd.blk (k := 0) (v := .pointer (some ⟨T, 0, none⟩)) rfl).tail w2 hw)
      | (go_at_call 69; refine (has_gv (hs.grew hw.made_grew) hb).mono ?_; clear hc; rintro e w3 ⟨rfl, hg⟩; replace hw := hw.grew hg; clear hg)
      | (go_at_call 411; refine tag_c.mono ?_; rintro e w3 ⟨rfl, hg⟩; replace hw := hw.grew hg; clear hg)
      | (refine wpl_store_agg (v := val3 tagV) rfl rfl (size3 _) hw WrA.slot3 ?_; clear hw; intro w4 hw)
      | (refine wpl_store_agg (v := val3 V3.z) rfl rfl (size3 _) hw WrA.slot3 ?_; clear hw; intro w4 hw))
    refine bodyPost_at (results_cell_tmp Tryz.results408 rfl (hw.slot_run agg3 (size3 _))) rfl ?_
    exact ⟨rfl, hw.made_grew⟩
theorem nl_put {w0 w : World} {L : List As} {T : Nat} {S : List Nat} (hs : St w0 (HSet T S :: L) w) {i : Nat} (hi : i < 65536) (v : V3) {b : Bool} (hb : Hid (memS S (i : Nat) = b)) {S' : List Nat} (hS : Hid (insS i S = S')) :
    Calls Tryz.prog 409 #[.agg #[.pointer (some ⟨T, 0, none⟩)], .int .i64 (i : Nat), val3 v] w fun e w' => e = .returned (.tuple #[val3 (nlG b), .bool b]) ∧ St w0 (HSet T S' :: L) w' := by
  have hi2 : i < 16777216 := by omega
  go_enter Tryz.func409, Tryz.ntmps409
  go_upto_region 1 with (first
    | (refine wpl_box_v (v := .agg #[.pointer (some ⟨T, 0, none⟩)]) rfl hs ?_; clear hs; intro g3 w hs)
    | (refine wpl_box_v (v := val3 v) rfl hs ?_; clear hs; intro g5 w hs)
    | (refine wpl_alloc zero3 hs ?_; clear hs; intro g6 w hs))
  replace hs : St w0 (HSet T S :: blk g3 #[.pointer (some ⟨T, 0, none⟩)] 441 :: blk g6 (c3 V3.z).toArray 41 :: L) w := (hs.rot.drop).ent (by (repeat first | exact Ent.refl _ | refine Ent.step (by repeat first | exact Ent.refl _ | apply Ent.skip) ?_))
  have hr3 := fun L => (Rd.blk (w0 := w0) (g := g3) (k := 0) (cs := #[.pointer (some ⟨T, 0, none⟩)]) (t := 441) (L := L) (v := .pointer (some ⟨T, 0, none⟩)) rfl).tail (p := HSet T S)
  have hc := hr3 _ _ hs
  go_upto_region 2 with (first
    | (go_at_call 408; refine (nl_get hs hb).mono ?_; rintro e w3 ⟨rfl, hg⟩; replace hs := hs.grew hg; clear hg hc)
    | (refine wpl_alloc zero3 hs ?_; clear hs; intro g8 w hs)
    | (refine wpl_store_agg (v := val3 (nlG b)) rfl rfl (size3 _) hs WrA.slot3 ?_; clear hs; intro w hs))
  replace hs := hs.rot.ent (Ent.cons _ (Ent.swap _ _ _))
  have hc := hr3 _ _ hs
  go_wp2_with (first
    | (go_at_call 243; refine (add_any hs i hi2 hS).mono ?_; clear hs hc; rintro e w ⟨b', x', rfl, hs⟩)
    | (refine wpl_load3 (v := nlG b) rfl ?hh agg3 size3n hs ?_; case hh => exact has3_tail (has3_tail has3_slot))
    | (refine wpl_store_agg (v := val3 (nlG b)) rfl rfl (size3 _) (hs.ent (Ent.skip (Ent.skip (Ent.skip (Ent.refl _))))) WrA.slot3 ?_; clear hs; intro w hs))
  refine bodyPost_at (results_cell_tmp Tryz.results409 rfl (hs.slot_run agg3 (size3 _))) rfl ?_
  exact ⟨rfl, ((hs.drop.rot.drop).rot.drop)⟩
theorem remove_all {w0 w : World} {L : List As} {T : Nat} {S : List Nat} (hs : St w0 (HSet T S :: L) w) (i : Int) {S' : List Nat} (hS : Hid (remS S i = S')) :
    Calls Tryz.prog 246 #[.pointer (some ⟨T, 0, none⟩), .int .i64 i] w fun e w' => ∃ b x, e = .returned (.tuple #[.bool b, .int .i64 x]) ∧ St w0 (HSet T S' :: L) w' :=
  (remove_h hs i).mono fun e w' ⟨h1, h2⟩ => ⟨_, _, h1, by rw [← hS.out]; exact h2⟩
theorem nl_take {w0 w : World} {L : List As} {T : Nat} {S : List Nat} (hs : St w0 (HSet T S :: L) w) {i : Int} {b : Bool} (hb : Hid (memS S i = b)) {S' : List Nat} (hS : Hid (remS S i = S')) :
    Calls Tryz.prog 410 #[.agg #[.pointer (some ⟨T, 0, none⟩)], .int .i64 i] w fun e w' => e = .returned (.tuple #[val3 (nlG b), .bool b]) ∧ St w0 (HSet T S' :: L) w' := by
  go_enter Tryz.func410, Tryz.ntmps410
  go_upto_region 1 with (first
    | (refine wpl_box_v (v := .agg #[.pointer (some ⟨T, 0, none⟩)]) rfl hs ?_; clear hs; intro g3 w hs)
    | (refine wpl_alloc zero3 hs ?_; clear hs; intro g6 w hs))
  replace hs : St w0 (HSet T S :: blk g3 #[.pointer (some ⟨T, 0, none⟩)] 441 :: blk g6 (c3 V3.z).toArray 41 :: L) w := hs.ent (by (repeat first | exact Ent.refl _ | refine Ent.step (by repeat first | exact Ent.refl _ | apply Ent.skip) ?_))
  have hr3 := fun L => (Rd.blk (w0 := w0) (g := g3) (k := 0) (cs := #[.pointer (some ⟨T, 0, none⟩)]) (t := 441) (L := L) (v := .pointer (some ⟨T, 0, none⟩)) rfl).tail (p := HSet T S)
  have hc := hr3 _ _ hs
  go_upto_region 2 with (first
    | (go_at_call 408; refine (nl_get hs hb).mono ?_; rintro e w3 ⟨rfl, hg⟩; replace hs := hs.grew hg; clear hg hc)
    | (refine wpl_alloc zero3 hs ?_; clear hs; intro g8 w hs)
    | (refine wpl_store_agg (v := val3 (nlG b)) rfl rfl (size3 _) hs WrA.slot3 ?_; clear hs; intro w hs))
  replace hs := hs.rot.ent (Ent.cons _ (Ent.swap _ _ _))
  have hc := hr3 _ _ hs
  go_wp2_with (first
    | (go_at_call 246; refine (remove_all hs i hS).mono ?_; clear hs hc; rintro e w ⟨b', x', rfl, hs⟩)
    | (refine wpl_load3 (v := nlG b) rfl ?hh agg3 size3n hs ?_; case hh => exact has3_tail (has3_tail has3_slot))
    | (refine wpl_store_agg (v := val3 (nlG b)) rfl rfl (size3 _) (hs.ent (Ent.skip (Ent.skip (Ent.skip (Ent.refl _))))) WrA.slot3 ?_; clear hs; intro w hs))
  refine bodyPost_at (results_cell_tmp Tryz.results410 rfl (hs.slot_run agg3 (size3 _))) rfl ?_
  exact ⟨rfl, ((hs.drop.rot.drop).rot.drop)⟩
end Go.Proofs.YtcnbmfaicbkhcaaGreatDoor

/-
  A call through an interface value, at the operation. No program stands here.
-/
set_option maxRecDepth 100000
namespace Go.Proofs.YtcnbmfaicbkhcaaGreatDoor
open Go Go.RowKit
section
variable {P : Program} {ops : Array Oper} {Q : Exit → Act → World → Prop} {a : Act} {w : World} {rest : List Oper} {dst : Option Tmp} {ty : TypeId} {pos : String} {after : Array Edge}
theorem wpl_invoke {x : Operand} {xs : Array Operand} {ts : Array TypeId} {name : String} {v : Value} {vs : Array Value} {f : FuncId} {r : Value} {R : Value → World → Prop} (hx : a.eval x = v) (hxs : xs.map a.eval = vs)
    (hm : (callMethod v name vs).run P w = .ok (.enter f (#[r] ++ vs)) w) (hc : Calls P f (#[r] ++ vs) w fun e w' => ∃ u, e = .returned u ∧ R u w')
    (next : ∀ u w', R u w' → wpList P ops Q rest (a.put dst u) w') : wpList P ops Q (⟨dst, .call { callee := .invoke x name, args := xs, argTypes := ts }, ty, pos, after, none⟩ :: rest) a w :=
  wpList_plain rfl fun K hK => by
    unfold Oper.wp execOp
    have e : (#[v] ++ vs).extract 1 (#[v] ++ vs).size = vs := by simp
    simp only [resolve, hx, hxs, Sem.run_bind, Sem.run_pure, Result.andThen_ok, invoke]
    have e0 : (#[v] ++ vs)[0]? = some v := by rw [Array.getElem?_append_left (by simp)]; rfl
    simp only [e0, e, hm, Oper.upon]
    refine hc.mono fun e' w' h => ?_
    obtain ⟨u, rfl, hR⟩ := h
    exact hK _ _ (next u w' hR)
end
end Go.Proofs.YtcnbmfaicbkhcaaGreatDoor

/-
  The contracts of what a value is (value.Ok, value.Zero).
-/
set_option maxRecDepth 100000
namespace Go.Proofs.YtcnbmfaicbkhcaaGreatDoor
open Go Go.RowKit
attribute [local irreducible] wpList Calls Code.wp

/-- Whether a value may be. -/
def okVal (v : V3) : Bool := if v.k = 1 then v.b == 0 else if v.k = 2 then true else if v.k = 3 then (v.a == 0 && v.b == 0) else false
theorem vok_c {w : World} (v : V3) : Calls Tryz.prog 299 #[val3 v] w fun e w' => e = .returned (.bool (okVal v)) ∧ Grew w w' := by
  have hw := St.start w
  obtain ⟨b, hb⟩ : ∃ b, Hid (okVal v = b) := ⟨_, rfl⟩
  rw [hb.out]
  by_cases h1 : v.k = 1
  · have e : Hid ((v.b == 0) = b) := by rw [Hid, ← hb.out]; unfold okVal; rw [if_pos h1]
    have d1 : (v.k == 1) = true := by simp [h1]
    clear h1 hb
    go_enter Tryz.func299, Tryz.ntmps299
    go_upto_region 1 with (first
      | (refine wpl_box_v (v := val3 v) rfl hw ?_; clear hw; intro g1 w1 hw))
    have hh := has3_slot (w0 := w) (L := []) (g := g1) (v := v) (t := 41)
    obtain ⟨c0, c1, c2⟩ := hh.facts hw
    go_wp2
    go_ret
    exact ⟨by rw [← e.out]; rfl, hw.made_grew⟩
  · have n1 : (v.k == 1) = false := by simp [h1]
    by_cases h2 : v.k = 2
    · have e : Hid (true = b) := by rw [Hid, ← hb.out]; unfold okVal; rw [if_neg h1, if_pos h2]
      have d2 : (v.k == 2) = true := by simp [h2]
      clear h1 h2 hb
      go_enter Tryz.func299, Tryz.ntmps299
      go_upto_region 1 with (first
        | (refine wpl_box_v (v := val3 v) rfl hw ?_; clear hw; intro g1 w1 hw))
      have hh := has3_slot (w0 := w) (L := []) (g := g1) (v := v) (t := 41)
      obtain ⟨c0, c1, c2⟩ := hh.facts hw
      go_wp2
      go_ret
      exact ⟨by rw [← e.out]; rfl, hw.made_grew⟩
    · have n2 : (v.k == 2) = false := by simp [h2]
      by_cases h3 : v.k = 3
      · have d3 : (v.k == 3) = true := by simp [h3]
        cases ha : (v.a == 0)
        · have e : Hid (false = b) := by rw [Hid, ← hb.out]; unfold okVal; rw [if_neg h1, if_neg h2, if_pos h3, ha]; rfl
          clear h1 h2 h3 hb
          go_enter Tryz.func299, Tryz.ntmps299
          go_upto_region 1 with (first
            | (refine wpl_box_v (v := val3 v) rfl hw ?_; clear hw; intro g1 w1 hw))
          have hh := has3_slot (w0 := w) (L := []) (g := g1) (v := v) (t := 41)
          obtain ⟨c0, c1, c2⟩ := hh.facts hw
          go_wp2
          go_ret
          exact ⟨by rw [← e.out]; rfl, hw.made_grew⟩
        · have e : Hid ((v.b == 0) = b) := by rw [Hid, ← hb.out]; unfold okVal; rw [if_neg h1, if_neg h2, if_pos h3, ha]; rfl
          clear h1 h2 h3 hb
          go_enter Tryz.func299, Tryz.ntmps299
          go_upto_region 1 with (first
            | (refine wpl_box_v (v := val3 v) rfl hw ?_; clear hw; intro g1 w1 hw))
          have hh := has3_slot (w0 := w) (L := []) (g := g1) (v := v) (t := 41)
          obtain ⟨c0, c1, c2⟩ := hh.facts hw
          go_wp2
          go_ret
          exact ⟨by rw [← e.out]; rfl, hw.made_grew⟩
      · have e : Hid (false = b) := by rw [Hid, ← hb.out]; unfold okVal; rw [if_neg h1, if_neg h2, if_neg h3]
        have n3 : (v.k == 3) = false := by simp [h3]
        clear h1 h2 h3 hb
        go_enter Tryz.func299, Tryz.ntmps299
        go_upto_region 1 with (first
          | (refine wpl_box_v (v := val3 v) rfl hw ?_; clear hw; intro g1 w1 hw))
        have hh := has3_slot (w0 := w) (L := []) (g := g1) (v := v) (t := 41)
        obtain ⟨c0, c1, c2⟩ := hh.facts hw
        go_wp2
        go_ret
        exact ⟨by rw [← e.out]; rfl, hw.made_grew⟩
end Go.Proofs.YtcnbmfaicbkhcaaGreatDoor

/-
  A place of a variant, whichever it is, behind an interface: its memory, and the contracts of the calls through it.
-/
set_option maxRecDepth 100000
namespace Go.Proofs.YtcnbmfaicbkhcaaGreatDoor
open Go Go.RowKit
attribute [local irreducible] wpList Calls Code.wp okI okN pS memS getG pG insS delS getV pV tV okVal

theorem rem_tS {S : List Nat} (h : ∀ a ∈ S, a < 65536) (i : Int) : remS S i = tS S i := by
  unfold remS tS
  cases hm : memS S i with
  | true =>
    obtain ⟨j, rfl, hj⟩ := memS_in hm
    have : okN ((j : Nat) : Int) = true := by unfold okN; exact decide_eq_true (by have := h j hj; omega)
    rw [this, if_pos rfl]
  | false =>
    by_cases hk : okN i = true
    · rw [hk]
      have h0 : 0 ≤ i := by unfold okN at hk; exact (of_decide_eq_true hk).1
      obtain ⟨j, rfl⟩ := Int.eq_ofNat_of_zero_le h0
      have hj : j ∉ S := fun hj => by rw [memS_iff.2 hj] at hm; cases hm
      rw [Int.toNat_natCast, del_id hj]
      simp
    · simp [hk]
theorem nlG_get {S : List Nat} {g : Nat → V3} (h : ∀ i ∈ S, g i = tagV) (i : Int) : nlG (memS S i) = getG S g i := by
  cases hm : memS S i with
  | true =>
    obtain ⟨j, rfl, hj⟩ := memS_in hm
    rw [getG_in hj, h j hj]; rfl
  | false => rw [getG_out hm]; rfl
theorem pS_nat {S : List Nat} {i : Nat} (h : i < 65536) : pS S (i : Nat) = insS i S := pS_in h
theorem okI_n {i : Nat} (h : i < 65536) : okI (i : Nat) = true := by unfold okI; exact decide_eq_true (by omega)
theorem small_ins {S : List Nat} (h : ∀ a ∈ S, a < 65536) {i : Nat} (hi : i < 65536) : ∀ a ∈ insS i S, a < 65536 := fun a ha => by
  rcases mem_insS.1 ha with rfl | ha
  · exact hi
  · exact h a ha
theorem small_tS {S : List Nat} (h : ∀ a ∈ S, a < 65536) (i : Int) : ∀ a ∈ tS S i, a < 65536 := fun a ha => by
  unfold tS at ha
  split at ha
  · exact h a (mem_delS.1 ha).1
  · exact h a ha
theorem getG_put {S : List Nat} {g : Nat → V3} {i : Nat} (v : V3) (j : Int) : getG (insS i S) (pG g (i : Nat) v) j = if j = (i : Nat) then v else getG S g j := by
  unfold getG
  by_cases e : j = (i : Nat)
  · subst e
    rw [memS_iff.2 (mem_insS.2 (.inl rfl))]
    simp [pG]
  · rw [if_neg e]
    have hm : memS (insS i S) j = memS S j := by
      rw [Bool.eq_iff_iff]
      constructor
      · intro h
        obtain ⟨k, rfl, hk⟩ := memS_in h
        rcases mem_insS.1 hk with rfl | hk
        · exact absurd rfl e
        · exact memS_iff.2 hk
      · intro h
        obtain ⟨k, rfl, hk⟩ := memS_in h
        exact memS_iff.2 (mem_insS.2 (.inr hk))
    rw [hm]
    cases hm2 : memS S j with
    | false => rfl
    | true =>
      obtain ⟨k, rfl, hk⟩ := memS_in hm2
      simp only [if_true, pG]
      rw [if_neg (by simpa using e)]
theorem getG_take {S : List Nat} {g : Nat → V3} (i j : Int) : getG (tS S i) g j = if j = i then V3.z else getG S g j := by
  unfold getG
  rw [mem_tS]
  by_cases e : j = i
  · simp [e]
  · simp [e]
/-- A place v of values of a kind. -/
def PlB (kd : Int) (v : Value) (S : List Nat) (g : Nat → V3) : As := fun h => (∀ a ∈ S, a < 65536) ∧
  ((∃ D, v = .iface 434 (.pointer (some ⟨D, 0, none⟩)) ∧ DnB D S g h) ∨
  (∃ D T vs, v = .iface 436 (.pointer (some ⟨D, 0, none⟩)) ∧ (∀ i, getV S vs i = getG S g i) ∧ SpB D T S vs h) ∨
  (∃ D, v = .iface 438 (.pointer (some ⟨D, 0, none⟩)) ∧ HtB D S g h) ∨
  (∃ T, v = .iface 441 (.agg #[.pointer (some ⟨T, 0, none⟩)]) ∧ kd = 3 ∧ (∀ i ∈ S, g i = tagV) ∧ HSet T S h))
theorem St.plcases {w0 w : World} {kd : Int} {v : Value} {S : List Nat} {g : Nat → V3} {L : List As} (hs : St w0 (PlB kd v S g :: L) w) : (∀ a ∈ S, a < 65536) ∧
    ((∃ D, v = .iface 434 (.pointer (some ⟨D, 0, none⟩)) ∧ St w0 (DnB D S g :: L) w) ∨
    (∃ D T vs, v = .iface 436 (.pointer (some ⟨D, 0, none⟩)) ∧ (∀ i, getV S vs i = getG S g i) ∧ St w0 (SpB D T S vs :: L) w) ∨
    (∃ D, v = .iface 438 (.pointer (some ⟨D, 0, none⟩)) ∧ St w0 (HtB D S g :: L) w) ∨
    (∃ T, v = .iface 441 (.agg #[.pointer (some ⟨T, 0, none⟩)]) ∧ kd = 3 ∧ (∀ i ∈ S, g i = tagV) ∧ St w0 (HSet T S :: L) w)) := by
  obtain ⟨hb, h, r, hd, hu, a, b, hab, rfl, ⟨hsm, hp⟩, hl⟩ := hs
  refine ⟨hsm, ?_⟩
  rcases hp with ⟨D, e, hx⟩ | ⟨D, T, vs, e, hv, hx⟩ | ⟨D, e, hx⟩ | ⟨T, e, hk, hg, hx⟩
  · exact .inl ⟨D, e, hb, _, r, hd, hu, a, b, hab, rfl, hx, hl⟩
  · exact .inr (.inl ⟨D, T, vs, e, hv, hb, _, r, hd, hu, a, b, hab, rfl, hx, hl⟩)
  · exact .inr (.inr (.inl ⟨D, e, hb, _, r, hd, hu, a, b, hab, rfl, hx, hl⟩))
  · exact .inr (.inr (.inr ⟨T, e, hk, hg, hb, _, r, hd, hu, a, b, hab, rfl, hx, hl⟩))
section
variable {w0 w : World} {L : List As} {kd : Int} {S : List Nat} {g : Nat → V3}
theorem St.pldn {D : Nat} (hsm : ∀ a ∈ S, a < 65536) (hs : St w0 (DnB D S g :: L) w) : St w0 (PlB kd (.iface 434 (.pointer (some ⟨D, 0, none⟩))) S g :: L) w := hs.conv fun _ h => ⟨hsm, .inl ⟨D, rfl, h⟩⟩
theorem St.plsp {D T : Nat} {vs : List V3} (hsm : ∀ a ∈ S, a < 65536) (hv : ∀ i, getV S vs i = getG S g i) (hs : St w0 (SpB D T S vs :: L) w) : St w0 (PlB kd (.iface 436 (.pointer (some ⟨D, 0, none⟩))) S g :: L) w := hs.conv fun _ h => ⟨hsm, .inr (.inl ⟨D, T, vs, rfl, hv, h⟩)⟩
theorem St.plht {D : Nat} (hsm : ∀ a ∈ S, a < 65536) (hs : St w0 (HtB D S g :: L) w) : St w0 (PlB kd (.iface 438 (.pointer (some ⟨D, 0, none⟩))) S g :: L) w := hs.conv fun _ h => ⟨hsm, .inr (.inr (.inl ⟨D, rfl, h⟩))⟩
theorem St.plnl {T : Nat} (hsm : ∀ a ∈ S, a < 65536) (hg : ∀ i ∈ S, g i = tagV) (hs : St w0 (HSet T S :: L) w) : St w0 (PlB 3 (.iface 441 (.agg #[.pointer (some ⟨T, 0, none⟩)])) S g :: L) w := hs.conv fun _ h => ⟨hsm, .inr (.inr (.inr ⟨T, rfl, rfl, hg, h⟩))⟩
end
/-- A call through an interface: which function it enters, and what comes of it. -/
def IvC (v : Value) (name : String) (vs : Array Value) (w : World) (R : Value → World → Prop) : Prop :=
  ∃ f r, (callMethod v name vs).run Tryz.prog w = .ok (.enter f (#[r] ++ vs)) w ∧ Calls Tryz.prog f (#[r] ++ vs) w fun e w' => ∃ u, e = .returned u ∧ R u w'
theorem IvC.of {v r : Value} {name : String} {vs : Array Value} {w : World} {f : FuncId} {R : Value → World → Prop} {R' : Ending → World → Prop} (hm : (callMethod v name vs).run Tryz.prog w = .ok (.enter f (#[r] ++ vs)) w) (hc : Calls Tryz.prog f (#[r] ++ vs) w R') (h : ∀ e w', R' e w' → ∃ u, e = .returned u ∧ R u w') : IvC v name vs w R :=
  ⟨f, r, hm, hc.mono h⟩
theorem wpl_inv {ops : Array Oper} {Q : Exit → Act → World → Prop} {a : Act} {w : World} {rest : List Oper} {dst : Option Tmp} {ty : TypeId} {pos : String} {after : Array Edge} {x : Operand} {xs : Array Operand} {ts : Array TypeId} {name : String} {v : Value} {vs : Array Value} {R : Value → World → Prop} (hx : a.eval x = v) (hxs : xs.map a.eval = vs)
    (h : IvC v name vs w R) (next : ∀ u w', R u w' → wpList Tryz.prog ops Q rest (a.put dst u) w') : wpList Tryz.prog ops Q (⟨dst, .call { callee := .invoke x name, args := xs, argTypes := ts }, ty, pos, after, none⟩ :: rest) a w := by
  obtain ⟨f, r, hm, hc⟩ := h
  exact wpl_invoke hx hxs hm hc next
section
variable {ops : Array Oper} {Q : Exit → Act → World → Prop} {a : Act} {w : World} {rest : List Oper} {dst : Option Tmp} {ty : TypeId} {pos : String} {after : Array Edge} {x : Operand} {ts : Array TypeId} {name : String} {v : Value} {R : Value → World → Prop}
theorem wpl_inv1 {x1 : Operand} {v1 : Value} (hx : a.eval x = v) (h1 : a.eval x1 = v1) (h : IvC v name #[v1] w R) (next : ∀ u w', R u w' → wpList Tryz.prog ops Q rest (a.put dst u) w') : wpList Tryz.prog ops Q (⟨dst, .call { callee := .invoke x name, args := #[x1], argTypes := ts }, ty, pos, after, none⟩ :: rest) a w :=
  wpl_inv hx (by simp [h1]) h next
theorem wpl_inv2 {x1 x2 : Operand} {v1 v2 : Value} (hx : a.eval x = v) (h1 : a.eval x1 = v1) (h2 : a.eval x2 = v2) (h : IvC v name #[v1, v2] w R) (next : ∀ u w', R u w' → wpList Tryz.prog ops Q rest (a.put dst u) w') : wpList Tryz.prog ops Q (⟨dst, .call { callee := .invoke x name, args := #[x1, x2], argTypes := ts }, ty, pos, after, none⟩ :: rest) a w :=
  wpl_inv hx (by simp [h1, h2]) h next
end
theorem hm_dnGet (D : Nat) (i : Int) (w : World) : (callMethod (.iface 434 (.pointer (some ⟨D, 0, none⟩))) "Get" #[.int .i64 i]).run Tryz.prog w = .ok (.enter 392 (#[.pointer (some ⟨D, 0, none⟩)] ++ #[.int .i64 i])) w := by kernel_rfl
theorem hm_dnTake (D : Nat) (i : Int) (w : World) : (callMethod (.iface 434 (.pointer (some ⟨D, 0, none⟩))) "Take" #[.int .i64 i]).run Tryz.prog w = .ok (.enter 395 (#[.pointer (some ⟨D, 0, none⟩)] ++ #[.int .i64 i])) w := by kernel_rfl
theorem hm_dnPut (D : Nat) (i : Int) (x : V3) (w : World) : (callMethod (.iface 434 (.pointer (some ⟨D, 0, none⟩))) "Put" #[.int .i64 i, val3 x]).run Tryz.prog w = .ok (.enter 394 (#[.pointer (some ⟨D, 0, none⟩)] ++ #[.int .i64 i, val3 x])) w := by kernel_rfl
theorem hm_spGet (D : Nat) (i : Int) (w : World) : (callMethod (.iface 436 (.pointer (some ⟨D, 0, none⟩))) "Get" #[.int .i64 i]).run Tryz.prog w = .ok (.enter 396 (#[.pointer (some ⟨D, 0, none⟩)] ++ #[.int .i64 i])) w := by kernel_rfl
theorem hm_spTake (D : Nat) (i : Int) (w : World) : (callMethod (.iface 436 (.pointer (some ⟨D, 0, none⟩))) "Take" #[.int .i64 i]).run Tryz.prog w = .ok (.enter 398 (#[.pointer (some ⟨D, 0, none⟩)] ++ #[.int .i64 i])) w := by kernel_rfl
theorem hm_spPut (D : Nat) (i : Int) (x : V3) (w : World) : (callMethod (.iface 436 (.pointer (some ⟨D, 0, none⟩))) "Put" #[.int .i64 i, val3 x]).run Tryz.prog w = .ok (.enter 397 (#[.pointer (some ⟨D, 0, none⟩)] ++ #[.int .i64 i, val3 x])) w := by kernel_rfl
theorem hm_htGet (D : Nat) (i : Int) (w : World) : (callMethod (.iface 438 (.pointer (some ⟨D, 0, none⟩))) "Get" #[.int .i64 i]).run Tryz.prog w = .ok (.enter 400 (#[.pointer (some ⟨D, 0, none⟩)] ++ #[.int .i64 i])) w := by kernel_rfl
theorem hm_htTake (D : Nat) (i : Int) (w : World) : (callMethod (.iface 438 (.pointer (some ⟨D, 0, none⟩))) "Take" #[.int .i64 i]).run Tryz.prog w = .ok (.enter 403 (#[.pointer (some ⟨D, 0, none⟩)] ++ #[.int .i64 i])) w := by kernel_rfl
theorem hm_htPut (D : Nat) (i : Int) (x : V3) (w : World) : (callMethod (.iface 438 (.pointer (some ⟨D, 0, none⟩))) "Put" #[.int .i64 i, val3 x]).run Tryz.prog w = .ok (.enter 402 (#[.pointer (some ⟨D, 0, none⟩)] ++ #[.int .i64 i, val3 x])) w := by kernel_rfl
theorem hm_nlGet (D : Nat) (i : Int) (w : World) : (callMethod (.iface 441 (.agg #[.pointer (some ⟨D, 0, none⟩)])) "Get" #[.int .i64 i]).run Tryz.prog w = .ok (.enter 408 (#[.agg #[.pointer (some ⟨D, 0, none⟩)]] ++ #[.int .i64 i])) w := by kernel_rfl
theorem hm_nlTake (D : Nat) (i : Int) (w : World) : (callMethod (.iface 441 (.agg #[.pointer (some ⟨D, 0, none⟩)])) "Take" #[.int .i64 i]).run Tryz.prog w = .ok (.enter 410 (#[.agg #[.pointer (some ⟨D, 0, none⟩)]] ++ #[.int .i64 i])) w := by kernel_rfl
theorem hm_nlPut (D : Nat) (i : Int) (x : V3) (w : World) : (callMethod (.iface 441 (.agg #[.pointer (some ⟨D, 0, none⟩)])) "Put" #[.int .i64 i, val3 x]).run Tryz.prog w = .ok (.enter 409 (#[.agg #[.pointer (some ⟨D, 0, none⟩)]] ++ #[.int .i64 i, val3 x])) w := by kernel_rfl
noncomputable def spInfo : TypeInfo := ((Tryz.prog.info? 436).getD default)
noncomputable def spRow : Method := ((spInfo.methods.find? (·.name == "Len")).getD default)
section
variable {w0 w : World} {L : List As} {kd : Int} {v : Value} {S : List Nat} {g : Nat → V3}
theorem pl_get (hs : St w0 (PlB kd v S g :: L) w) {i : Int} (hi : (Lit.int .i64 i).wf = true) {u : V3} {b : Bool} (hu : Hid (getG S g i = u)) (hb : Hid (memS S i = b)) :
    IvC v "Get" #[.int .i64 i] w fun r w' => r = .tuple #[val3 u, .bool b] ∧ Grew w w' := by
  rw [← hu.out, ← hb.out]
  obtain ⟨hsm, ⟨D, rfl, h0⟩ | ⟨D, T, vs, rfl, hv, h0⟩ | ⟨D, rfl, h0⟩ | ⟨T, rfl, _, hg, h0⟩⟩ := hs.plcases
  · exact .of (hm_dnGet D i w) (dn_get h0 i hi) fun e w' ⟨h1, h2⟩ => ⟨_, h1, rfl, h2⟩
  · exact .of (hm_spGet D i w) (sp_get h0 i) fun e w' ⟨h1, h2⟩ => ⟨_, h1, by rw [hv], h2⟩
  · exact .of (hm_htGet D i w) (ht_get h0 i) fun e w' ⟨h1, h2⟩ => ⟨_, h1, rfl, h2⟩
  · exact .of (hm_nlGet T i w) (nl_get h0 rfl) fun e w' ⟨h1, h2⟩ => ⟨_, h1, by rw [nlG_get hg], h2⟩
theorem pl_take (hs : St w0 (PlB kd v S g :: L) w) {i : Int} (hi : (Lit.int .i64 i).wf = true) {u : V3} {b : Bool} {S' : List Nat} (hu : Hid (getG S g i = u)) (hb : Hid (memS S i = b)) (hS : Hid (tS S i = S')) :
    IvC v "Take" #[.int .i64 i] w fun r w' => r = .tuple #[val3 u, .bool b] ∧ St w0 (PlB kd v S' g :: L) w' := by
  rw [← hu.out, ← hb.out, ← hS.out]
  obtain ⟨hsm, ⟨D, rfl, h0⟩ | ⟨D, T, vs, rfl, hv, h0⟩ | ⟨D, rfl, h0⟩ | ⟨T, rfl, rfl, hg, h0⟩⟩ := hs.plcases
  · exact .of (hm_dnTake D i w) (dn_take h0 i hi) fun e w' ⟨h1, h2⟩ => ⟨_, h1, rfl, h2.pldn (small_tS hsm i)⟩
  · exact .of (hm_spTake D i w) (sp_take h0 i) fun e w' ⟨h1, h2⟩ => ⟨_, h1, by rw [hv], h2.plsp (small_tS hsm i) fun j => by rw [get_tV, getG_take, hv]⟩
  · exact .of (hm_htTake D i w) (ht_take h0 i) fun e w' ⟨h1, h2⟩ => ⟨_, h1, rfl, h2.plht (small_tS hsm i)⟩
  · exact .of (hm_nlTake T i w) (nl_take h0 rfl (rem_tS hsm i)) fun e w' ⟨h1, h2⟩ => ⟨_, h1, by rw [nlG_get hg], h2.plnl (small_tS hsm i) fun j hj => hg j (by
      unfold tS at hj
      split at hj
      · exact (mem_delS.1 hj).1
      · exact hj)⟩
theorem pl_put (hs : St w0 (PlB kd v S g :: L) w) {i : Nat} (hi : i < 65536) {x u : V3} (hx : x.k = kd) (hok : okVal x = true) {b : Bool} {S' : List Nat} {g' : Nat → V3} (hu : Hid (getG S g (i : Nat) = u)) (hb : Hid (memS S (i : Nat) = b)) (hS : Hid (insS i S = S')) (hg' : Hid (pG g (i : Nat) x = g')) :
    IvC v "Put" #[.int .i64 (i : Nat), val3 x] w fun r w' => r = .tuple #[val3 u, .bool b] ∧ St w0 (PlB kd v S' g' :: L) w' := by
  rw [← hu.out, ← hb.out, ← hS.out, ← hg'.out]
  obtain ⟨hsm, ⟨D, rfl, h0⟩ | ⟨D, T, vs, rfl, hv, h0⟩ | ⟨D, rfl, h0⟩ | ⟨T, rfl, rfl, hg, h0⟩⟩ := hs.plcases
  · exact .of (hm_dnPut D i x w) (dn_put h0 i x) fun e w' ⟨h1, h2⟩ => ⟨_, h1, rfl, by rw [pS_nat hi, okI_n hi, if_pos rfl] at h2; exact h2.pldn (small_ins hsm hi)⟩
  · have hspok := (h0.spopen).1
    exact .of (hm_spPut D i x w) (sp_put h0 i x) fun e w' ⟨h1, h2⟩ => ⟨_, h1, by rw [hv], by
      have h3 : ∀ j, getV (pS S (i : Nat)) (pV vs (i : Nat) x) j = getG (insS i S) (pG g (i : Nat) x) j := fun j => by rw [get_pV hspok hi, getG_put, hv]
      rw [pS_nat hi] at h2 h3
      exact h2.plsp (small_ins hsm hi) h3⟩
  · exact .of (hm_htPut D i x w) (ht_put h0 i x) fun e w' ⟨h1, h2⟩ => ⟨_, h1, rfl, by rw [pS_nat hi, okI_n hi, if_pos rfl] at h2; exact h2.plht (small_ins hsm hi)⟩
  · have hxt : x = tagV := by
      unfold okVal at hok
      rw [if_neg (by omega), if_neg (by omega), if_pos hx] at hok
      obtain ⟨k, a, c⟩ := x
      simp only [Bool.and_eq_true, beq_iff_eq] at hok hx
      obtain ⟨rfl, rfl⟩ := hok
      subst hx
      rfl
    exact .of (hm_nlPut T i x w) (nl_put h0 hi x rfl rfl) fun e w' ⟨h1, h2⟩ => ⟨_, h1, by rw [nlG_get hg], h2.plnl (small_ins hsm hi) fun j hj => by
      unfold pG
      split
      · exact hxt
      · rename_i hne
        rcases mem_insS.1 hj with rfl | hj
        · exact absurd rfl hne
        · exact hg j hj⟩
end
end Go.Proofs.YtcnbmfaicbkhcaaGreatDoor
