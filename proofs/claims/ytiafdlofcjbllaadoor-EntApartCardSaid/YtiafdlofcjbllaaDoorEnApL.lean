/-
  EntApart: plain law. No function of the program is walked here.
-/
import Derived.Test.YtiafdlofcjbllaaDoorEnLw
set_option maxRecDepth 100000
namespace Go.Proofs.YtiafdlofcjbllaaDoor
open Go Go.RowKit
theorem stV_set_ne {cs : List ACell} {i j : Nat} {y : ACell} {g : Int} (h : i ≠ j) : stV (cs.set i y) ((j : Int), g) = stV cs ((j : Int), g) := by
  have e : (cs.set i y)[j]? = cs[j]? := List.getElem?_set_ne h
  have e1 : gnA (cs.set i y) j = gnA cs j := by unfold gnA; rw [List.getD_eq_getElem?_getD, List.getD_eq_getElem?_getD, e]
  have e2 : stA (cs.set i y) j = stA cs j := by unfold stA; rw [List.getD_eq_getElem?_getD, List.getD_eq_getElem?_getD, e]
  unfold stV
  simp only [Int.toNat_natCast, List.length_set, e1, e2]
/-- What is done at 0 is nothing to 1. -/
structure SlP (s t : SlS) : Prop where
  d_ : t.d = s.d
  has : t.has 1 = s.has 1
  get : t.get 1 = s.get 1
theorem slP_put (s : SlS) (v : V3) : SlP s (s.put 0 v) where
  d_ := SlS.put_d _ _ _
  has := by
    by_cases h : s.err 0 v = 0
    · rw [SlS.put_has h]; simp
    · rw [SlS.put_no h]
  get := by
    by_cases h : s.err 0 v = 0
    · rw [SlS.put_get h, if_neg (by decide)]
    · rw [SlS.put_no h]
theorem slP_take (s : SlS) : SlP s (s.take 0) where
  d_ := SlS.take_d _ _
  has := by rw [SlS.take_has]; simp
  get := by rw [SlS.take_get, if_neg (by decide)]
theorem slP_set (s : SlS) (v : V3) : SlP s (s.set 0 v) where
  d_ := SlS.set_d _ _ _
  has := SlS.set_has
  get := by
    by_cases h : s.errSet 0 v = 0
    · rw [SlS.set_get h, if_neg (by decide)]
    · rw [SlS.set_no h]
/-- Components, of which those before j have the second thing's part. -/
structure ApI (ds : List V3) (s : EnS) (j k : Nat) : Prop where
  len : s.l.length = ds.length
  live : s.live (1, 1) = 0
  at_ : ∀ (c : Nat) (x : Cmp), s.l[c]? = some x → ds[c]? = some x.2.d ∧ (c < j → x.2.has 1 = true ∧ x.2.get 1 = mkV x.2.d.k (c : Nat) 7)
  ev : EvL k s.l
section
variable {ds : List V3} {s : EnS} {j k : Nat}
theorem ApI.more (h : ApI ds s j k) : ApI ds s j (k + 1) := ⟨h.len, h.live, h.at_, h.ev.more⟩
theorem ApI.turn (h : ApI ds s j k) {c : Nat} {x : Cmp} (hx : s.l[c]? = some x) {t : SlS} (hp : SlP x.2 t) (he : t.evs.length ≤ x.2.evs.length + 1) : ApI ds ⟨s.top, s.cs, s.l.set c (x.1, t)⟩ j (k + 1) where
  len := by show (s.l.set _ _).length = _; rw [List.length_set]; exact h.len
  live := h.live
  at_ q y hy := by
    replace hy : (s.l.set c (x.1, t))[q]? = some y := hy
    rw [List.getElem?_set] at hy
    split at hy
    · rename_i e
      subst e
      split at hy
      · injection hy with hy
        subst hy
        have h1 := h.at_ _ _ hx
        exact ⟨by rw [hp.d_]; exact h1.1, fun hj => by rw [hp.has, hp.get, hp.d_]; exact h1.2 hj⟩
      · cases hy
    · exact h.at_ q y hy
  ev := h.ev.more.set (by
    have h1 := h.ev _ (List.mem_of_getElem? hx)
    show t.evs.length ≤ _
    omega)
theorem ApI.ins (h : ApI ds s j k) (c : Int) (v : V3) : ApI ds (s.ins (0, 1) c v).2.2.2 j (k + 1) := by
  unfold EnS.ins
  split
  · split
    · rename_i x hx
      obtain ⟨q, rfl, hq⟩ := EnS.slot_some hx
      exact h.turn hq (slP_put _ _) (SlS.put_len _ _ _)
    · exact h.more
  · exact h.more
theorem ApI.rem (h : ApI ds s j k) (c : Int) : ApI ds (s.rem (0, 1) c).2.2 j (k + 1) := by
  unfold EnS.rem
  split
  · split
    · rename_i x hx
      obtain ⟨q, rfl, hq⟩ := EnS.slot_some hx
      split
      · exact h.turn hq (slP_take _) (SlS.take_len _ _)
      · exact h.more
    · exact h.more
  · exact h.more
theorem ApI.set (h : ApI ds s j k) (c : Int) (v : V3) : ApI ds (s.set (0, 1) c v).2 j (k + 1) := by
  unfold EnS.set
  split
  · split
    · rename_i x hx
      obtain ⟨q, rfl, hq⟩ := EnS.slot_some hx
      exact h.turn hq (slP_set _ _) (SlS.set_len _ _ _)
    · exact h.more
  · exact h.more
theorem delA_live {top : Int} {cs : List ACell} : stV (delA top cs (0, 1)).2 (1, 1) = stV cs (1, 1) := by
  unfold delA
  split
  · rfl
  · split
    · rfl
    · exact stV_set_ne (i := 0) (j := 1) (by decide)
theorem ApI.del (h : ApI ds s j k) : ApI ds (s.del (0, 1)).2.2 j (k + 1) := by
  unfold EnS.del
  split
  · refine ⟨by show (strL _ _).length = _; rw [strL_len]; exact h.len, ?_, fun c x hx => ?_, h.ev.strip 0⟩
    · have h1 := h.live
      rw [EnS.live_zero] at h1 ⊢
      show stV (delA s.top s.cs (0, 1)).2 (1, 1) = 1
      rw [delA_live]
      exact h1
    · have hx : (strL s.l 0)[c]? = some x := hx
      unfold strL at hx
      rw [List.getElem?_map] at hx
      cases hy : s.l[c]? with
      | none => rw [hy] at hx; cases hx
      | some y =>
        rw [hy] at hx
        simp only [Option.map_some, Option.some.injEq] at hx
        subst hx
        have h1 := h.at_ _ _ hy
        have hp := slP_take y.2
        exact ⟨by rw [hp.d_]; exact h1.1, fun hj => by rw [hp.has, hp.get, hp.d_]; exact h1.2 hj⟩
  · exact h.more
/-- The second thing's next part. -/
theorem ApI.insB (h : ApI ds s j k) {X : Nat} {t : SlS} (hx : s.l[j]? = some (X, t)) (hd : descE t.d = 0) : ApI ds (s.ins (1, 1) (j : Nat) (mkV t.d.k (j : Nat) 7)).2.2.2 (j + 1) (k + 1) := by
  have he : t.err 1 (mkV t.d.k (j : Nat) 7) = 0 := err_fit (by decide) hd _ _
  rw [EnS.ins_in h.live (x := (X, t)) (by rw [EnS.slot_nat]; exact hx)]
  simp only [Int.toNat_natCast]
  refine ⟨by show (s.l.set _ _).length = _; rw [List.length_set]; exact h.len, h.live, fun q y hy => ?_, h.ev.more.set (by
    have h1 := h.ev _ (List.mem_of_getElem? hx)
    have h2 := SlS.put_len t 1 (mkV t.d.k (j : Nat) 7)
    have h3 : t.evs.length ≤ k := h1
    show (t.put _ _).evs.length ≤ _
    omega)⟩
  replace hy : (s.l.set j (X, t.put 1 (mkV t.d.k (j : Nat) 7)))[q]? = some y := hy
  rw [List.getElem?_set] at hy
  split at hy
  · rename_i e
    subst e
    split at hy
    · injection hy with hy
      subst hy
      have h1 := h.at_ _ _ hx
      refine ⟨?_, fun _ => ?_⟩
      · show ds[j]? = some (t.put 1 _).d
        rw [SlS.put_d]; exact h1.1
      · show (t.put 1 _).has 1 = true ∧ (t.put 1 _).get 1 = mkV (t.put 1 _).d.k _ 7
        rw [SlS.put_has he, SlS.put_get he, SlS.put_d]
        simp
    · cases hy
  · exact ⟨(h.at_ q y hy).1, fun hq => (h.at_ q y hy).2 (by omega)⟩
/-- In the end: the second thing has all. -/
theorem ApI.parts (h : ApI ds s j k) (hj : j = ds.length) : s.parts (1, 1) = (List.range ds.length, 0) := by
  subst hj
  rw [EnS.parts_in h.live]
  show (ofN s.l 1 s.l.length, (0 : Int)) = _
  rw [h.len]
  congr 1
  unfold ofN
  rw [List.filter_eq_self]
  intro c hc
  have hc : c < ds.length := List.mem_range.1 hc
  obtain ⟨x, hx⟩ : ∃ x, s.l[c]? = some x := ⟨_, List.getElem?_eq_getElem (by rw [h.len]; exact hc)⟩
  unfold hasAt
  rw [hx]
  exact ((h.at_ _ _ hx).2 hc).1
theorem ApI.get (h : ApI ds s j k) {c : Nat} (hc : c < j) {d : V3} (hd : ds[c]? = some d) : s.get (1, 1) (c : Nat) = (mkV d.k (c : Nat) 7, 0) := by
  have hl := (List.getElem?_eq_some_iff.1 hd).1
  obtain ⟨x, hx⟩ : ∃ x, s.l[c]? = some x := ⟨_, List.getElem?_eq_getElem (by rw [h.len]; exact hl)⟩
  have h1 := h.at_ _ _ hx
  rw [hd] at h1
  have h2 := h1.1
  injection h2 with h2
  rw [EnS.get_in h.live (x := x) (by rw [EnS.slot_nat]; exact hx)]
  have h3 := h1.2 hc
  show (if x.2.has 1 then (x.2.get 1, (0 : Int)) else _) = _
  rw [if_pos h3.1, h3.2, ← h2]
end
/-- The handles: two things. -/
structure ApK (c1 c2 : List ACell) : Prop where
  cr : giveV 1 (newA 9) = ((0, 1), 0, c1)
  cr2 : giveV 1 c1 = ((1, 1), 0, c2)
  live : ∀ l, (EnS.mk 9 c2 l).live (1, 1) = 0
theorem apK : ∃ c1 c2, ApK c1 c2 := ⟨(newA 9).set 0 (1, 1), ((newA 9).set 0 (1, 1)).set 1 (1, 1), by kernel_rfl, by kernel_rfl, fun l => by kernel_rfl⟩
theorem ApK.start {c1 c2 : List ACell} (h : ApK c1 c2) {ds : List V3} {l : List Cmp} (hl : PtI ds l 0) : ApI ds (EnS.mk 9 c2 l) 0 0 := ⟨hl.len, h.live l, fun c x hx => ⟨(hl.at_ c x hx).1, fun hc => by omega⟩, hl.ev⟩
/-! ### The statements' rows of calls -/
structure OpE where
  k : Int
  h : Int
  c : Int
  v : V3
  r : Hdl
def c8o (o : OpE) : List Value := [.int .i64 o.k, .int .i64 o.h, .int .i64 o.c, .int .i64 o.v.k, .int .i64 o.v.a, .int .i64 o.v.b, .int .i64 o.r.1, .int .i64 o.r.2]
theorem c8o_len (o : OpE) : (c8o o).length = 8 := rfl
theorem c8o_one (o : OpE) : ∀ u ∈ c8o o, u.oneCell' = true := by simp [c8o]; exact ⟨rfl, rfl, rfl, rfl, rfl, rfl, rfl, rfl⟩
end Go.Proofs.YtiafdlofcjbllaaDoor
