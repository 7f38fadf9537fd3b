/-
  AllocOnce, plain law.
-/
import Derived.Test.YtkcbjkadalebjaaDoorAlRa2
set_option maxRecDepth 100000
namespace Go.Proofs.YtkcbjkadalebjaaDoor
open Go Go.RowKit
attribute [local irreducible] wpList Calls Code.wp

/-- A call of the script: its kind, which handle, a handle as it is. -/
structure OpA where
  k : Int
  h : Int
  r : Hdl
def c4h (o : OpA) : List Value := .int .i64 o.k :: .int .i64 o.h :: h2 o.r
theorem list4 {α : Type} {l : List α} (h : l.length = 4) : ∃ a b c d, l = [a, b, c, d] := by
  match l, h with
  | [a, b, c, d], _ => exact ⟨a, b, c, d, rfl⟩
theorem list2 {α : Type} {l : List α} (h : l.length = 2) : ∃ a b, l = [a, b] := by
  match l, h with
  | [a, b], _ => exact ⟨a, b, rfl⟩
theorem goodH {H : Type} {enc : TypeId × Value → H} {w : World} {n : Nat} {cs : List Value} {y : DataW H × List MemPlace} (h : DataW.trod enc Tryd.prog w 0 (fun _ => true) true n 30 cs = some y) : ∃ v : Hdl, cs = h2 v := by
  obtain ⟨y0, y1, m, _, hl, h0, h1⟩ := Go.ChangeShapes.trod_struct2 Tryd.underlying30 h
  obtain ⟨a, b, rfl⟩ := list2 (hl.trans (by kernel_rfl))
  obtain ⟨n0, e0, _⟩ := DataW.trod_int Tryd.underlying3 h0
  obtain ⟨n1, e1, _⟩ := DataW.trod_int Tryd.underlying2 h1
  rw [show Tryd.prog.cellsOf 3 = 1 by kernel_rfl] at e0
  rw [show Tryd.prog.cellsOf 2 = 1 by kernel_rfl] at e1
  simp at e0 e1
  subst e0; subst e1
  exact ⟨⟨n0, n1⟩, rfl⟩
theorem good4h {H : Type} {enc : TypeId × Value → H} {w : World} (n : Nat) (cs : List Value) (y : DataW H × List MemPlace) (h : DataW.trod enc Tryd.prog w 0 (fun _ => true) true n 32 cs = some y) : ∃ x, cs = c4h x ∧ True := by
  obtain ⟨y0, y1, y2, m, _, hl, h0, h1, hh⟩ := Deep.trod_struct3 Tryd.underlying32 h
  obtain ⟨a, b, c, d, rfl⟩ := list4 (hl.trans (by kernel_rfl))
  obtain ⟨n0, e0, _⟩ := DataW.trod_int Tryd.underlying3 h0
  obtain ⟨n1, e1, _⟩ := DataW.trod_int Tryd.underlying3 h1
  obtain ⟨v, e2⟩ := goodH hh
  rw [show Tryd.prog.cellsOf 3 = 1 by kernel_rfl] at e0 e1
  rw [show Tryd.prog.cellsOf 30 = 2 by kernel_rfl] at e2
  simp at e0 e1
  simp [h2] at e2
  subst e0; subst e1
  obtain ⟨rfl, rfl⟩ := e2
  exact ⟨⟨n0, n1, v⟩, rfl, trivial⟩
theorem nodup_at {α : Type} {l : List α} (h : l.Nodup) {a b : Nat} {x : α} (ha : l[a]? = some x) (hb : l[b]? = some x) : a = b := by
  obtain ⟨h1, e1⟩ := List.getElem?_eq_some_iff.1 ha
  obtain ⟨h2', e2⟩ := List.getElem?_eq_some_iff.1 hb
  have hp := List.pairwise_iff_getElem.1 h
  rcases Nat.lt_trichotomy a b with h3 | h3 | h3
  · exact absurd (e1.trans e2.symm) (hp a b h1 h2' h3)
  · exact h3
  · exact absurd (e2.trans e1.symm) (hp b a h2' h1 h3)
/-- What stands of the handles that were told. -/
structure OnI (n : Nat) (cs : List ACell) (all : List Hdl) (gone : List Bool) : Prop where
  len : cs.length = n
  same : gone.length = all.length
  nr : ∀ i, i < n → stA cs i ≠ 2
  hd : ∀ (k : Nat) (h : Hdl), all[k]? = some h → ∃ i : Nat, h.1 = i ∧ i < n ∧ 1 ≤ h.2 ∧ h.2 ≤ gnA cs i ∧ (gone[k]? = some false → stA cs i = 1 ∧ gnA cs i = h.2) ∧ (gone[k]? = some true → ¬ (stA cs i = 1 ∧ gnA cs i = h.2))
  nodup : all.Nodup
theorem onI_start (n : Nat) : OnI n (newA n) [] [] := ⟨by simp [newA], rfl, fun i hi => by rw [stA_new hi]; decide, fun k h hk => by simp at hk, List.nodup_nil⟩
theorem OnI.create {n i : Nat} {l : List Nat} {cs : List ACell} {all : List Hdl} {gone : List Bool} (h : OnI n cs all gone) (hi : idxS 0 cs = i :: l) (hg0 : 0 ≤ gnA cs i) :
    i < n ∧ (∀ (k : Nat) h', all[k]? = some h' → h' ≠ ((i : Int), gnA cs i + 1)) ∧ OnI n (cs.set i (1, gnA cs i + 1)) (all ++ [((i : Int), gnA cs i + 1)]) (gone ++ [false]) := by
  obtain ⟨hl, hs⟩ := idx_head hi
  have hin : i < n := by rw [← h.len]; exact hl
  have fresh : ∀ (k : Nat) h', all[k]? = some h' → h' ≠ ((i : Int), gnA cs i + 1) := by
    intro k h' hk e
    obtain ⟨j, hj1, hj2, hj3, hj4, _⟩ := h.hd k h' hk
    subst e
    have : i = j := by have h9 : (i : Int) = (j : Int) := hj1; omega
    subst this
    simp only at hj4
    omega
  refine ⟨hin, fresh, ?_⟩
  refine ⟨by rw [List.length_set]; exact h.len, by simp [h.same], fun j hj => ?_, fun k h' hk => ?_, ?_⟩
  · rw [stA_set hl]; split
    · show (1 : Nat) ≠ 2
      decide
    · exact h.nr j hj
  · by_cases hkl : k < all.length
    · rw [List.getElem?_append_left hkl] at hk
      obtain ⟨j, hj1, hj2, hj3, hj4, hj5, hj6⟩ := h.hd k h' hk
      rw [List.getElem?_append_left (by rw [h.same]; exact hkl)]
      refine ⟨j, hj1, hj2, hj3, ?_, fun hg => ?_, fun hg => ?_⟩
      · rw [gnA_set hl]; split
        · rename_i e; rw [e] at hj4; simp only; omega
        · exact hj4
      · have := hj5 hg
        by_cases e : j = i
        · rw [e, hs] at this; exact absurd this.1 (by decide)
        · rw [stA_set hl, gnA_set hl, if_neg e, if_neg e]; exact this
      · have := hj6 hg
        by_cases e : j = i
        · subst e
          rw [stA_set hl, gnA_set hl, if_pos rfl, if_pos rfl]
          simp only
          omega
        · rw [stA_set hl, gnA_set hl, if_neg e, if_neg e]; exact this
    · rw [List.getElem?_append_right (by omega)] at hk
      have hk0 : k - all.length = 0 := by
        rcases Nat.eq_zero_or_pos (k - all.length) with e | e
        · exact e
        · rw [List.getElem?_eq_none (by simp; omega)] at hk; cases hk
      rw [hk0] at hk
      simp at hk
      subst hk
      rw [List.getElem?_append_right (by rw [h.same]; omega), h.same, hk0]
      refine ⟨i, rfl, hin, by simp only; omega, ?_, fun _ => ?_, fun hg => by simp at hg⟩
      · rw [gnA_set hl, if_pos rfl]; exact Int.le_refl _
      · rw [stA_set hl, gnA_set hl, if_pos rfl, if_pos rfl]; exact ⟨rfl, rfl⟩
  · rw [List.nodup_append]
    refine ⟨h.nodup, by simp, fun a ha b hb => ?_⟩
    simp at hb
    subst hb
    obtain ⟨k, hk⟩ := List.mem_iff_getElem?.1 ha
    exact fresh k a hk
theorem OnI.state {n k : Nat} {cs : List ACell} {all : List Hdl} {gone : List Bool} {h : Hdl} {b : Bool} (hI : OnI n cs all gone) (hk : all[k]? = some h) (hb : gone[k]? = some b) : stV cs h = if b then 0 else 1 := by
  obtain ⟨i, g⟩ := h
  obtain ⟨j, hj1, hj2, hj3, hj4, hj5, hj6⟩ := hI.hd k _ hk
  simp only at hj1 hj3 hj4 hj5 hj6
  subst hj1
  have hl : j < cs.length := by rw [hI.len]; exact hj2
  cases b with
  | false =>
    obtain ⟨h1, h2'⟩ := hj5 hb
    rw [stV_in hl h2', if_pos h1]
    rfl
  | true =>
    have h1 := hj6 hb
    by_cases hg : gnA cs j = g
    · rw [stV_in hl hg, if_neg (fun e => h1 ⟨e, hg⟩), if_neg (hI.nr j hj2)]
      rfl
    · rw [stV_gen hg]; rfl
theorem OnI.del_gone {n k : Nat} {top : Int} {cs : List ACell} {all : List Hdl} {gone : List Bool} {h : Hdl} (hI : OnI n cs all gone) (hk : all[k]? = some h) (hb : gone[k]? = some true) : delA top cs h = (4, cs) ∧ gone.set k true = gone := by
  refine ⟨delA_none (hI.state hk hb), ?_⟩
  obtain ⟨hl, he⟩ := List.getElem?_eq_some_iff.1 hb
  rw [← he]
  exact List.set_getElem_self hl
theorem OnI.del_live {n k : Nat} {top : Int} {cs : List ACell} {all : List Hdl} {gone : List Bool} {h : Hdl} (hI : OnI n cs all gone) (hk : all[k]? = some h) (hb : gone[k]? = some false) : ∃ cs', delA top cs h = (0, cs') ∧ OnI n cs' all (gone.set k true) := by
  obtain ⟨i, g⟩ := h
  obtain ⟨j, hj1, hj2, hj3, hj4, hj5, _⟩ := hI.hd k _ hk
  simp only at hj1 hj3 hj4 hj5
  subst hj1
  have hl : j < cs.length := by rw [hI.len]; exact hj2
  obtain ⟨h1, h2'⟩ := hj5 hb
  obtain ⟨s', hs'⟩ : ∃ s' : Nat, (if top ≤ g then 9 else 0) = s' := ⟨_, rfl⟩
  have hs1 : s' ≠ 1 := by rw [← hs']; split <;> decide
  have hs2 : s' ≠ 2 := by rw [← hs']; split <;> decide
  refine ⟨cs.set j (s', g), by rw [delA_live hl h1 h2', hs'], by rw [List.length_set]; exact hI.len, by rw [List.length_set]; exact hI.same, fun i hi => ?_, fun m h' hm => ?_, hI.nodup⟩
  · rw [stA_set hl]; split
    · exact hs2
    · exact hI.nr i hi
  · obtain ⟨i, hi1, hi2, hi3, hi4, hi5, hi6⟩ := hI.hd m h' hm
    refine ⟨i, hi1, hi2, hi3, ?_, fun hg => ?_, fun hg => ?_⟩
    · rw [gnA_set hl]; split
      · rename_i e; rw [e, h2'] at hi4; exact hi4
      · exact hi4
    · have hmk : m ≠ k := fun e => by
        subst e
        have hml : m < gone.length := (List.getElem?_eq_some_iff.1 hb).1
        rw [List.getElem?_set_self hml] at hg
        cases hg
      rw [List.getElem?_set_ne (fun e => hmk e.symm)] at hg
      have h3 := hi5 hg
      by_cases e : i = j
      · exfalso
        subst e
        have heq : h' = ((i : Int), g) := by
          refine Prod.ext hi1 ?_
          rw [← h3.2, h2']
        rw [heq] at hm
        exact hmk (nodup_at hI.nodup hm hk)
      · rw [stA_set hl, gnA_set hl, if_neg e, if_neg e]; exact h3
    · by_cases e : i = j
      · rw [stA_set hl, if_pos e]; exact fun h => hs1 h.1
      · rw [stA_set hl, gnA_set hl, if_neg e, if_neg e]
        by_cases hmk : m = k
        · subst hmk
          have : some h' = some ((j : Int), g) := hm.symm.trans hk
          injection this with this
          subst this
          exact absurd (show i = j by have h9 : (j : Int) = (i : Int) := hi1; omega) e
        · rw [List.getElem?_set_ne (fun e => hmk e.symm)] at hg
          exact hi6 hg
end Go.Proofs.YtkcbjkadalebjaaDoor
