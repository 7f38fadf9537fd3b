/-
  XJL: joined of XPnLaw XSoLaw XPn XPn2 XPn3 XSo XSo2 XSo3 XSo4 XSo5 XPn4 XPn5 XRg5.
-/
import Derived.Test.YtcnbmfaicbkhcaaGreatDoorJE
import Derived.Test.YtcnbmfaicbkhcaaGreatDoorJB
import Derived.Test.YtcnbmfaicbkhcaaGreatDoorJA
import Derived.Test.YtcnbmfaicbkhcaaGreatDoorProg
import Derived.WalkKit
import Derived.Lib.Hide
import Derived.KernelRfl
import Derived.Deep.DeepCutAuto
import Derived.Deep.CutBlock
import Derived.Test.YtcnbmfaicbkhcaaGreatDoorRegM
import Derived.Test.YtcnbmfaicbkhcaaGreatDoorJC
import Derived.Test.YtcnbmfaicbkhcaaGreatDoorJV
/-
  Plans, and the arena of a plan's rows: plain law. No function of the program is walked here.
-/
set_option maxRecDepth 100000
namespace Go.Proofs.YtcnbmfaicbkhcaaGreatDoor
open Go Go.RowKit
/-- A column: 1 read, 2 write, 3 maybe, 4 not, 5 the thing itself. -/
structure ColP where
  k : Int
  c : Int
def c2c (x : ColP) : List Value := [.int .i64 x.k, .int .i64 x.c]
theorem c2c_len (x : ColP) : (c2c x).length = 2 := rfl
def ColP.ent (x : ColP) : Bool := decide (x.k = 5)
/-- y stands ahead of x and asks for the same. -/
def ColP.tw (x y : ColP) : Bool := (y.ent == x.ent) && decide (y.c = x.c)
def colE (n : Nat) (x : ColP) (ahead : List ColP) : Int :=
  if x.k < 1 ∨ 5 < x.k ∨ (x.k = 5 ∧ x.c ≠ 0) then 1
  else if x.k ≠ 5 ∧ (x.c < 0 ∨ (n : Int) ≤ x.c) then 11
  else if ahead.any (ColP.tw x) then 15 else 0
def ColP.asks (x : ColP) : Bool := decide (x.k = 1 ∨ x.k = 2 ∨ x.k = 5)
/-- The first fault of the first so many columns. -/
def firstE (n : Nat) (l : List ColP) : Nat → Int
  | 0 => 0
  | k + 1 => if firstE n l k ≠ 0 then firstE n l k else match l[k]? with
    | some x => colE n x (l.take k)
    | none => 0
def planE (n : Nat) (l : List ColP) : Int := if 16 < l.length then 2 else if firstE n l l.length ≠ 0 then firstE n l l.length else if l.any ColP.asks then 0 else 1
def compsOf (l : List ColP) (ks : List Int) : List Int := (l.filter fun x => ks.contains x.k).map ColP.c
/-- The components of some kinds of columns, rising. -/
def compsN (n : Nat) (l : List ColP) (ks : List Int) : List Nat := (List.range n).filter fun c => (compsOf l ks).contains (c : Int)
theorem firstE_at {n : Nat} {l : List ColP} : ∀ {m : Nat}, firstE n l m = 0 → ∀ (k : Nat) (x : ColP), k < m → l[k]? = some x → colE n x (l.take k) = 0
  | 0, _, k, x, hk, _ => absurd hk (Nat.not_lt_zero _)
  | m + 1, h, k, x, hk, hx => by
    unfold firstE at h
    by_cases h0 : firstE n l m = 0
    · rw [if_neg (by simpa using h0)] at h
      by_cases hkm : k = m
      · subst hkm
        rw [hx] at h
        exact h
      · exact firstE_at h0 k x (by omega) hx
    · rw [if_pos h0] at h
      exact absurd h h0
theorem colE_ok {n : Nat} {x : ColP} {a : List ColP} (h : colE n x a = 0) : (1 ≤ x.k ∧ x.k ≤ 5) ∧ (x.k ≠ 5 → 0 ≤ x.c ∧ x.c < n) ∧ a.any (ColP.tw x) = false := by
  unfold colE at h
  by_cases h1 : x.k < 1 ∨ 5 < x.k ∨ (x.k = 5 ∧ x.c ≠ 0)
  · rw [if_pos h1] at h; cases h
  · rw [if_neg h1] at h
    by_cases h2 : x.k ≠ 5 ∧ (x.c < 0 ∨ (n : Int) ≤ x.c)
    · rw [if_pos h2] at h; cases h
    · rw [if_neg h2] at h
      by_cases h3 : a.any (ColP.tw x) = true
      · rw [if_pos h3] at h; cases h
      · refine ⟨by omega, fun h5 => ?_, by simpa using h3⟩
        have : ¬ (x.c < 0 ∨ (n : Int) ≤ x.c) := fun h6 => h2 ⟨h5, h6⟩
        omega
/-- A plan that may be: each column by itself, none twice. -/
structure PlOk (n : Nat) (l : List ColP) : Prop where
  len : l.length ≤ 16
  in_ : ∀ x ∈ l, 1 ≤ x.k ∧ x.k ≤ 5 ∧ (x.k ≠ 5 → 0 ≤ x.c ∧ x.c < n)
  tw : ∀ (i j : Nat) (x y : ColP), i < j → l[i]? = some x → l[j]? = some y → x.k ≠ 5 → y.k ≠ 5 → x.c ≠ y.c
theorem planE_ok {n : Nat} {l : List ColP} (h : planE n l = 0) : PlOk n l := by
  unfold planE at h
  by_cases h1 : 16 < l.length
  · rw [if_pos h1] at h; cases h
  · rw [if_neg h1] at h
    by_cases h2 : firstE n l l.length = 0
    · rw [if_neg (by simpa using h2)] at h
      refine ⟨by omega, fun x hx => ?_, fun i j x y hij hi hj h5 h6 he => ?_⟩
      · obtain ⟨k, hk⟩ := List.getElem?_of_mem hx
        obtain ⟨a, b, _⟩ := colE_ok (firstE_at h2 k x (List.getElem?_eq_some_iff.1 hk).1 hk)
        exact ⟨a.1, a.2, b⟩
      · obtain ⟨_, _, c⟩ := colE_ok (firstE_at h2 j y (List.getElem?_eq_some_iff.1 hj).1 hj)
        rw [List.any_eq_false] at c
        refine c x (List.mem_of_getElem? (i := i) ?_) ?_
        · rw [List.getElem?_take_of_lt hij]; exact hi
        · unfold ColP.tw ColP.ent
          simp [h5, h6, he]
    · rw [if_pos h2] at h
      exact absurd h h2
theorem compsOf_in {n : Nat} {l : List ColP} {ks : List Int} (h : PlOk n l) (h5 : ks.contains 5 = false) : ∀ c ∈ compsOf l ks, 0 ≤ c ∧ c < (n : Int) := by
  intro c hc
  obtain ⟨x, hx, rfl⟩ := List.mem_map.1 hc
  obtain ⟨h1, h2⟩ := List.mem_filter.1 hx
  refine (h.in_ x h1).2.2 fun e => ?_
  rw [e, h5] at h2
  cases h2
theorem compsOf_nodup {n : Nat} {l : List ColP} {ks : List Int} (h : PlOk n l) (h5 : ks.contains 5 = false) : (compsOf l ks).Nodup := by
  have h1 : l.Pairwise fun x y => x.k ≠ 5 → y.k ≠ 5 → x.c ≠ y.c := by
    rw [List.pairwise_iff_getElem]
    intro i j hi hj hij a b
    exact h.tw i j _ _ hij (List.getElem?_eq_getElem hi) (List.getElem?_eq_getElem hj) a b
  have h2 := h1.filter fun x => ks.contains x.k
  unfold compsOf
  rw [List.Nodup, List.pairwise_map]
  refine h2.imp_of_mem fun {x y} hx hy hxy => ?_
  have n5 : ∀ z ∈ l.filter (fun x => ks.contains x.k), z.k ≠ 5 := fun z hz e => by
    have := (List.mem_filter.1 hz).2
    rw [e, h5] at this
    cases this
  exact hxy (n5 x hx) (n5 y hy)
/-! ### The arena of a plan: m sets that must have a number, o that must not. -/
def arN (m o : Nat) : List NodeE := (List.range (m + o)).map (fun i => ⟨1, [i]⟩) ++ [⟨3, (List.range o).map (m + ·)⟩, ⟨5, [m + o]⟩, ⟨2, List.range m ++ [m + o + 1]⟩]
theorem tellsE_snoc (f : Nat → Bool) (l : List NodeE) (x : NodeE) : tellsE f (l ++ [x]) = tellsE f l ++ [tellE f x (tellsE f l)] := by
  unfold tellsE; rw [List.foldl_append]; rfl
theorem tellsE_sets (f : Nat → Bool) : ∀ m : Nat, tellsE f ((List.range m).map fun i => (⟨1, [i]⟩ : NodeE)) = (List.range m).map f
  | 0 => rfl
  | m + 1 => by
    rw [List.range_succ, List.map_append, List.map_append, List.map_cons, List.map_nil, tellsE_snoc, tellsE_sets f m]
    rfl
theorem joinB_and (l : List Bool) : joinB 2 l = l.all id := by
  have h : ∀ (l : List Bool) (b : Bool), l.foldl (fun w v => if (2 : Nat) = 2 then w && v else if (2 : Nat) = 3 then w || v else w ^^ v) b = (b && l.all id) := by
    intro l
    induction l with
    | nil => intro b; simp
    | cons a l ih => intro b; rw [List.foldl_cons, ih]; simp [Bool.and_assoc]
  unfold joinB
  rw [h]; simp
theorem joinB_or (l : List Bool) : joinB 3 l = l.any id := by
  have h : ∀ (l : List Bool) (b : Bool), l.foldl (fun w v => if (3 : Nat) = 2 then w && v else if (3 : Nat) = 3 then w || v else w ^^ v) b = (b || l.any id) := by
    intro l
    induction l with
    | nil => intro b; simp
    | cons a l ih => intro b; rw [List.foldl_cons, ih]; simp [Bool.or_assoc]
  unfold joinB
  rw [h]; simp
theorem getD_range_map (f : Nat → Bool) {m i : Nat} (h : i < m) (t : List Bool) : ((List.range m).map f ++ t).getD i false = f i := by
  rw [List.getD_eq_getElem?_getD, List.getElem?_append_left (by simpa using h), List.getElem?_map, List.getElem?_range h]
  rfl
theorem any_mem_congr {α : Type} {p q : α → Bool} : ∀ {l : List α}, (∀ a ∈ l, p a = q a) → l.any p = l.any q
  | [], _ => rfl
  | a :: l, h => by rw [List.any_cons, List.any_cons, h a List.mem_cons_self, any_mem_congr fun b hb => h b (List.mem_cons_of_mem _ hb)]
theorem all_mem_congr {α : Type} {p q : α → Bool} : ∀ {l : List α}, (∀ a ∈ l, p a = q a) → l.all p = l.all q
  | [], _ => rfl
  | a :: l, h => by rw [List.all_cons, List.all_cons, h a List.mem_cons_self, all_mem_congr fun b hb => h b (List.mem_cons_of_mem _ hb)]
theorem tellE_or (f : Nat → Bool) (kids : List Nat) (bs : List Bool) : tellE f ⟨3, kids⟩ bs = (kids.map fun i => bs.getD i false).any id := by
  rw [← joinB_or]; rfl
theorem tellE_and (f : Nat → Bool) (kids : List Nat) (bs : List Bool) : tellE f ⟨2, kids⟩ bs = (kids.map fun i => bs.getD i false).all id := by
  rw [← joinB_and]; rfl
theorem tellE_not (f : Nat → Bool) (i : Nat) (bs : List Bool) : tellE f ⟨5, [i]⟩ bs = !bs.getD i false := rfl
theorem arN_tells (f : Nat → Bool) (m o : Nat) : (tellsE f (arN m o)).getD (m + o + 2) false = (((List.range m).all f) && !((List.range o).any fun j => f (m + j))) := by
  have e : arN m o = (((List.range (m + o)).map (fun i => (⟨1, [i]⟩ : NodeE)) ++ [⟨3, (List.range o).map (m + ·)⟩]) ++ [⟨5, [m + o]⟩]) ++ [⟨2, List.range m ++ [m + o + 1]⟩] := by unfold arN; simp
  have h1 : tellE f ⟨3, (List.range o).map (m + ·)⟩ ((List.range (m + o)).map f) = (List.range o).any fun j => f (m + j) := by
    rw [tellE_or, List.any_map, List.any_map]
    refine any_mem_congr fun j hj => ?_
    have hj2 := List.mem_range.1 hj
    have := getD_range_map f (m := m + o) (i := m + j) (by omega) []
    rw [List.append_nil] at this
    exact this
  rw [e, tellsE_snoc, tellsE_snoc, tellsE_snoc, tellsE_sets, h1]
  generalize hb : ((List.range o).any fun j => f (m + j)) = b
  have hl : ((List.range (m + o)).map f).length = m + o := by simp
  have h2 : tellE f ⟨5, [m + o]⟩ ((List.range (m + o)).map f ++ [b]) = !b := by
    rw [tellE_not]
    simp [List.getD_eq_getElem?_getD]
  rw [h2]
  have h3 : tellE f ⟨2, List.range m ++ [m + o + 1]⟩ ((List.range (m + o)).map f ++ [b] ++ [!b]) = (((List.range m).all f) && !b) := by
    rw [tellE_and, List.map_append, List.all_append, List.map_cons, List.map_nil]
    have h4 : ((List.range m).map fun i => ((List.range (m + o)).map f ++ [b] ++ [!b]).getD i false).all id = (List.range m).all f := by
      rw [List.all_map]
      refine all_mem_congr fun i hi => ?_
      have hi2 := List.mem_range.1 hi
      show ((List.range (m + o)).map f ++ [b] ++ [!b]).getD i false = f i
      rw [List.append_assoc]
      exact getD_range_map f (by omega) _
    have h5 : ((List.range (m + o)).map f ++ [b] ++ [!b]).getD (m + o + 1) false = !b := by
      simp [List.getD_eq_getElem?_getD]
    rw [h4, h5]
    simp
  rw [h3]
  simp [List.getD_eq_getElem?_getD]
end Go.Proofs.YtcnbmfaicbkhcaaGreatDoor

/-
  Sorting by insertion; the components of a plan; variants turned: plain law. No function of the program is walked here.
-/
set_option maxRecDepth 100000
namespace Go.Proofs.YtcnbmfaicbkhcaaGreatDoor
open Go Go.RowKit
/-- Sorted up to i, but for what stands at j. -/
def SrtX (q : List Int) (i j : Nat) : Prop := ∀ a b : Nat, a < b → b ≤ i → b ≠ j → q.getD a 0 ≤ q.getD b 0
theorem getD_set (q : List Int) (i j : Nat) (x : Int) : (q.set i x).getD j 0 = if i = j ∧ i < q.length then x else q.getD j 0 := by
  rw [List.getD_eq_getElem?_getD, List.getD_eq_getElem?_getD, List.getElem?_set]
  by_cases h : i = j
  · subst h
    by_cases h2 : i < q.length
    · simp [h2]
    · simp [h2]
  · simp [h]
theorem SrtX.start {q : List Int} {i : Nat} (h : ∀ a b : Nat, a < b → b < i → q.getD a 0 ≤ q.getD b 0) : SrtX q i i := fun a b h1 h2 h3 => h a b h1 (by omega)
theorem getD_swap {q : List Int} {j : Nat} {x y : Int} (hj : j + 1 < q.length) (a : Nat) : ((q.set (j + 1) x).set j y).getD a 0 = if a = j then y else if a = j + 1 then x else q.getD a 0 := by
  rw [getD_set, getD_set, List.length_set]
  by_cases h1 : a = j
  · subst h1; rw [if_pos ⟨rfl, by omega⟩, if_pos rfl]
  · rw [if_neg (fun h => h1 h.1.symm), if_neg h1]
    by_cases h2 : a = j + 1
    · subst h2; rw [if_pos ⟨rfl, hj⟩, if_pos rfl]
    · rw [if_neg (fun h => h2 h.1.symm), if_neg h2]
theorem SrtX.step {q : List Int} {i j : Nat} (h : SrtX q i (j + 1)) (hi : i < q.length) (hj : j + 1 ≤ i) (hx : q.getD (j + 1) 0 < q.getD j 0) : SrtX ((q.set (j + 1) (q.getD j 0)).set j (q.getD (j + 1) 0)) i j := by
  intro a b hab hbi hbj
  rw [getD_swap (by omega), getD_swap (by omega), if_neg hbj]
  by_cases hb : b = j + 1
  · subst hb
    rw [if_pos rfl]
    by_cases ha : a = j
    · rw [if_pos ha]; omega
    · rw [if_neg ha, if_neg (by omega)]
      exact h a j (by omega) (by omega) (by omega)
  · rw [if_neg hb]
    by_cases ha : a = j
    · rw [if_pos ha]
      subst ha
      exact h (a + 1) b (by omega) hbi hb
    · rw [if_neg ha]
      by_cases ha2 : a = j + 1
      · rw [if_pos ha2]
        exact h j b (by omega) hbi hb
      · rw [if_neg ha2]
        exact h a b hab hbi hb
theorem SrtX.end0 {q : List Int} {i : Nat} (h : SrtX q i 0) : ∀ a b : Nat, a < b → b < i + 1 → q.getD a 0 ≤ q.getD b 0 := fun a b h1 h2 => h a b h1 (by omega) (by omega)
theorem SrtX.end_ {q : List Int} {i j : Nat} (h : SrtX q i (j + 1)) (hj : j + 1 ≤ i) (hx : ¬ q.getD (j + 1) 0 < q.getD j 0) : ∀ a b : Nat, a < b → b < i + 1 → q.getD a 0 ≤ q.getD b 0 := fun a b h1 h2 => by
  by_cases hb : b = j + 1
  · subst hb
    by_cases ha : a = j
    · subst ha; omega
    · have := h a j (by omega) (by omega) (by omega)
      omega
  · exact h a b h1 (by omega) hb
theorem swap_perm {q : List Int} {j : Nat} (hj : j + 1 < q.length) : ((q.set (j + 1) (q.getD j 0)).set j (q.getD (j + 1) 0)).Perm q := by
  induction q generalizing j with
  | nil => simp at hj
  | cons x q ih =>
    cases j with
    | zero =>
      cases q with
      | nil => simp at hj
      | cons y q => exact List.Perm.swap x y q
    | succ j =>
      have := ih (j := j) (by simpa using hj)
      simpa using this.cons x
theorem srt_pairwise {q : List Int} (h : ∀ a b : Nat, a < b → b < q.length → q.getD a 0 ≤ q.getD b 0) : q.Pairwise (· ≤ ·) := by
  rw [List.pairwise_iff_getElem]
  intro i j hi hj hij
  have := h i j hij hj
  simpa [List.getD_eq_getElem?_getD, hi, hj] using this
theorem comps_sorted {n : Nat} {l : List ColP} {ks r : List Int} (h : PlOk n l) (h5 : ks.contains 5 = false) (hp : r.Perm (compsOf l ks)) (hs : r.Pairwise (· ≤ ·)) : r = (compsN n l ks).map Int.ofNat := by
  have hin : ∀ c ∈ r, 0 ≤ c ∧ c < (n : Int) := fun c hc => compsOf_in h h5 c (hp.mem_iff.1 hc)
  have hnd : r.Nodup := hp.nodup_iff.2 (compsOf_nodup h h5)
  have hlt : r.Pairwise (· < ·) := (hs.and hnd).imp fun {a b} hab => by have := hab.1; have := hab.2; omega
  have h1 : (r.map Int.toNat).Pairwise (· < ·) := by
    rw [List.pairwise_map]
    refine hlt.imp_of_mem fun {a b} ha hb hab => ?_
    have := hin a ha
    have := hin b hb
    omega
  have h2 : r.map Int.toNat = compsN n l ks := by
    refine sorted_ext h1 (List.Pairwise.filter _ List.pairwise_lt_range) fun c => ?_
    unfold compsN
    rw [List.mem_map, List.mem_filter, List.mem_range]
    constructor
    · rintro ⟨x, hx, rfl⟩
      have h6 := hin x hx
      refine ⟨by omega, ?_⟩
      rw [show ((x.toNat : Nat) : Int) = x by omega]
      exact List.elem_eq_true_of_mem (hp.mem_iff.1 hx)
    · rintro ⟨h6, h7⟩
      exact ⟨(c : Int), hp.mem_iff.2 (List.mem_of_elem_eq_true h7), by omega⟩
  have h3 : (r.map Int.toNat).map Int.ofNat = r := by
    rw [List.map_map]
    refine (List.map_congr_left (g := id) fun c hc => ?_).trans (List.map_id r)
    have := hin c hc
    show ((c.toNat : Nat) : Int) = c
    omega
  rw [← h2, h3]
theorem compsN_le (n : Nat) (l : List ColP) (ks : List Int) : (compsN n l ks).length ≤ n := by
  unfold compsN
  exact Nat.le_trans (List.length_filter_le _ _) (by simp)
end Go.Proofs.YtcnbmfaicbkhcaaGreatDoor

/-
  Contracts of plan.Check and of what it calls.
-/
set_option maxRecDepth 100000
namespace Go.Proofs.YtcnbmfaicbkhcaaGreatDoor
open Go Go.RowKit
theorem sizeC (x : ColP) : (Tryz.prog.info? 132).map (·.size) = some (c2c x).length := by kernel_rfl
theorem aggC : aggB Tryz.prog 132 = true := by kernel_rfl
theorem c2c_one (x : ColP) : ∀ u ∈ c2c x, u.oneCell' = true := by simp [c2c]; exact ⟨rfl, rfl⟩
theorem anyP_take {α : Type} {p : α → Bool} {l : List α} {k : Nat} {x : α} (hk : l[k]? = some x) : (l.take (k + 1)).any p = ((l.take k).any p || p x) := by
  rw [List.take_add_one, hk]; simp
theorem anyP_of {α : Type} {p : α → Bool} {l : List α} {k : Nat} {x : α} (hk : l[k]? = some x) (hp : p x = true) : l.any p = true := List.any_eq_true.2 ⟨x, List.mem_of_getElem? hk, hp⟩
attribute [local irreducible] wpList Calls Code.wp
theorem asks_c {w : World} (x : ColP) {b : Bool} (hb : Hid (x.asks = b)) : Calls Tryz.prog 251 #[.agg (c2c x).toArray] w fun r w' => r = .returned (.bool b) ∧ Grew w w' := by
  by_cases h1 : x.k = 1
  · obtain rfl : b = true := by rw [← hb.out]; unfold ColP.asks; simp [h1]
    have d1 : (x.k == 1) = true := by simp [h1]
    clear hb h1
    have hw := St.start w
    go_enter Tryz.func251, Tryz.ntmps251
    go_upto_region 1 with (first
      | (refine wpl_box_v (v := .agg (c2c x).toArray) rfl hw ?_; clear hw; intro g1 w1 hw; replace hw : St w [blk g1 (c2c x).toArray 132] w1 := hw))
    have c0 : World.cell? _ ⟨g1, 0, none⟩ = some (.int .i64 x.k) := Rd.blk (by rfl) _ hw
    go_wp2
    go_ret
    exact ⟨rfl, hw.made_grew⟩
  · have d1 : (x.k == 1) = false := by simp [h1]
    by_cases h2 : x.k = 2
    · obtain rfl : b = true := by rw [← hb.out]; unfold ColP.asks; simp [h2]
      have d2 : (x.k == 2) = true := by simp [h2]
      clear hb h1 h2
      have hw := St.start w
      go_enter Tryz.func251, Tryz.ntmps251
      go_upto_region 1 with (first
        | (refine wpl_box_v (v := .agg (c2c x).toArray) rfl hw ?_; clear hw; intro g1 w1 hw; replace hw : St w [blk g1 (c2c x).toArray 132] w1 := hw))
      have c0 : World.cell? _ ⟨g1, 0, none⟩ = some (.int .i64 x.k) := Rd.blk (by rfl) _ hw
      go_wp2
      go_ret
      exact ⟨rfl, hw.made_grew⟩
    · have d2 : (x.k == 2) = false := by simp [h2]
      obtain ⟨c, hc⟩ : ∃ c, Hid ((x.k == 5) = c) := ⟨_, rfl⟩
      have hbc : Hid (c = b) := by
        rw [Hid, ← hb.out, ← hc.out]; unfold ColP.asks
        by_cases h5 : x.k = 5 <;> simp [h1, h2, h5]
      clear hb h1 h2
      have hw := St.start w
      go_enter Tryz.func251, Tryz.ntmps251
      go_upto_region 1 with (first
        | (refine wpl_box_v (v := .agg (c2c x).toArray) rfl hw ?_; clear hw; intro g1 w1 hw; replace hw : St w [blk g1 (c2c x).toArray 132] w1 := hw))
      have c0 : World.cell? _ ⟨g1, 0, none⟩ = some (.int .i64 x.k) := Rd.blk (by rfl) _ hw
      go_wp2
      go_ret
      exact ⟨by rw [← hbc.out, ← hc.out]; rfl, hw.made_grew⟩
theorem ent_c {w : World} (x : ColP) : Calls Tryz.prog 253 #[.agg (c2c x).toArray] w fun r w' => r = .returned (.bool x.ent) ∧ Grew w w' := by
  have hw := St.start w
  go_enter Tryz.func253, Tryz.ntmps253
  go_upto_region 1 with (first
    | (refine wpl_box_v (v := .agg (c2c x).toArray) rfl hw ?_; clear hw; intro g1 w1 hw; replace hw : St w [blk g1 (c2c x).toArray 132] w1 := hw))
  have c0 : World.cell? _ ⟨g1, 0, none⟩ = some (.int .i64 x.k) := Rd.blk (by rfl) _ hw
  go_wp2
  go_ret
  exact ⟨rfl, hw.made_grew⟩
theorem chk1_c {w : World} {ga gc : Nat} (x0 x : ColP) (k0 : w.cell? ⟨ga, 0, none⟩ = some (.bool x0.ent)) (k1 : w.cell? ⟨gc, 1, none⟩ = some (.int .i64 x0.c)) {b : Bool} (hb : Hid (x0.tw x = b)) :
    Calls Tryz.prog 301 #[.agg (c2c x).toArray, .pointer (some ⟨ga, 0, none⟩), .pointer (some ⟨gc, 0, none⟩)] w fun r w' => r = .returned (.bool b) ∧ Grew w w' := by
  obtain ⟨a, ha⟩ : ∃ a, Hid (x0.ent = a) := ⟨_, rfl⟩
  rw [ha.out] at k0
  by_cases h1 : ((x.k == 5) == a) = true
  · have hbc : Hid ((x.c == x0.c) = b) := by
      rw [Hid, ← hb.out]; unfold ColP.tw
      rw [ha.out]
      have : (x.ent == a) = true := h1
      rw [this]; rfl
    clear hb
    have hw := St.start w
    go_enter Tryz.func301, Tryz.ntmps301
    go_upto_region 1 with (first
      | (refine wpl_box_v (v := .agg (c2c x).toArray) rfl hw ?_; clear hw; intro g1 w1 hw; replace hw : St w [blk g1 (c2c x).toArray 132] w1 := hw))
    have c0 : World.cell? _ ⟨g1, 0, none⟩ = some (.int .i64 x.k) := Rd.blk (by rfl) _ hw
    have c1 : World.cell? _ ⟨g1, 1, none⟩ = some (.int .i64 x.c) := Rd.blk (by rfl) _ hw
    have j0 := hw.made_grew.cell k0
    have j1 := hw.made_grew.cell k1
    go_wp2
    go_ret
    exact ⟨by rw [← hbc.out]; rfl, hw.made_grew⟩
  · replace h1 : ((x.k == 5) == a) = false := by simpa using h1
    obtain rfl : b = false := by
      rw [← hb.out]; unfold ColP.tw
      rw [ha.out]
      have : (x.ent == a) = false := h1
      rw [this]; rfl
    clear hb
    have hw := St.start w
    go_enter Tryz.func301, Tryz.ntmps301
    go_upto_region 1 with (first
      | (refine wpl_box_v (v := .agg (c2c x).toArray) rfl hw ?_; clear hw; intro g1 w1 hw; replace hw : St w [blk g1 (c2c x).toArray 132] w1 := hw))
    have c0 : World.cell? _ ⟨g1, 0, none⟩ = some (.int .i64 x.k) := Rd.blk (by rfl) _ hw
    have c1 : World.cell? _ ⟨g1, 1, none⟩ = some (.int .i64 x.c) := Rd.blk (by rfl) _ hw
    have j0 := hw.made_grew.cell k0
    have j1 := hw.made_grew.cell k1
    go_wp2
    go_ret
    exact ⟨rfl, hw.made_grew⟩
theorem idx_asks {w w0 : World} {L : List As}  {l : List ColP} {D : Option Addr} {cap m : Nat} (hn : Hid (l.length = m)) (hl : m ≤ 4000000000) (hs : St w0 L w) (hr : RdS w0 L D (l.flatMap c2c)) (HB : Hid (∀ (w : World) (x : ColP) (b : Bool), St w0 L w → Hid (ColP.asks x = b) → Calls Tryz.prog 251 #[.agg (c2c x).toArray] w fun r w' => r = .returned (.bool b) ∧ Grew w w')) :
    Calls Tryz.prog 302 #[.slice D m cap, .func (Fn.func 251) #[] #[]] w fun r w' => ∃ i : Int, r = .returned (.int .i64 i) ∧ decide (i ≥ 0) = l.any (ColP.asks) ∧ Grew w w' := by
  go_enter Tryz.func302, Tryz.ntmps302
  go_wp2
  go_loopw [8] (fun cv wr => ∃ k : Nat, k ≤ m ∧ Hid ((l.take k).any (ColP.asks) = false) ∧ cv = .int .i64 (k : Nat) ∧ Grew w wr) (fun cv _ => m - (intOf cv).toNat)
  case atStart => exact ⟨0, by omega, rfl, rfl, Grew.refl _⟩
  case round =>
    obtain ⟨k, hk, hf, rfl, hg⟩ := hrel
    by_cases hkn : k < m
    · obtain ⟨x, hx⟩ : ∃ x, Hid (l[k]? = some x) := ⟨l[k]'(by rw [hn.out]; exact hkn), List.getElem?_eq_getElem _⟩
      have hs2 := hs.grew hg
      have hcell := fun j u hu => hr.get (flat_get c2c_len hx.out j u hu)
      obtain ⟨gb, off, rfl, _⟩ := hcell 0 _ rfl
      have hrd : ∀ j u, (c2c x)[j]? = some u → Rd w0 L ⟨gb, off + k * 2 + j, none⟩ u := fun j u hu => by
        obtain ⟨b', o', he, h⟩ := hcell j u hu
        injection he with he
        injection he with e1 e2
        subst e1; subst e2
        rw [Nat.add_assoc]; exact h
      obtain ⟨b, hb⟩ : ∃ b, Hid (ColP.asks x = b) := ⟨_, rfl⟩
      cases b
      · go_wp2_with (first
          | (refine wpl_load_agg (cs := c2c x) (b := gb) (o := off + k * 2) rfl aggC (sizeC x) hs2 hrd ?_)
          | (go_at_call 251; refine (HB.out _ _ _ hs2 hb).mono ?_; rintro r w' ⟨rfl, hg2⟩))
        go_roundw
        case rel => exact ⟨k + 1, by omega, by rw [Hid, anyP_take hx.out, hf.out, hb.out]; rfl, by simp, hg.trans hg2⟩
        case measure => simp [intOf]; omega
      · go_wp2_with (first
          | (refine wpl_load_agg (cs := c2c x) (b := gb) (o := off + k * 2) rfl aggC (sizeC x) hs2 hrd ?_)
          | (go_at_call 251; refine (HB.out _ _ _ hs2 hb).mono ?_; rintro r w' ⟨rfl, hg2⟩))
        go_ret
        exact ⟨(k : Nat), rfl, by rw [anyP_of hx.out hb.out]; simp, hg.trans hg2⟩
    · obtain rfl : k = m := by omega
      go_wp2
      go_ret
      exact ⟨-1, rfl, by rw [← hn.out, List.take_length] at hf; rw [hf.out]; rfl, hg⟩
theorem con_asks {w w0 : World} {L : List As}  {l : List ColP} {D : Option Addr} {cap m : Nat} (hn : Hid (l.length = m)) (hl : m ≤ 4000000000) (hs : St w0 L w) (hr : RdS w0 L D (l.flatMap c2c)) (HB : Hid (∀ (w : World) (x : ColP) (b : Bool), St w0 L w → Hid (ColP.asks x = b) → Calls Tryz.prog 251 #[.agg (c2c x).toArray] w fun r w' => r = .returned (.bool b) ∧ Grew w w')) {b : Bool} (hb : Hid (l.any (ColP.asks) = b)) :
    Calls Tryz.prog 250 #[.slice D m cap, .func (Fn.func 251) #[] #[]] w fun r w' => r = .returned (.bool b) ∧ Grew w w' := by
  have HC := Lib.hid (idx_asks (cap := cap) hn hl hs hr HB)
  rw [hb.out] at HC
  clear hl hr HB
  go_enter Tryz.func250, Tryz.ntmps250
  go_wp2_with (first
    | (go_at_call 302; refine HC.out.mono ?_; rintro r w' ⟨i, rfl, hi, hg⟩))
  go_ret
  exact ⟨by rw [← hi]; rfl, hg⟩
theorem idx_ent {w w0 : World} {L : List As}  {l : List ColP} {D : Option Addr} {cap m : Nat} (hn : Hid (l.length = m)) (hl : m ≤ 4000000000) (hs : St w0 L w) (hr : RdS w0 L D (l.flatMap c2c)) (HB : Hid (∀ (w : World) (x : ColP) (b : Bool), St w0 L w → Hid (ColP.ent x = b) → Calls Tryz.prog 253 #[.agg (c2c x).toArray] w fun r w' => r = .returned (.bool b) ∧ Grew w w')) :
    Calls Tryz.prog 302 #[.slice D m cap, .func (Fn.func 253) #[] #[]] w fun r w' => ∃ i : Int, r = .returned (.int .i64 i) ∧ decide (i ≥ 0) = l.any (ColP.ent) ∧ Grew w w' := by
  go_enter Tryz.func302, Tryz.ntmps302
  go_wp2
  go_loopw [8] (fun cv wr => ∃ k : Nat, k ≤ m ∧ Hid ((l.take k).any (ColP.ent) = false) ∧ cv = .int .i64 (k : Nat) ∧ Grew w wr) (fun cv _ => m - (intOf cv).toNat)
  case atStart => exact ⟨0, by omega, rfl, rfl, Grew.refl _⟩
  case round =>
    obtain ⟨k, hk, hf, rfl, hg⟩ := hrel
    by_cases hkn : k < m
    · obtain ⟨x, hx⟩ : ∃ x, Hid (l[k]? = some x) := ⟨l[k]'(by rw [hn.out]; exact hkn), List.getElem?_eq_getElem _⟩
      have hs2 := hs.grew hg
      have hcell := fun j u hu => hr.get (flat_get c2c_len hx.out j u hu)
      obtain ⟨gb, off, rfl, _⟩ := hcell 0 _ rfl
      have hrd : ∀ j u, (c2c x)[j]? = some u → Rd w0 L ⟨gb, off + k * 2 + j, none⟩ u := fun j u hu => by
        obtain ⟨b', o', he, h⟩ := hcell j u hu
        injection he with he
        injection he with e1 e2
        subst e1; subst e2
        rw [Nat.add_assoc]; exact h
      obtain ⟨b, hb⟩ : ∃ b, Hid (ColP.ent x = b) := ⟨_, rfl⟩
      cases b
      · go_wp2_with (first
          | (refine wpl_load_agg (cs := c2c x) (b := gb) (o := off + k * 2) rfl aggC (sizeC x) hs2 hrd ?_)
          | (go_at_call 253; refine (HB.out _ _ _ hs2 hb).mono ?_; rintro r w' ⟨rfl, hg2⟩))
        go_roundw
        case rel => exact ⟨k + 1, by omega, by rw [Hid, anyP_take hx.out, hf.out, hb.out]; rfl, by simp, hg.trans hg2⟩
        case measure => simp [intOf]; omega
      · go_wp2_with (first
          | (refine wpl_load_agg (cs := c2c x) (b := gb) (o := off + k * 2) rfl aggC (sizeC x) hs2 hrd ?_)
          | (go_at_call 253; refine (HB.out _ _ _ hs2 hb).mono ?_; rintro r w' ⟨rfl, hg2⟩))
        go_ret
        exact ⟨(k : Nat), rfl, by rw [anyP_of hx.out hb.out]; simp, hg.trans hg2⟩
    · obtain rfl : k = m := by omega
      go_wp2
      go_ret
      exact ⟨-1, rfl, by rw [← hn.out, List.take_length] at hf; rw [hf.out]; rfl, hg⟩
theorem con_ent {w w0 : World} {L : List As}  {l : List ColP} {D : Option Addr} {cap m : Nat} (hn : Hid (l.length = m)) (hl : m ≤ 4000000000) (hs : St w0 L w) (hr : RdS w0 L D (l.flatMap c2c)) (HB : Hid (∀ (w : World) (x : ColP) (b : Bool), St w0 L w → Hid (ColP.ent x = b) → Calls Tryz.prog 253 #[.agg (c2c x).toArray] w fun r w' => r = .returned (.bool b) ∧ Grew w w')) {b : Bool} (hb : Hid (l.any (ColP.ent) = b)) :
    Calls Tryz.prog 250 #[.slice D m cap, .func (Fn.func 253) #[] #[]] w fun r w' => r = .returned (.bool b) ∧ Grew w w' := by
  have HC := Lib.hid (idx_ent (cap := cap) hn hl hs hr HB)
  rw [hb.out] at HC
  clear hl hr HB
  go_enter Tryz.func250, Tryz.ntmps250
  go_wp2_with (first
    | (go_at_call 302; refine HC.out.mono ?_; rintro r w' ⟨i, rfl, hi, hg⟩))
  go_ret
  exact ⟨by rw [← hi]; rfl, hg⟩
theorem idx_tw {w w0 : World} {L : List As} {ga gc : Nat} {x0 : ColP} {l : List ColP} {D : Option Addr} {cap m : Nat} (hn : Hid (l.length = m)) (hl : m ≤ 4000000000) (hs : St w0 L w) (hr : RdS w0 L D (l.flatMap c2c)) (HB : Hid (∀ (w : World) (x : ColP) (b : Bool), St w0 L w → Hid (x0.tw x = b) → Calls Tryz.prog 301 #[.agg (c2c x).toArray, .pointer (some ⟨ga, 0, none⟩), .pointer (some ⟨gc, 0, none⟩)] w fun r w' => r = .returned (.bool b) ∧ Grew w w')) :
    Calls Tryz.prog 302 #[.slice D m cap, .func (Fn.func 301) #[] #[.pointer (some ⟨ga, 0, none⟩), .pointer (some ⟨gc, 0, none⟩)]] w fun r w' => ∃ i : Int, r = .returned (.int .i64 i) ∧ decide (i ≥ 0) = l.any (x0.tw) ∧ Grew w w' := by
  go_enter Tryz.func302, Tryz.ntmps302
  go_wp2
  go_loopw [8] (fun cv wr => ∃ k : Nat, k ≤ m ∧ Hid ((l.take k).any (x0.tw) = false) ∧ cv = .int .i64 (k : Nat) ∧ Grew w wr) (fun cv _ => m - (intOf cv).toNat)
  case atStart => exact ⟨0, by omega, rfl, rfl, Grew.refl _⟩
  case round =>
    obtain ⟨k, hk, hf, rfl, hg⟩ := hrel
    by_cases hkn : k < m
    · obtain ⟨x, hx⟩ : ∃ x, Hid (l[k]? = some x) := ⟨l[k]'(by rw [hn.out]; exact hkn), List.getElem?_eq_getElem _⟩
      have hs2 := hs.grew hg
      have hcell := fun j u hu => hr.get (flat_get c2c_len hx.out j u hu)
      obtain ⟨gb, off, rfl, _⟩ := hcell 0 _ rfl
      have hrd : ∀ j u, (c2c x)[j]? = some u → Rd w0 L ⟨gb, off + k * 2 + j, none⟩ u := fun j u hu => by
        obtain ⟨b', o', he, h⟩ := hcell j u hu
        injection he with he
        injection he with e1 e2
        subst e1; subst e2
        rw [Nat.add_assoc]; exact h
      obtain ⟨b, hb⟩ : ∃ b, Hid (x0.tw x = b) := ⟨_, rfl⟩
      cases b
      · go_wp2_with (first
          | (refine wpl_load_agg (cs := c2c x) (b := gb) (o := off + k * 2) rfl aggC (sizeC x) hs2 hrd ?_)
          | (go_at_call 301; refine (HB.out _ _ _ hs2 hb).mono ?_; rintro r w' ⟨rfl, hg2⟩))
        go_roundw
        case rel => exact ⟨k + 1, by omega, by rw [Hid, anyP_take hx.out, hf.out, hb.out]; rfl, by simp, hg.trans hg2⟩
        case measure => simp [intOf]; omega
      · go_wp2_with (first
          | (refine wpl_load_agg (cs := c2c x) (b := gb) (o := off + k * 2) rfl aggC (sizeC x) hs2 hrd ?_)
          | (go_at_call 301; refine (HB.out _ _ _ hs2 hb).mono ?_; rintro r w' ⟨rfl, hg2⟩))
        go_ret
        exact ⟨(k : Nat), rfl, by rw [anyP_of hx.out hb.out]; simp, hg.trans hg2⟩
    · obtain rfl : k = m := by omega
      go_wp2
      go_ret
      exact ⟨-1, rfl, by rw [← hn.out, List.take_length] at hf; rw [hf.out]; rfl, hg⟩
theorem con_tw {w w0 : World} {L : List As} {ga gc : Nat} {x0 : ColP} {l : List ColP} {D : Option Addr} {cap m : Nat} (hn : Hid (l.length = m)) (hl : m ≤ 4000000000) (hs : St w0 L w) (hr : RdS w0 L D (l.flatMap c2c)) (HB : Hid (∀ (w : World) (x : ColP) (b : Bool), St w0 L w → Hid (x0.tw x = b) → Calls Tryz.prog 301 #[.agg (c2c x).toArray, .pointer (some ⟨ga, 0, none⟩), .pointer (some ⟨gc, 0, none⟩)] w fun r w' => r = .returned (.bool b) ∧ Grew w w')) {b : Bool} (hb : Hid (l.any (x0.tw) = b)) :
    Calls Tryz.prog 250 #[.slice D m cap, .func (Fn.func 301) #[] #[.pointer (some ⟨ga, 0, none⟩), .pointer (some ⟨gc, 0, none⟩)]] w fun r w' => r = .returned (.bool b) ∧ Grew w w' := by
  have HC := Lib.hid (idx_tw (cap := cap) hn hl hs hr HB)
  rw [hb.out] at HC
  clear hl hr HB
  go_enter Tryz.func250, Tryz.ntmps250
  go_wp2_with (first
    | (go_at_call 302; refine HC.out.mono ?_; rintro r w' ⟨i, rfl, hi, hg⟩))
  go_ret
  exact ⟨by rw [← hi]; rfl, hg⟩
end Go.Proofs.YtcnbmfaicbkhcaaGreatDoor

/-
  Contracts of plan.check.
-/
set_option maxRecDepth 100000
namespace Go.Proofs.YtcnbmfaicbkhcaaGreatDoor
open Go Go.RowKit
theorem zeroBoP : (Tryz.prog.info? 4).bind (·.zero) = some (.bool false) := by kernel_rfl
theorem size_boP : (Tryz.prog.info? 4).map (·.size) = some 1 := by kernel_rfl
theorem Wr.one {w0 : World} {g : Nat} {u v : Value} {t : TypeId} {L : List As} : Wr w0 (YtcnbmfaicbkhcaaGreatDoor.blk g #[u] t :: L) ⟨g, 0, none⟩ v (YtcnbmfaicbkhcaaGreatDoor.blk g #[v] t :: L) := Wr.blk (by simp)
theorem RdS.hereP {w0 w : World} {L : List As} {A : Option Addr} {xs : List Value} (h : RdS w0 L A xs) (hs : St w0 L w) : RdS w [] A xs := fun k u hu => let ⟨ad, h1, h2, h3⟩ := h k u hu; ⟨ad, h1, h2, Rd.old (h3 _ hs)⟩
attribute [local irreducible] wpList Calls Code.wp
set_option maxHeartbeats 4000000 in
theorem chk_c {w0 w : World} {L : List As} (hs : St w0 L w) {A : Option Addr} {n cA : Nat} (x : ColP) {a : List ColP} {D : Option Addr} {m cap : Nat} (hm : Hid (a.length = m)) (hmb : m ≤ 4000000000) (hr : RdS w0 L D (a.flatMap c2c)) {e : Int} (he : Hid (colE n x a = e)) :
    Calls Tryz.prog 249 #[.slice A n cA, .agg (c2c x).toArray, .slice D m cap] w fun r w' => r = .returned (.int .i64 e) ∧ Grew w w' := by
  have hrw := hr.hereP hs
  obtain ⟨b, HB⟩ : ∃ b, Hid (a.any (ColP.tw x) = b) := ⟨_, rfl⟩
  clear hs hr
  by_cases h1 : x.k < 1
  · obtain rfl : e = 1 := by rw [← he.out]; unfold colE; rw [if_pos (.inl h1)]
    have d1 : decide (x.k < 1) = true := decide_eq_true h1
    have d5 : (x.k == 5) = false := by have : x.k ≠ 5 := by omega
                                       simpa using this
    clear he h1
    have hw := St.start w
    go_enter Tryz.func249, Tryz.ntmps249
    go_upto_region 1 with (first
      | (refine wpl_box_v (v := .agg (c2c x).toArray) rfl hw ?_; clear hw; intro g4 w1 hw; replace hw : St w [blk g4 (c2c x).toArray 132] w1 := hw))
    have c0 : World.cell? _ ⟨g4, 0, none⟩ = some (.int .i64 x.k) := Rd.blk (by rfl) _ hw
    go_upto_region 2 with (first
      | (refine wpl_alloc zeroBoP hw ?_; clear hw c0; intro g7 w2 hw; replace hw : St w [blk g7 #[.bool false] 4, blk g4 (c2c x).toArray 132] w2 := hw)
      | (refine wpl_store (v := .bool false) rfl rfl rfl size_boP hw Wr.one ?_; clear hw; intro w3 hw))
    have c0 : World.cell? _ ⟨g4, 0, none⟩ = some (.int .i64 x.k) := Rd.blk (by rfl) _ hw.drop
    have c1 : World.cell? _ ⟨g4, 1, none⟩ = some (.int .i64 x.c) := Rd.blk (by rfl) _ hw.drop
    have c7 : World.cell? _ ⟨g7, 0, none⟩ = some (.bool false) := Rd.blk (by rfl) _ hw
    go_wp2
    go_ret
    exact ⟨rfl, hw.made_grew⟩
  have d1 : decide (x.k < 1) = false := decide_eq_false h1
  by_cases h2 : x.k > 5
  · obtain rfl : e = 1 := by rw [← he.out]; unfold colE; rw [if_pos (.inr (.inl h2))]
    have d2 : decide (x.k > 5) = true := decide_eq_true h2
    have d5 : (x.k == 5) = false := by
      have : x.k ≠ 5 := by omega
      simpa using this
    clear he h1 h2
    have hw := St.start w
    go_enter Tryz.func249, Tryz.ntmps249
    go_upto_region 1 with (first
      | (refine wpl_box_v (v := .agg (c2c x).toArray) rfl hw ?_; clear hw; intro g4 w1 hw; replace hw : St w [blk g4 (c2c x).toArray 132] w1 := hw))
    have c0 : World.cell? _ ⟨g4, 0, none⟩ = some (.int .i64 x.k) := Rd.blk (by rfl) _ hw
    go_upto_region 2 with (first
      | (refine wpl_alloc zeroBoP hw ?_; clear hw c0; intro g7 w2 hw; replace hw : St w [blk g7 #[.bool false] 4, blk g4 (c2c x).toArray 132] w2 := hw)
      | (refine wpl_store (v := .bool false) rfl rfl rfl size_boP hw Wr.one ?_; clear hw; intro w3 hw))
    have c0 : World.cell? _ ⟨g4, 0, none⟩ = some (.int .i64 x.k) := Rd.blk (by rfl) _ hw.drop
    have c1 : World.cell? _ ⟨g4, 1, none⟩ = some (.int .i64 x.c) := Rd.blk (by rfl) _ hw.drop
    have c7 : World.cell? _ ⟨g7, 0, none⟩ = some (.bool false) := Rd.blk (by rfl) _ hw
    go_wp2
    go_ret
    exact ⟨rfl, hw.made_grew⟩
  have d2 : decide (x.k > 5) = false := decide_eq_false h2
  by_cases h5 : x.k = 5
  · have d5 : (x.k == 5) = true := by simp [h5]
    have hent : Hid (x.ent = true) := by unfold ColP.ent; simp [Hid, h5]
    by_cases hc : x.c = 0
    · have hbe : Hid ((if b then (15 : Int) else 0) = e) := by
        rw [Hid, ← he.out]; unfold colE
        rw [if_neg (show ¬ (x.k < 1 ∨ 5 < x.k ∨ (x.k = 5 ∧ x.c ≠ 0)) by omega), if_neg (show ¬ (x.k ≠ 5 ∧ (x.c < 0 ∨ (n : Int) ≤ x.c)) by omega), HB.out]
      have d6 : (x.c != 0) = false := by simp [hc]
      clear he h1 h2 h5 hc
      have hw := St.start w
      go_enter Tryz.func249, Tryz.ntmps249
      go_upto_region 1 with (first
        | (refine wpl_box_v (v := .agg (c2c x).toArray) rfl hw ?_; clear hw; intro g4 w1 hw; replace hw : St w [blk g4 (c2c x).toArray 132] w1 := hw))
      have c0 : World.cell? _ ⟨g4, 0, none⟩ = some (.int .i64 x.k) := Rd.blk (by rfl) _ hw
      go_upto_region 2 with (first
        | (refine wpl_alloc zeroBoP hw ?_; clear hw c0; intro g7 w2 hw; replace hw : St w [blk g7 #[.bool false] 4, blk g4 (c2c x).toArray 132] w2 := hw)
        | (refine wpl_store (v := .bool true) rfl rfl rfl size_boP hw Wr.one ?_; clear hw; intro w3 hw))
      have c0 : World.cell? _ ⟨g4, 0, none⟩ = some (.int .i64 x.k) := Rd.blk (by rfl) _ hw.drop
      have c1 : World.cell? _ ⟨g4, 1, none⟩ = some (.int .i64 x.c) := Rd.blk (by rfl) _ hw.drop
      have c7 : World.cell? _ ⟨g7, 0, none⟩ = some (.bool true) := Rd.blk (by rfl) _ hw
      cases b
      · (go_wp2_with (first
          | (go_at_call 250; refine (con_tw (x0 := x) hm hmb hw hrw.tail.tail (fun w' y b hq hb => chk1_c x y (by rw [hent.out]; exact Rd.blk (by rfl) _ hq) (Rd.blk (by rfl) _ hq.drop) hb) HB).mono ?_; rintro r w' ⟨rfl, hg⟩)))
        go_ret
        exact ⟨by rw [← hbe.out]; rfl, hw.made_grew.trans hg⟩
      · (go_wp2_with (first
          | (go_at_call 250; refine (con_tw (x0 := x) hm hmb hw hrw.tail.tail (fun w' y b hq hb => chk1_c x y (by rw [hent.out]; exact Rd.blk (by rfl) _ hq) (Rd.blk (by rfl) _ hq.drop) hb) HB).mono ?_; rintro r w' ⟨rfl, hg⟩)))
        go_ret
        exact ⟨by rw [← hbe.out]; rfl, hw.made_grew.trans hg⟩
    · obtain rfl : e = 1 := by rw [← he.out]; unfold colE; rw [if_pos (.inr (.inr ⟨h5, hc⟩))]
      have d6 : (x.c != 0) = true := by simp [hc]
      clear he h1 h2 h5 hc
      have hw := St.start w
      go_enter Tryz.func249, Tryz.ntmps249
      go_upto_region 1 with (first
        | (refine wpl_box_v (v := .agg (c2c x).toArray) rfl hw ?_; clear hw; intro g4 w1 hw; replace hw : St w [blk g4 (c2c x).toArray 132] w1 := hw))
      have c0 : World.cell? _ ⟨g4, 0, none⟩ = some (.int .i64 x.k) := Rd.blk (by rfl) _ hw
      go_upto_region 2 with (first
        | (refine wpl_alloc zeroBoP hw ?_; clear hw c0; intro g7 w2 hw; replace hw : St w [blk g7 #[.bool false] 4, blk g4 (c2c x).toArray 132] w2 := hw)
        | (refine wpl_store (v := .bool true) rfl rfl rfl size_boP hw Wr.one ?_; clear hw; intro w3 hw))
      have c0 : World.cell? _ ⟨g4, 0, none⟩ = some (.int .i64 x.k) := Rd.blk (by rfl) _ hw.drop
      have c1 : World.cell? _ ⟨g4, 1, none⟩ = some (.int .i64 x.c) := Rd.blk (by rfl) _ hw.drop
      have c7 : World.cell? _ ⟨g7, 0, none⟩ = some (.bool true) := Rd.blk (by rfl) _ hw
      go_wp2
      go_ret
      exact ⟨rfl, hw.made_grew⟩
  · have d5 : (x.k == 5) = false := by simp [h5]
    have hent : Hid (x.ent = false) := by unfold ColP.ent; simp [Hid, h5]
    by_cases h0 : x.c < 0
    · obtain rfl : e = 11 := by rw [← he.out]; unfold colE; rw [if_neg (by omega), if_pos ⟨h5, .inl h0⟩]
      have d6 : decide (x.c < 0) = true := decide_eq_true h0
      clear he h1 h2 h5 h0
      have hw := St.start w
      go_enter Tryz.func249, Tryz.ntmps249
      go_upto_region 1 with (first
        | (refine wpl_box_v (v := .agg (c2c x).toArray) rfl hw ?_; clear hw; intro g4 w1 hw; replace hw : St w [blk g4 (c2c x).toArray 132] w1 := hw))
      have c0 : World.cell? _ ⟨g4, 0, none⟩ = some (.int .i64 x.k) := Rd.blk (by rfl) _ hw
      go_upto_region 2 with (first
        | (refine wpl_alloc zeroBoP hw ?_; clear hw c0; intro g7 w2 hw; replace hw : St w [blk g7 #[.bool false] 4, blk g4 (c2c x).toArray 132] w2 := hw)
        | (refine wpl_store (v := .bool false) rfl rfl rfl size_boP hw Wr.one ?_; clear hw; intro w3 hw))
      have c0 : World.cell? _ ⟨g4, 0, none⟩ = some (.int .i64 x.k) := Rd.blk (by rfl) _ hw.drop
      have c1 : World.cell? _ ⟨g4, 1, none⟩ = some (.int .i64 x.c) := Rd.blk (by rfl) _ hw.drop
      have c7 : World.cell? _ ⟨g7, 0, none⟩ = some (.bool false) := Rd.blk (by rfl) _ hw
      go_wp2
      go_ret
      exact ⟨rfl, hw.made_grew⟩
    have d6 : decide (x.c < 0) = false := decide_eq_false h0
    by_cases hn : x.c ≥ (n : Int)
    · obtain rfl : e = 11 := by rw [← he.out]; unfold colE; rw [if_neg (by omega), if_pos ⟨h5, .inr hn⟩]
      have d7 : decide (x.c ≥ (n : Int)) = true := decide_eq_true hn
      clear he h1 h2 h5 h0 hn
      have hw := St.start w
      go_enter Tryz.func249, Tryz.ntmps249
      go_upto_region 1 with (first
        | (refine wpl_box_v (v := .agg (c2c x).toArray) rfl hw ?_; clear hw; intro g4 w1 hw; replace hw : St w [blk g4 (c2c x).toArray 132] w1 := hw))
      have c0 : World.cell? _ ⟨g4, 0, none⟩ = some (.int .i64 x.k) := Rd.blk (by rfl) _ hw
      go_upto_region 2 with (first
        | (refine wpl_alloc zeroBoP hw ?_; clear hw c0; intro g7 w2 hw; replace hw : St w [blk g7 #[.bool false] 4, blk g4 (c2c x).toArray 132] w2 := hw)
        | (refine wpl_store (v := .bool false) rfl rfl rfl size_boP hw Wr.one ?_; clear hw; intro w3 hw))
      have c0 : World.cell? _ ⟨g4, 0, none⟩ = some (.int .i64 x.k) := Rd.blk (by rfl) _ hw.drop
      have c1 : World.cell? _ ⟨g4, 1, none⟩ = some (.int .i64 x.c) := Rd.blk (by rfl) _ hw.drop
      have c7 : World.cell? _ ⟨g7, 0, none⟩ = some (.bool false) := Rd.blk (by rfl) _ hw
      go_wp2
      go_ret
      exact ⟨rfl, hw.made_grew⟩
    · have d7 : decide (x.c ≥ (n : Int)) = false := decide_eq_false hn
      have hbe : Hid ((if b then (15 : Int) else 0) = e) := by
        rw [Hid, ← he.out]; unfold colE
        rw [if_neg (show ¬ (x.k < 1 ∨ 5 < x.k ∨ (x.k = 5 ∧ x.c ≠ 0)) by omega), if_neg (show ¬ (x.k ≠ 5 ∧ (x.c < 0 ∨ (n : Int) ≤ x.c)) by omega), HB.out]
      clear he h1 h2 h5 h0 hn
      have hw := St.start w
      go_enter Tryz.func249, Tryz.ntmps249
      go_upto_region 1 with (first
        | (refine wpl_box_v (v := .agg (c2c x).toArray) rfl hw ?_; clear hw; intro g4 w1 hw; replace hw : St w [blk g4 (c2c x).toArray 132] w1 := hw))
      have c0 : World.cell? _ ⟨g4, 0, none⟩ = some (.int .i64 x.k) := Rd.blk (by rfl) _ hw
      go_upto_region 2 with (first
        | (refine wpl_alloc zeroBoP hw ?_; clear hw c0; intro g7 w2 hw; replace hw : St w [blk g7 #[.bool false] 4, blk g4 (c2c x).toArray 132] w2 := hw)
        | (refine wpl_store (v := .bool false) rfl rfl rfl size_boP hw Wr.one ?_; clear hw; intro w3 hw))
      have c0 : World.cell? _ ⟨g4, 0, none⟩ = some (.int .i64 x.k) := Rd.blk (by rfl) _ hw.drop
      have c1 : World.cell? _ ⟨g4, 1, none⟩ = some (.int .i64 x.c) := Rd.blk (by rfl) _ hw.drop
      have c7 : World.cell? _ ⟨g7, 0, none⟩ = some (.bool false) := Rd.blk (by rfl) _ hw
      cases b
      · (go_wp2_with (first
          | (go_at_call 250; refine (con_tw (x0 := x) hm hmb hw hrw.tail.tail (fun w' y b hq hb => chk1_c x y (by rw [hent.out]; exact Rd.blk (by rfl) _ hq) (Rd.blk (by rfl) _ hq.drop) hb) HB).mono ?_; rintro r w' ⟨rfl, hg⟩)))
        go_ret
        exact ⟨by rw [← hbe.out]; rfl, hw.made_grew.trans hg⟩
      · (go_wp2_with (first
          | (go_at_call 250; refine (con_tw (x0 := x) hm hmb hw hrw.tail.tail (fun w' y b hq hb => chk1_c x y (by rw [hent.out]; exact Rd.blk (by rfl) _ hq) (Rd.blk (by rfl) _ hq.drop) hb) HB).mono ?_; rintro r w' ⟨rfl, hg⟩)))
        go_ret
        exact ⟨by rw [← hbe.out]; rfl, hw.made_grew.trans hg⟩
end Go.Proofs.YtcnbmfaicbkhcaaGreatDoor

/-
  Contract of plan.Check.
-/
set_option maxRecDepth 100000
namespace Go.Proofs.YtcnbmfaicbkhcaaGreatDoor
open Go Go.RowKit
theorem firstE_stay {n : Nat} {l : List ColP} {k : Nat} (h : firstE n l k ≠ 0) : ∀ j, firstE n l (k + j) = firstE n l k
  | 0 => rfl
  | j + 1 => by
    have ih := firstE_stay h j
    rw [← Nat.add_assoc]
    show (if firstE n l (k + j) ≠ 0 then firstE n l (k + j) else _) = _
    rw [if_pos (by rw [ih]; exact h), ih]
theorem firstE_step {n : Nat} {l : List ColP} {k : Nat} {x : ColP} (h : firstE n l k = 0) (hx : l[k]? = some x) : firstE n l (k + 1) = colE n x (l.take k) := by
  show (if firstE n l k ≠ 0 then firstE n l k else match l[k]? with
    | some x => colE n x (l.take k)
    | none => 0) = _
  rw [if_neg (by simpa using h), hx]
theorem planE_first {n : Nat} {l : List ColP} {k : Nat} (hl : ¬ 16 < l.length) (hk : k ≤ l.length) (h : firstE n l k ≠ 0) : planE n l = firstE n l k := by
  have h2 : firstE n l l.length = firstE n l k := by
    have := firstE_stay h (l.length - k)
    rwa [show k + (l.length - k) = l.length by omega] at this
  unfold planE
  rw [if_neg hl, if_pos (by rw [h2]; exact h), h2]
theorem RdS.takeC {w0 : World} {L : List As} {D : Option Addr} {l : List ColP} (h : RdS w0 L D (l.flatMap c2c)) (k : Nat) : RdS w0 L D ((l.take k).flatMap c2c) := fun j u hu => h j u (by
  have e : l.flatMap c2c = (l.take k).flatMap c2c ++ (l.drop k).flatMap c2c := by rw [← List.flatMap_append, List.take_append_drop]
  rw [e, List.getElem?_append_left (List.getElem?_eq_some_iff.1 hu).1]
  exact hu)
theorem zeroCol : (Tryz.prog.info? 132).bind (·.zero) = some (.agg (c2c ⟨0, 0⟩).toArray) := by kernel_rfl
theorem sizeCv (x : ColP) : (Tryz.prog.info? 132).map (·.size) = some (Value.agg (c2c x).toArray).cells.size := by kernel_rfl
theorem WrA.slotCol {w0 : World} {g : Nat} {u v : ColP} {t : TypeId} {L : List As} : WrA w0 (YtcnbmfaicbkhcaaGreatDoor.blk g (c2c u).toArray t :: L) ⟨g, 0, none⟩ (Value.agg (c2c v).toArray).cells.toList (YtcnbmfaicbkhcaaGreatDoor.blk g (c2c v).toArray t :: L) := by
  have := WrA.blk (w0 := w0) (g := g) (o := 0) (cs := c2c u) (t := t) (vs := c2c v) (L := L) (by simp [c2c]) (c2c_one v)
  rwa [splice_all (by simp [c2c])] at this
attribute [local irreducible] wpList Calls Code.wp colE planE firstE
set_option maxHeartbeats 4000000 in
theorem plchk_c {w : World} {A : Option Addr} {n cA : Nat} {l : List ColP} {D : Option Addr} {m cap : Nat} (hm : Hid (l.length = m)) (hmb : m ≤ 4000000000) (hmc : m ≤ cap) (hr : RdS w [] D (l.flatMap c2c)) {e : Int} (he : Hid (planE n l = e)) :
    Calls Tryz.prog 182 #[.slice A n cA, .slice D m cap] w fun r w' => r = .returned (.int .i64 e) ∧ Grew w w' := by
  have HR := Lib.hid hr
  have hs0 := St.start w
  by_cases h16 : m > 16
  · obtain rfl : e = 2 := by rw [← he.out]; unfold planE; rw [if_pos (by rw [hm.out]; exact h16)]
    have d : decide ((m : Int) > 16) = true := decide_eq_true (by omega)
    clear he HR hr
    go_enter Tryz.func182, Tryz.ntmps182
    go_wp2
    go_ret
    exact ⟨rfl, Grew.refl _⟩
  · have d : decide ((m : Int) > 16) = false := decide_eq_false (by omega)
    clear hr
    go_enter Tryz.func182, Tryz.ntmps182
    go_upto_region 4 with (fail)
    go_loopw [13] (fun cv wr => ∃ k : Nat, k ≤ m ∧ Hid (firstE n l k = 0) ∧ cv = .int .i64 (k : Nat) ∧ St w [] wr) (fun cv _ => m - (intOf cv).toNat)
    case atStart => exact ⟨0, Nat.zero_le _, by rw [Hid]; unfold firstE; rfl, rfl, hs0⟩
    case round =>
      clear hs0
      obtain ⟨k, hk, hf, rfl, hw⟩ := hrel
      by_cases hlt : k < m
      · obtain ⟨x, hx⟩ : ∃ x, Hid (l[k]? = some x) := ⟨l[k]'(by rw [hm.out]; exact hlt), List.getElem?_eq_getElem _⟩
        have hcell := fun j u hu => HR.out.get (flat_get c2c_len hx.out j u hu)
        obtain ⟨gb, off, rfl, _⟩ := hcell 0 _ rfl
        have hld : ∀ j u, (c2c x)[j]? = some u → Rd w [] ⟨gb, off + k * 2 + j, none⟩ u := fun j u hu => by
          obtain ⟨b', o', he, h⟩ := hcell j u hu
          injection he with he
          injection he with e1 e2
          subst e1; subst e2
          rw [Nat.add_assoc]; exact h
        obtain ⟨e2, HE⟩ : ∃ z, Hid (colE n x (l.take k) = z) := ⟨_, rfl⟩
        have HF := Lib.hid ((firstE_step hf.out hx.out).trans HE.out)
        have HTK : Hid ((l.take k).length = k) := by rw [Hid, List.length_take, hm.out]; omega
        have HRT := Lib.hid (HR.out.takeC k)
        have hkc : k ≤ cap := by omega
        have hkc2 : (k : Int) ≤ (cap : Int) := by omega
        clear hcell
        go_upto_region 6 with (first
          | (refine wpl_load_agg (cs := c2c x) (b := gb) (o := off + k * 2) rfl aggC (sizeC x) hw hld ?_)
          | (refine wpl_alloc zeroCol hw ?_; clear hw; intro g6 w1 hw; replace hw : St w [blk g6 (c2c ⟨0, 0⟩).toArray 132] w1 := hw)
          | (refine wpl_store_agg (v := .agg (c2c x).toArray) rfl rfl (sizeCv x) hw WrA.slotCol ?_; clear hw; intro w2 hw))
        have k0 : World.cell? w2 ⟨g6, 0, none⟩ = some (.int .i64 x.k) := Rd.blk (by rfl) _ hw
        have k1 : World.cell? w2 ⟨g6, 1, none⟩ = some (.int .i64 x.c) := Rd.blk (by rfl) _ hw
        refine wp_region_grow (by kernel_rfl) (by kernel_rfl) fun hne => ?_
        have f0 := fun p : GW w2 => p.grew.cell k0
        have f1 := fun p : GW w2 => p.grew.cell k1
        repeat (go_big_quiet_step (first
          | (go_at_call 249; exact in_grew (chk_c (hw.grew (GW.grew _)) x HTK (by omega) HRT.out.tail HE))))
        refine wpQuiet_nil ?_
        clear hne f0 f1 k0 k1
        intro u hu
        replace hw := (hw.grew hu).drop
        clear hu
        by_cases h0 : e2 = 0
        · subst h0
          go_wp2
          go_roundw
          case rel => exact ⟨k + 1, by omega, HF, by simp, hw⟩
          case measure => simp [intOf]; omega
        · have d0 : (e2 != 0) = true := by simpa using h0
          obtain rfl : e2 = e := by
            rw [← he.out, planE_first (by rw [hm.out]; exact h16) (by rw [hm.out]; exact hlt) (by rw [HF.out]; exact h0)]
            exact HF.out.symm
          go_wp2
          go_ret
          exact ⟨rfl, hw.made_grew⟩
      · obtain rfl : k = m := by omega
        obtain ⟨b, HB⟩ : ∃ z, Hid (l.any ColP.asks = z) := ⟨_, rfl⟩
        have HE : Hid ((if b then (0 : Int) else 1) = e) := by
          rw [Hid, ← he.out]; unfold planE
          rw [if_neg (show ¬ 16 < l.length by rw [hm.out]; exact h16), if_neg (show ¬ firstE n l l.length ≠ 0 by rw [hm.out]; simpa using hf.out), HB.out]
        clear he hf
        cases b
        · (go_wp2_with (first
            | (go_at_call 250; refine (con_asks hm hmb hw HR.out (fun w' y b hq hb => asks_c y hb) HB).mono ?_; rintro r w' ⟨rfl, hg⟩)))
          go_ret
          exact ⟨by rw [← HE.out]; rfl, hw.made_grew.trans hg⟩
        · (go_wp2_with (first
            | (go_at_call 250; refine (con_asks hm hmb hw HR.out (fun w' y b hq hb => asks_c y hb) HB).mono ?_; rintro r w' ⟨rfl, hg⟩)))
          go_ret
          exact ⟨by rw [← HE.out]; rfl, hw.made_grew.trans hg⟩
end Go.Proofs.YtcnbmfaicbkhcaaGreatDoor

/-
  Contracts of cmp.Less and of slices' sort by insertion over int.
-/
set_option maxRecDepth 100000
namespace Go.Proofs.YtcnbmfaicbkhcaaGreatDoor
open Go Go.RowKit
def vI (l : List Int) : List Value := l.map (Value.int .i64)
theorem vI_get {l : List Int} {k : Nat} (h : k < l.length) : (vI l)[k]? = some (.int .i64 (l.getD k 0)) := by
  unfold vI
  rw [List.getElem?_map, List.getD_eq_getElem?_getD, List.getElem?_eq_getElem h]
  rfl
theorem vI_set (l : List Int) (k : Nat) (x : Int) : (vI l).set k (.int .i64 x) = vI (l.set k x) := by unfold vI; rw [List.map_set]
theorem vI_len (l : List Int) : (vI l).length = l.length := by simp [vI]
theorem size_intP : (Tryz.prog.info? 3).map (·.size) = some 1 := by kernel_rfl
theorem stN {w0 w : World} {L : List As} (hs : St w0 L w) : St w0 [] w := by
  induction L generalizing w with
  | nil => exact hs
  | cons p L ih => exact ih hs.drop
theorem cellN {w0 w : World} {L : List As} {g n cap k : Nat} {q : List Int} {x : Int} (hs : St w0 (own (some ⟨g, 0, none⟩) n cap 3 1 (vI q) :: L) w) (hx : Hid (q.getD k 0 = x)) (hk : k < q.length) : w.cell? ⟨g, k, none⟩ = some (.int .i64 x) := by
  have := Rd.own (w0 := w0) (g := g) (n := n) (cap := cap) (e := 3) (size := 1) (L := L) (vI_get (l := q) hk) _ hs
  rwa [hx.out] at this
attribute [local irreducible] wpList Calls Code.wp
theorem less_c {w : World} (a b : Int) {c : Bool} (hc : Hid (decide (a < b) = c)) : Calls Tryz.prog 353 #[.int .i64 a, .int .i64 b] w fun r w' => r = .returned (.bool c) ∧ w = w' := by
  go_enter Tryz.func353, Tryz.ntmps353
  go_wp2
  go_ret
  exact ⟨by rw [← hc.out]; rfl, rfl⟩
set_option maxHeartbeats 4000000 in
theorem insort_c {w0 w : World} {L : List As} {g n cap : Nat} {l : List Int} (hn : Hid (l.length = n)) (hnb : n ≤ 1000000) (hs : St w0 (own (some ⟨g, 0, none⟩) n cap 3 1 (vI l) :: L) w) :
    Calls Tryz.prog 347 #[.slice (some ⟨g, 0, none⟩) n cap, .int .i64 0, .int .i64 (n : Nat)] w fun r w' => r = .returned (.tuple #[]) ∧ ∃ q : List Int, q.Perm l ∧ q.Pairwise (· ≤ ·) ∧ St w0 (own (some ⟨g, 0, none⟩) n cap 3 1 (vI q) :: L) w' := by
  go_enter Tryz.func347, Tryz.ntmps347
  go_upto_region 1 with (fail)
  go_loopw [6] (fun iv wr => ∃ (i : Nat) (q : List Int), 1 ≤ i ∧ (i ≤ n ∨ i = 1) ∧ iv = .int .i64 (i : Nat) ∧ Hid (q.Perm l) ∧ Hid (∀ a b : Nat, a < b → b < i → q.getD a 0 ≤ q.getD b 0) ∧ St w0 (own (some ⟨g, 0, none⟩) n cap 3 1 (vI q) :: L) wr) (fun iv _ => n - (intOf iv).toNat)
  case atStart => exact ⟨1, l, Nat.le_refl _, .inr rfl, rfl, List.Perm.refl _, fun a b h1 h2 => by omega, hs⟩
  case round =>
    clear hs
    obtain ⟨i, q, hi1, hi2, rfl, HP, HS, hs⟩ := hrel
    by_cases hlt : i < n
    · have hlt' : (i : Int) < (n : Int) := by omega
      go_upto_region 4 with (fail)
      go_loopw [7] (fun jv wr => ∃ (j : Nat) (q : List Int), j ≤ i ∧ jv = .int .i64 (j : Nat) ∧ Hid (q.Perm l) ∧ Hid (SrtX q i j) ∧ St w0 (own (some ⟨g, 0, none⟩) n cap 3 1 (vI q) :: L) wr) (fun jv _ => (intOf jv).toNat)
      case atStart => exact ⟨i, q, Nat.le_refl _, rfl, HP, SrtX.start HS.out, hs⟩
      case round =>
        clear hs HP HS q
        obtain ⟨j, q, hj, rfl, HP, HS, hs⟩ := hrel
        have hql : q.length = n := by rw [HP.out.length_eq]; exact hn.out
        by_cases hj0 : j = 0
        · subst hj0
          go_upto_region 4 with (fail)
          refine wp_region_grow (by kernel_rfl) (by kernel_rfl) fun hne => ?_
          repeat (go_big_quiet_step (fail))
          refine wpQuiet_nil ?_
          clear hne
          intro u hu
          replace hs := hs.grew hu
          go_wp2
          go_roundw
          case rel => exact ⟨i + 1, q, by omega, .inl (by omega), by first | rfl | go_num, HP, SrtX.end0 HS.out, hs⟩
          case measure => simp [intOf]; omega
        · obtain ⟨j, rfl⟩ : ∃ k, j = k + 1 := ⟨j - 1, by omega⟩
          have d0 : decide (((j + 1 : Nat) : Int) > 0) = true := decide_eq_true (by omega)
          have dn : ((j + 1 : Nat) : Int) - 1 = (j : Int) := by omega
          obtain ⟨x, hx⟩ : ∃ z, Hid (q.getD (j + 1) 0 = z) := ⟨_, rfl⟩
          obtain ⟨y, hy⟩ : ∃ z, Hid (q.getD j 0 = z) := ⟨_, rfl⟩
          have a0 : World.cell? wr ⟨g, j + 1, none⟩ = some (.int .i64 x) := by
            have := Rd.own (w0 := w0) (g := g) (n := n) (cap := cap) (e := 3) (size := 1) (L := L) (vI_get (l := q) (k := j + 1) (by omega)) _ hs
            rw [hx.out] at this; exact this
          have a1 : World.cell? wr ⟨g, j, none⟩ = some (.int .i64 y) := by
            have := Rd.own (w0 := w0) (g := g) (n := n) (cap := cap) (e := 3) (size := 1) (L := L) (vI_get (l := q) (k := j) (by omega)) _ hs
            rw [hy.out] at this; exact this
          have hjn : ((j + 1 : Nat) : Int) < (n : Int) := by omega
          have hjn2 : (j : Int) < (n : Int) := by omega
          obtain ⟨c, HC⟩ : ∃ c, Hid (decide (x < y) = c) := ⟨_, rfl⟩
          go_upto_region 4 with (fail)
          refine wp_region_grow (by kernel_rfl) (by kernel_rfl) fun hne => ?_
          have f0 := fun p : GW wr => p.grew.cell a0
          have f1 := fun p : GW wr => p.grew.cell a1
          repeat (go_big_quiet_step (first
            | (go_at_call 353; exact in_gsame (less_c x y HC))))
          refine wpQuiet_nil ?_
          clear hne f0 f1
          intro u hu
          replace hs := hs.grew hu
          replace a0 := Grew.cell hu a0
          replace a1 := Grew.cell hu a1
          clear hu
          cases c
          · have hxy : ¬ q.getD (j + 1) 0 < q.getD j 0 := by rw [hx.out, hy.out]; exact of_decide_eq_false HC.out
            go_wp2
            go_roundw
            case rel => exact ⟨i + 1, q, by omega, .inl (by omega), by first | rfl | go_num, HP, SrtX.end_ HS.out hj hxy, hs⟩
            case measure => simp [intOf]; omega
          · have hxy : q.getD (j + 1) 0 < q.getD j 0 := by rw [hx.out, hy.out]; exact of_decide_eq_true HC.out
            go_upto_region 6 with (fail)
            have HP2 : Hid (((q.set (j + 1) y).set j x).Perm l) := by
              have := swap_perm (q := q) (j := j) (by omega)
              rw [hx.out, hy.out] at this
              exact this.trans HP.out
            have HS2 : Hid (SrtX ((q.set (j + 1) y).set j x) i j) := by
              have := SrtX.step HS.out (by omega) hj hxy
              rw [hx.out, hy.out] at this
              exact this
            have hjn3 : (j : Int) + 1 < (n : Int) := by omega
            have hjn4 : j + 1 < n := by omega
            have hjn5 : j < n := by omega
            have hj00 : 0 ≤ (j : Int) + 1 := by omega
            have hwj : IntKind.i64.wrap ((j : Nat) : Int) = (j : Int) := IntWalk.i64_in _ (by omega)
            clear a0 a1
            refine wp_mix 4 [0, 1, 2, 3, 4, 5, 6, 7, 8, 10, 11, 12] [9, 13, 14, 15, 16, 17] (stN hs) (by kernel_rfl) (by kernel_rfl) fun hne => ?_
            simp only [opsAt, List.getElem?_toArray, List.getElem?_cons_succ, List.getElem?_cons_zero]
            repeat (go_big_quiet_step (fail))
            refine wpQuiet_nil ?_
            clear hne 
            replace hs := hs.drew; have a0 : World.cell? _ ⟨g, j + 1, none⟩ = some (.int .i64 x) := (cellN hs hx (by omega)); have a1 : World.cell? _ ⟨g, j, none⟩ = some (.int .i64 y) := (cellN hs hy (by omega))
            refine wpMix_next [9, 13] (by kernel_rfl) (by simp) (fun c hc => ?_)
            simp only [List.mem_cons, List.not_mem_nil, or_false] at hc
            rcases hc with rfl | rfl
            · skip
              refine ⟨_, rfl, ?_⟩
              go_wp2
              refine mix_quiet [] [13, 14, 15, 16, 17] (stN hs) (by kernel_rfl) (by kernel_rfl) fun hne => ?_
              simp only [opsAt]
              refine wpQuiet_nil ?_
              clear hne
              refine wpMix_next [13] (by kernel_rfl) (by simp) (fun c hc => ?_)
              simp only [List.mem_singleton] at hc
              subst hc
              refine ⟨_, rfl, ?_⟩
              go_wp2
              refine mix_quiet [14] [15, 16, 17] (stN hs) (by kernel_rfl) (by kernel_rfl) fun hne => ?_
              simp only [opsAt, List.getElem?_toArray, List.getElem?_cons_succ, List.getElem?_cons_zero]
              repeat (go_big_quiet_step (fail))
              refine wpQuiet_nil ?_
              clear hne
              refine wpMix_next [15] (by kernel_rfl) (by simp) (fun c hc => ?_)
              simp only [List.mem_singleton] at hc
              subst hc
              refine ⟨_, rfl, ?_⟩
              refine wpl_store (v := .int .i64 y) rfl rfl rfl size_intP hs (Wr.own (k := j + 1) (by rw [vI_len]; omega)) ?_
              clear hs a0 a1
              intro w5 hs
              rw [vI_set] at hs
              refine wpList_nil ⟨rfl, ?_⟩
              refine mix_quiet [16] [17] (stN hs) (by kernel_rfl) (by kernel_rfl) fun hne => ?_
              simp only [opsAt, List.getElem?_toArray, List.getElem?_cons_succ, List.getElem?_cons_zero]
              try simp only [Act.put, List.setIfInBounds_toArray, List.set_cons_succ, List.set_cons_zero]
              repeat (go_big_quiet_step (fail))
              refine wpQuiet_nil ?_
              clear hne
              refine wpMix_next [17] (by kernel_rfl) (by simp) (fun c hc => ?_)
              simp only [List.mem_singleton] at hc
              subst hc
              refine ⟨_, rfl, ?_⟩
              refine wpl_store (v := .int .i64 x) rfl rfl rfl size_intP hs (Wr.own (k := j) (by rw [vI_len, List.length_set]; omega)) ?_
              clear hs
              intro w6 hs
              rw [vI_set] at hs
              refine wpList_nil ⟨rfl, ?_⟩
              refine mix_quiet [] [] (stN hs) (by kernel_rfl) (by kernel_rfl) fun hne => ?_
              simp only [opsAt]
              refine wpQuiet_nil ?_
              clear hne
              refine wpMix_end ?_
              go_wp2
              go_roundw
              case rel => exact ⟨j, _, by omega, by first | rfl | go_num, HP2, HS2, hs⟩
              case measure => simp [intOf] <;> omega
            · skip
              refine ⟨_, rfl, ?_⟩
              go_wp2
              refine mix_quiet [] [9, 14, 15, 16, 17] (stN hs) (by kernel_rfl) (by kernel_rfl) fun hne => ?_
              simp only [opsAt]
              refine wpQuiet_nil ?_
              clear hne
              refine wpMix_next [9] (by kernel_rfl) (by simp) (fun c hc => ?_)
              simp only [List.mem_singleton] at hc
              subst hc
              refine ⟨_, rfl, ?_⟩
              go_wp2
              refine mix_quiet [14] [15, 16, 17] (stN hs) (by kernel_rfl) (by kernel_rfl) fun hne => ?_
              simp only [opsAt, List.getElem?_toArray, List.getElem?_cons_succ, List.getElem?_cons_zero]
              repeat (go_big_quiet_step (fail))
              refine wpQuiet_nil ?_
              clear hne
              refine wpMix_next [15] (by kernel_rfl) (by simp) (fun c hc => ?_)
              simp only [List.mem_singleton] at hc
              subst hc
              refine ⟨_, rfl, ?_⟩
              refine wpl_store (v := .int .i64 y) rfl rfl rfl size_intP hs (Wr.own (k := j + 1) (by rw [vI_len]; omega)) ?_
              clear hs a0 a1
              intro w5 hs
              rw [vI_set] at hs
              refine wpList_nil ⟨rfl, ?_⟩
              refine mix_quiet [16] [17] (stN hs) (by kernel_rfl) (by kernel_rfl) fun hne => ?_
              simp only [opsAt, List.getElem?_toArray, List.getElem?_cons_succ, List.getElem?_cons_zero]
              try simp only [Act.put, List.setIfInBounds_toArray, List.set_cons_succ, List.set_cons_zero]
              repeat (go_big_quiet_step (fail))
              refine wpQuiet_nil ?_
              clear hne
              refine wpMix_next [17] (by kernel_rfl) (by simp) (fun c hc => ?_)
              simp only [List.mem_singleton] at hc
              subst hc
              refine ⟨_, rfl, ?_⟩
              refine wpl_store (v := .int .i64 x) rfl rfl rfl size_intP hs (Wr.own (k := j) (by rw [vI_len, List.length_set]; omega)) ?_
              clear hs
              intro w6 hs
              rw [vI_set] at hs
              refine wpList_nil ⟨rfl, ?_⟩
              refine mix_quiet [] [] (stN hs) (by kernel_rfl) (by kernel_rfl) fun hne => ?_
              simp only [opsAt]
              refine wpQuiet_nil ?_
              clear hne
              refine wpMix_end ?_
              go_wp2
              go_roundw
              case rel => exact ⟨j, _, by omega, by first | rfl | go_num, HP2, HS2, hs⟩
              case measure => simp [intOf] <;> omega
    · have HSn : ∀ a b : Nat, a < b → b < q.length → q.getD a 0 ≤ q.getD b 0 := fun a b h1 h2 => HS.out a b h1 (by have := HP.out.length_eq; rw [hn.out] at this; omega)
      have hlt' : ¬ (i : Int) < (n : Int) := by omega
      go_wp2
      go_end0
      exact ⟨rfl, q, HP.out, srt_pairwise HSn, hs⟩
end Go.Proofs.YtcnbmfaicbkhcaaGreatDoor

/-
  Contracts of slices.Index, Contains over int.
-/
set_option maxRecDepth 100000
namespace Go.Proofs.YtcnbmfaicbkhcaaGreatDoor
open Go Go.RowKit
attribute [local irreducible] wpList Calls Code.wp
theorem indexI_c {w w0 : World} {L : List As} {l : List Int} {D : Option Addr} {cap m : Nat} (hn : Hid (l.length = m)) (hl : m ≤ 4000000000) (hs : St w0 L w) (hr : RdS w0 L D (vI l)) (v : Int) :
    Calls Tryz.prog 227 #[.slice D m cap, .int .i64 v] w fun r w' => ∃ i : Int, r = .returned (.int .i64 i) ∧ decide (i ≥ 0) = l.any (fun x => v == x) ∧ Grew w w' := by
  go_enter Tryz.func227, Tryz.ntmps227
  go_wp2
  go_loopw [8] (fun cv wr => ∃ k : Nat, k ≤ m ∧ Hid ((l.take k).any (fun x => v == x) = false) ∧ cv = .int .i64 (k : Nat) ∧ Grew w wr) (fun cv _ => m - (intOf cv).toNat)
  case atStart => exact ⟨0, by omega, rfl, rfl, Grew.refl _⟩
  case round =>
    obtain ⟨k, hk, hf, rfl, hg⟩ := hrel
    by_cases hkn : k < m
    · obtain ⟨x, hx⟩ : ∃ x, Hid (l[k]? = some x) := ⟨l[k]'(by rw [hn.out]; exact hkn), List.getElem?_eq_getElem _⟩
      have hs2 := hs.grew hg
      have hvx : (vI l)[k]? = some (.int .i64 x) := by unfold vI; rw [List.getElem?_map, hx.out]; rfl
      obtain ⟨gb, off, rfl, h1⟩ := hr.get hvx
      have a0 : World.cell? wr ⟨gb, off + k, none⟩ = some (.int .i64 x) := h1 _ hs2
      clear h1 hvx
      obtain ⟨b, hb⟩ : ∃ b, Hid ((v == x) = b) := ⟨_, rfl⟩
      cases b
      · have d0 : (v == x) = false := hb.out
        go_wp2
        go_roundw
        case rel => exact ⟨k + 1, by omega, by rw [Hid, anyP_take hx.out, hf.out, hb.out]; rfl, by simp, hg⟩
        case measure => simp [intOf]; omega
      · have d0 : (v == x) = true := hb.out
        go_wp2
        go_ret
        exact ⟨(k : Nat), rfl, by rw [anyP_of (p := fun x => v == x) hx.out hb.out]; simp, hg⟩
    · obtain rfl : k = m := by omega
      go_wp2
      go_ret
      exact ⟨-1, rfl, by rw [← hn.out, List.take_length] at hf; rw [hf.out]; rfl, hg⟩
theorem containsI_c {w w0 : World} {L : List As} {l : List Int} {D : Option Addr} {cap m : Nat} (hn : Hid (l.length = m)) (hl : m ≤ 4000000000) (hs : St w0 L w) (hr : RdS w0 L D (vI l)) (v : Int) {b : Bool} (hb : Hid ((l.any fun x => v == x) = b)) :
    Calls Tryz.prog 160 #[.slice D m cap, .int .i64 v] w fun r w' => r = .returned (.bool b) ∧ Grew w w' := by
  have HC := Lib.hid (indexI_c (cap := cap) hn hl hs hr v)
  rw [hb.out] at HC
  clear hl hr
  go_enter Tryz.func160, Tryz.ntmps160
  go_wp2_with (first
    | (go_at_call 227; refine HC.out.mono ?_; rintro r w' ⟨i, rfl, hi, hg⟩))
  go_ret
  exact ⟨by rw [← hi]; rfl, hg⟩
end Go.Proofs.YtcnbmfaicbkhcaaGreatDoor

/-
  Contract of slices.Sort over at most twelve ints.
-/
set_option maxRecDepth 100000
namespace Go.Proofs.YtcnbmfaicbkhcaaGreatDoor
open Go Go.RowKit
attribute [local irreducible] wpList Calls Code.wp
theorem lenB_c (x : Int) (w : World) (h0 : 0 ≤ x) (h1 : x ≤ 18446744073709551615) : Calls Tryz.prog 337 #[.int .u64 x] w fun e w' => (∃ v : Int, e = .returned (.int .i64 v)) ∧ w = w' := by
  go_enter Tryz.func337, Tryz.ntmps337
  go_wp2_with (first
    | (go_at_call 357; refine (len64_i x w h0 h1).mono ?_; rintro e w' ⟨rfl, rfl⟩))
  go_ret
  exact ⟨⟨_, rfl⟩, rfl⟩
theorem pdq_c {w0 w : World} {L : List As} {g n cap : Nat} {l : List Int} (hn : Hid (l.length = n)) (hnb : n ≤ 12) (hs : St w0 (own (some ⟨g, 0, none⟩) n cap 3 1 (vI l) :: L) w) (z : Int) :
    Calls Tryz.prog 336 #[.slice (some ⟨g, 0, none⟩) n cap, .int .i64 0, .int .i64 (n : Nat), .int .i64 z] w fun r w' => r = .returned (.tuple #[]) ∧ ∃ q : List Int, q.Perm l ∧ q.Pairwise (· ≤ ·) ∧ St w0 (own (some ⟨g, 0, none⟩) n cap 3 1 (vI q) :: L) w' := by
  have d : decide ((n : Int) ≤ 12) = true := decide_eq_true (by omega)
  have HI := Lib.hid (insort_c hn (by omega) hs)
  clear hs
  go_enter Tryz.func336, Tryz.ntmps336
  go_upto_region 2 with (fail)
  go_loopw [1, 2, 3, 8, 9] (fun xv yv zv av bv wr => xv = .int .i64 0 ∧ yv = .int .i64 (n : Nat) ∧ zv = .int .i64 z ∧ av = .bool true ∧ bv = .bool true ∧ w = wr) (fun _ _ _ _ _ _ => 0)
  case atStart => exact ⟨rfl, rfl, rfl, rfl, rfl, rfl⟩
  case round =>
    obtain ⟨rfl, rfl, rfl, rfl, rfl, rfl⟩ := hrel
    (go_wp2_with (first
      | (go_at_call 347; refine HI.out.mono ?_; rintro r w ⟨rfl, q, hq1, hq2, hs⟩)))
    refine bodyPost_ret (results_none rfl _ _ _) rfl ?_
    exact ⟨rfl, q, hq1, hq2, hs⟩
theorem sort_c {w0 w : World} {L : List As} {g n cap : Nat} {l : List Int} (hn : Hid (l.length = n)) (hnb : n ≤ 12) (hs : St w0 (own (some ⟨g, 0, none⟩) n cap 3 1 (vI l) :: L) w) :
    Calls Tryz.prog 303 #[.slice (some ⟨g, 0, none⟩) n cap] w fun r w' => r = .returned (.tuple #[]) ∧ ∃ q : List Int, q.Perm l ∧ q.Pairwise (· ≤ ·) ∧ St w0 (own (some ⟨g, 0, none⟩) n cap 3 1 (vI q) :: L) w' := by
  have HP := fun z => Lib.hid (pdq_c hn hnb hs z)
  have h9 : n ≤ 9223372036854775807 := by omega
  clear hs
  go_enter Tryz.func303, Tryz.ntmps303
  go_wp2_with (first
    | (go_at_call 337; refine (lenB_c (n : Nat) w (by omega) (by omega)).mono ?_; rintro e w' ⟨⟨z, rfl⟩, rfl⟩)
    | (go_at_call 336; refine (HP z).out.mono ?_; rintro r w ⟨rfl, q, hq1, hq2, hs⟩))
  go_end0
  exact ⟨rfl, q, hq1, hq2, hs⟩
end Go.Proofs.YtcnbmfaicbkhcaaGreatDoor

/-
  Contracts of slices.Compact over ints where no two neighbours are equal, and of slices.Clip.
-/
set_option maxRecDepth 100000
namespace Go.Proofs.YtcnbmfaicbkhcaaGreatDoor
open Go Go.RowKit
attribute [local irreducible] wpList Calls Code.wp
theorem compactI_c {w w0 : World} {L : List As} {l : List Int} {D : Option Addr} {cap m : Nat} (hn : Hid (l.length = m)) (hl : m ≤ 4000000000) (hs : St w0 L w) (hr : RdS w0 L D (vI l)) (hne : Hid (∀ i x y, l[i]? = some x → l[i + 1]? = some y → x ≠ y)) :
    Calls Tryz.prog 305 #[.slice D m cap] w fun r w' => r = .returned (.slice D m cap) ∧ Grew w w' := by
  go_enter Tryz.func305, Tryz.ntmps305
  by_cases h2 : m < 2
  · go_wp2
    go_ret
    exact ⟨rfl, Grew.refl _⟩
  · go_wp2
    go_loopw [3] (fun cv wr => ∃ k : Nat, 1 ≤ k ∧ k ≤ m ∧ cv = .int .i64 (k : Nat) ∧ Grew w wr) (fun cv _ => m - (intOf cv).toNat)
    case atStart => exact ⟨1, by omega, by omega, rfl, Grew.refl _⟩
    case round =>
      obtain ⟨k, hk1, hk, rfl, hg⟩ := hrel
      obtain ⟨j, rfl⟩ : ∃ j, k = j + 1 := ⟨k - 1, by omega⟩
      by_cases hkn : j + 1 < m
      · obtain ⟨x, hx⟩ : ∃ x, Hid (l[j]? = some x) := ⟨l[j]'(by rw [hn.out]; omega), List.getElem?_eq_getElem _⟩
        obtain ⟨y, hy⟩ : ∃ y, Hid (l[j + 1]? = some y) := ⟨l[j + 1]'(by rw [hn.out]; exact hkn), List.getElem?_eq_getElem _⟩
        have hs2 := hs.grew hg
        have hvx : (vI l)[j]? = some (.int .i64 x) := by unfold vI; rw [List.getElem?_map, hx.out]; rfl
        have hvy : (vI l)[j + 1]? = some (.int .i64 y) := by unfold vI; rw [List.getElem?_map, hy.out]; rfl
        obtain ⟨gb, off, rfl, h1⟩ := hr.get hvx
        obtain ⟨gb', off', e, h2'⟩ := hr.get hvy
        cases e
        have a0 : World.cell? wr ⟨gb, off + j, none⟩ = some (.int .i64 x) := h1 _ hs2
        have a1 : World.cell? wr ⟨gb, off + (j + 1), none⟩ = some (.int .i64 y) := h2' _ hs2
        clear h1 h2' hvx hvy
        have d0 : (y == x) = false := beq_false_of_ne (Ne.symm (hne.out j x y hx.out hy.out))
        have e0 : ((j + 1 : Nat) : Int) - 1 = (j : Nat) := by omega
        have hjn : ((j + 1 : Nat) : Int) < (m : Int) := by omega
        have hjn2 : (j : Int) < (m : Int) := by omega
        have hwj : IntKind.i64.wrap ((j : Nat) : Int) = (j : Int) := IntWalk.i64_in _ (by omega)
        go_upto_region 6 with (fail)
        refine wp_region_grow (by kernel_rfl) (by kernel_rfl) fun hq => ?_
        have f0 := fun p : GW wr => p.grew.cell a0
        have f1 := fun p : GW wr => p.grew.cell a1
        repeat (go_big_quiet_step (fail))
        refine wpQuiet_nil ?_
        clear hq f0 f1
        intro u hu
        replace hg := hg.trans hu
        clear hu a0 a1
        go_wp2
        go_roundw
        case rel => exact ⟨j + 2, by omega, by omega, by simp; omega, hg⟩
        case measure => simp [intOf]; omega
      · obtain rfl : j + 1 = m := by omega
        go_wp2
        go_ret
        exact ⟨rfl, hg⟩
theorem clipI_c {w : World} {D : Option Addr} {cap m : Nat} (hc : m ≤ cap) :
    Calls Tryz.prog 304 #[.slice D m cap] w fun r w' => r = .returned (.slice D m m) ∧ w = w' := by
  go_enter Tryz.func304, Tryz.ntmps304
  go_wp2
  go_ret
  exact ⟨rfl, rfl⟩
end Go.Proofs.YtcnbmfaicbkhcaaGreatDoor

/-
  Contract of slices.Sort over a nil slice of ints.
-/
set_option maxRecDepth 100000
namespace Go.Proofs.YtcnbmfaicbkhcaaGreatDoor
open Go Go.RowKit
attribute [local irreducible] wpList Calls Code.wp
theorem insort_nil {w : World} : Calls Tryz.prog 347 #[.slice none 0 0, .int .i64 0, .int .i64 0] w fun r w' => r = .returned (.tuple #[]) ∧ w = w' := by
  go_enter Tryz.func347, Tryz.ntmps347
  go_upto_region 2 with (fail)
  go_loopw [6] (fun iv wr => iv = .int .i64 1 ∧ w = wr) (fun _ _ => 0)
  case atStart => exact ⟨rfl, rfl⟩
  case round =>
    obtain ⟨rfl, rfl⟩ := hrel
    go_wp2
    go_end0
    exact ⟨rfl, rfl⟩
theorem pdq_nil {w : World} (z : Int) : Calls Tryz.prog 336 #[.slice none 0 0, .int .i64 0, .int .i64 0, .int .i64 z] w fun r w' => r = .returned (.tuple #[]) ∧ w = w' := by
  have HI := Lib.hid (insort_nil (w := w))
  go_enter Tryz.func336, Tryz.ntmps336
  go_upto_region 2 with (fail)
  go_loopw [1, 2, 3, 8, 9] (fun xv yv zv av bv wr => xv = .int .i64 0 ∧ yv = .int .i64 0 ∧ zv = .int .i64 z ∧ av = .bool true ∧ bv = .bool true ∧ w = wr) (fun _ _ _ _ _ _ => 0)
  case atStart => exact ⟨rfl, rfl, rfl, rfl, rfl, rfl⟩
  case round =>
    obtain ⟨rfl, rfl, rfl, rfl, rfl, rfl⟩ := hrel
    (go_wp2_with (first
      | (go_at_call 347; refine HI.out.mono ?_; rintro r w ⟨rfl, rfl⟩)))
    refine bodyPost_ret (results_none rfl _ _ _) rfl ?_
    exact ⟨rfl, rfl⟩
theorem sort_nil {w : World} : Calls Tryz.prog 303 #[.slice none 0 0] w fun r w' => r = .returned (.tuple #[]) ∧ w = w' := by
  have HP := fun z => Lib.hid (pdq_nil (w := w) z)
  go_enter Tryz.func303, Tryz.ntmps303
  go_wp2_with (first
    | (go_at_call 337; refine (lenB_c 0 w (by omega) (by omega)).mono ?_; rintro e w' ⟨⟨z, rfl⟩, rfl⟩)
    | (go_at_call 336; refine (HP z).out.mono ?_; rintro r w ⟨rfl, rfl⟩))
  go_end0
  exact ⟨rfl, rfl⟩
end Go.Proofs.YtcnbmfaicbkhcaaGreatDoor

/-
  Contract of plan.comps: the components of some kinds of columns, rising.
-/
set_option maxRecDepth 100000
namespace Go.Proofs.YtcnbmfaicbkhcaaGreatDoor
open Go Go.RowKit
attribute [local irreducible] wpList Calls Code.wp
theorem vI_ints (l : List Int) : vI l = ints l := rfl
theorem compsOf_take {l : List ColP} {ks : List Int} {k : Nat} {x : ColP} (hx : l[k]? = some x) : compsOf (l.take (k + 1)) ks = compsOf (l.take k) ks ++ (if ks.any (fun z => x.k == z) then [x.c] else []) := by
  unfold compsOf
  rw [List.take_add_one, hx, List.filter_append, List.map_append]
  congr 1
  have e : ks.contains x.k = ks.any (fun z => x.k == z) := by
    induction ks with
    | nil => rfl
    | cons a ks ih => rw [List.contains_cons, List.any_cons, ih]
  simp only [Option.toList_some, List.filter_cons, List.filter_nil, e]
  split <;> rfl
theorem nodup_next {q : List Int} (h : q.Nodup) : ∀ i x y, q[i]? = some x → q[i + 1]? = some y → x ≠ y := fun i x y hx hy => by
  obtain ⟨h1, h2⟩ := List.getElem?_eq_some_iff.1 hx
  obtain ⟨h3, h4⟩ := List.getElem?_eq_some_iff.1 hy
  have := List.pairwise_iff_getElem.1 h i (i + 1) h1 h3 (by omega)
  rwa [h2, h4] at this
theorem compsOf_zero (l : List ColP) (ks : List Int) : compsOf (l.take 0) ks = [] := rfl
theorem compsOf_perm {n : Nat} {l : List ColP} {ks r : List Int} (h : PlOk n l) (h5 : ks.contains 5 = false) (hp : r.Perm (compsOf l ks)) (hs : r.Pairwise (· ≤ ·)) : r = natI (compsN n l ks) ∧ r.Nodup := ⟨comps_sorted h h5 hp hs, hp.nodup_iff.2 (compsOf_nodup h h5)⟩
theorem St.own_cap {w0 w : World} {A : Option Addr} {n cap : Nat} {e : TypeId} {size : Nat} {xs : List Value} {L : List As} (hs : St w0 (own A n cap e size xs :: L) w) (hA : n = 0 → A = none) : (A = none ∧ n = 0 ∧ cap = 0) ∨ ∃ g, A = some ⟨g, 0, none⟩ := by
  by_cases h : n = 0
  · left
    obtain rfl := hA h
    refine ⟨rfl, h, ?_⟩
    exact hs.fact fun _ h => by
      rcases h.2 with ⟨_, _, h1, _⟩ | ⟨g, cur, h1, _⟩
      · exact h1
      · cases h1
  · exact .inr (hs.own_at (by omega))
attribute [local irreducible] compsOf compsN
set_option maxHeartbeats 4000000 in
theorem comps_c {w : World} {N : Nat} {l : List ColP} {D : Option Addr} {m cap : Nat} (hm : Hid (l.length = m)) (hmb : m ≤ 16) (hr : RdS w [] D (l.flatMap c2c)) (HP : Hid (PlOk N l)) (hN : N ≤ 12) {K : Option Addr} {ks : List Int} {n cK : Nat} (hn : Hid (ks.length = n)) (hnb : n ≤ 5) (hk : RdS w [] K (vI ks)) (H5 : Hid (ks.contains 5 = false))
    {z : Nat} (hz : Hid ((compsN N l ks).length = z)) :
    Calls Tryz.prog 254 #[.slice D m cap, .slice K n cK] w fun r w' => ∃ A cp, r = .returned (.slice A z z) ∧ St w [own A z cp 3 1 (ints (natI (compsN N l ks)))] w' := by
  have HR := Lib.hid hr
  have HK := Lib.hid hk
  have hz2 : (compsOf l ks).length = z ∧ z ≤ N := by
    have h1 := compsOf_perm HP.out H5.out (List.mergeSort_perm (compsOf l ks) (fun a b => decide (a ≤ b))) ((List.pairwise_mergeSort (le := fun a b : Int => decide (a ≤ b)) (fun a b c h1 h2 => by simp at *; omega) (fun a b => by simp; omega) _).imp (fun h => by simpa using h))
    have h2 := (List.mergeSort_perm (compsOf l ks) (fun a b => decide (a ≤ b))).length_eq
    rw [h1.1] at h2
    have h3 := compsN_le N l ks
    simp [natI] at h2
    have := hz.out
    omega
  obtain ⟨hz3, hzN⟩ := hz2
  have HZO := Lib.hid hz3
  have hz12 : z ≤ 12 := by omega
  clear hr hk hz3
  go_enter Tryz.func254, Tryz.ntmps254
  go_wp2
  have hs := (St.start w).own_nil 3 1
  go_loopw [5, 10] (fun ov cv wr => ∃ (k y : Nat) (A : Option Addr) (cp : Nat), k ≤ m ∧ Hid ((compsOf (l.take k) ks).length = y) ∧ (y = 0 → A = none) ∧ y ≤ k ∧ ov = .slice A y cp ∧ cv = .int .i64 (k : Nat) ∧ St w [own A y cp 3 1 (vI (compsOf (l.take k) ks))] wr) (fun _ cv _ => m - (intOf cv).toNat)
  case atStart => exact ⟨0, 0, none, 0, Nat.zero_le _, by rw [compsOf_zero]; rfl, fun _ => rfl, Nat.le_refl _, rfl, rfl, by rw [compsOf_zero]; exact hs⟩
  case round =>
    clear hs
    obtain ⟨k, y, A, cp, hkm, HY, hA, hyk, rfl, rfl, hs⟩ := hrel
    by_cases hlt : k < m
    · obtain ⟨x, hx⟩ : ∃ x, Hid (l[k]? = some x) := ⟨l[k]'(by rw [hm.out]; exact hlt), List.getElem?_eq_getElem _⟩
      have hcell := fun j u hu => HR.out.get (flat_get c2c_len hx.out j u hu)
      obtain ⟨gb, off, rfl, _⟩ := hcell 0 _ rfl
      have hld : ∀ j u, (c2c x)[j]? = some u → Rd w [own A y cp 3 1 (vI (compsOf (l.take k) ks))] ⟨gb, off + k * 2 + j, none⟩ u := fun j u hu => by
        obtain ⟨b', o', he, h⟩ := hcell j u hu
        injection he with he
        injection he with e1 e2
        subst e1; subst e2
        rw [Nat.add_assoc]; exact h.tail
      have HT := Lib.hid (compsOf_take (ks := ks) hx.out)
      obtain ⟨b, HB⟩ : ∃ z, Hid (ks.any (fun z => x.k == z) = z) := ⟨_, rfl⟩
      rw [HB.out] at HT
      have hA' := hA
      clear hcell hA
      go_upto_region 5 with (first
        | (refine wpl_load_agg (cs := c2c x) (b := gb) (o := off + k * 2) rfl aggC (sizeC x) hs hld ?_)
        | (refine wpl_alloc zeroCol hs ?_; clear hs; intro g6 w1 hs; replace hs : St w [blk g6 (c2c ⟨0, 0⟩).toArray 132, own A y cp 3 1 (vI (compsOf (l.take k) ks))] w1 := hs)
        | (refine wpl_store_agg (v := .agg (c2c x).toArray) rfl rfl (sizeCv x) hs WrA.slotCol ?_; clear hs; intro w2 hs))
      have k0 : World.cell? w2 ⟨g6, 0, none⟩ = some (.int .i64 x.k) := Rd.blk (by rfl) _ hs
      clear hld
      cases b
      · go_wp2_with (first
          | (go_at_call 160; refine (containsI_c hn (by omega) hs HK.out.tail.tail x.k HB).mono ?_; clear k0; rintro r w' ⟨rfl, hg⟩; replace hs := hs.grew hg; clear hg))
        go_roundw
        case rel => exact ⟨k + 1, y, A, cp, by omega, by rw [Hid, HT.out]; simp [HY.out], hA', by omega, rfl, by simp, by rw [HT.out]; simp only [if_neg Bool.false_ne_true, List.append_nil]; exact hs.drop⟩
        case measure => simp [intOf]; omega
      · go_wp2_with (first
          | (go_at_call 160; refine (containsI_c hn (by omega) hs HK.out.tail.tail x.k HB).mono ?_; clear k0; rintro r w' ⟨rfl, hg⟩; replace hs := hs.grew hg; clear hg; have k1 : World.cell? _ ⟨g6, 1, none⟩ = some (.int .i64 x.c) := Rd.blk (by rfl) _ hs)
          | (refine wpl_build1 (v := .int .i64 x.c) elem24 (by decide) rfl rfl hs ?_; clear hs k1; intro G w hs)
          | (refine wpl_append (A := A) (n := y) (cap := cp) (xs := vI (compsOf (l.take k) ks)) (B := some ⟨G, 0, none⟩) (m := 1) (news := [.int .i64 x.c]) elem24 rfl rfl hs (Ent.skip (Ent.skip (Ent.refl _))) RdS.blk rfl (by intro u hu; simp at hu; subst hu; rfl) (by unfold maxLen; omega) (by omega) ?_; clear hs; intro A2 cp2 w hs))
        go_roundw
        case rel => exact ⟨k + 1, y + 1, A2, cp2, by omega, by rw [Hid, HT.out]; simp [HY.out], fun h => absurd h (by omega), by omega, rfl, by simp, by rw [HT.out]; simp only [if_true]; rw [show vI (compsOf (l.take k) ks ++ [x.c]) = vI (compsOf (l.take k) ks) ++ [.int .i64 x.c] by unfold vI; simp]; exact hs.rot.drop.rot.drop⟩
        case measure => simp [intOf]; omega
    · obtain rfl : k = m := by omega
      have hT : l.take k = l := List.take_of_length_le (by rw [hm.out]; exact Nat.le_refl _)
      rw [hT] at hs HY
      obtain rfl : y = z := by rw [← HY.out, HZO.out]
      have hcap := hs.own_len.2.1
      rcases hs.own_cap hA with ⟨rfl, rfl, rfl⟩ | ⟨g, rfl⟩
      · have hl0 : compsN N l ks = [] := List.eq_nil_of_length_eq_zero hz.out
        clear hA hcap
        (go_wp2_with (first
          | (go_at_call 303; refine sort_nil.mono ?_; rintro r w' ⟨rfl, rfl⟩)
          | (go_at_call 305; refine (compactI_c (l := []) (m := 0) (Lib.hid rfl) (Nat.zero_le _) hs RdS.nil (Lib.hid (fun i x y h => by simp at h))).mono ?_; rintro r w' ⟨rfl, hg⟩; replace hs := hs.grew hg; clear hg)
          | (go_at_call 304; refine (clipI_c (Nat.le_refl _)).mono ?_; rintro r w' ⟨rfl, rfl⟩)))
        go_ret
        exact ⟨none, 0, rfl, by rw [hl0]; rw [List.eq_nil_of_length_eq_zero HZO.out] at hs; exact hs⟩
      · clear hA
        go_wp2_with (first
          | (go_at_call 303; refine (sort_c HZO hz12 hs).mono ?_; clear hs; rintro r w' ⟨rfl, q, hq1, hq2, hs⟩; obtain ⟨HE, HND⟩ := compsOf_perm HP.out H5.out hq1 hq2; have HQL : Hid (q.length = y) := by rw [Hid, hq1.length_eq, HZO.out])
          | (go_at_call 305; refine (compactI_c HQL (by omega) hs (RdS.own hs) (Lib.hid (nodup_next HND))).mono ?_; rintro r w' ⟨rfl, hg⟩; replace hs := hs.grew hg; clear hg)
          | (go_at_call 304; refine (clipI_c hcap).mono ?_; rintro r w' ⟨rfl, rfl⟩))
        go_ret
        exact ⟨some ⟨g, 0, none⟩, cp, rfl, by rw [← HE, ← vI_ints]; exact hs⟩
end Go.Proofs.YtcnbmfaicbkhcaaGreatDoor

/-
  Contract of plan.Parts.
-/
set_option maxRecDepth 100000
namespace Go.Proofs.YtcnbmfaicbkhcaaGreatDoor
open Go Go.RowKit
attribute [local irreducible] wpList Calls Code.wp compsOf compsN
set_option maxHeartbeats 1000000 in
theorem parts_c {w : World} {N : Nat} {l : List ColP} {D : Option Addr} {m cap : Nat} (hm : Hid (l.length = m)) (hmb : m ≤ 16) (hr : RdS w [] D (l.flatMap c2c)) (HP : Hid (PlOk N l)) (hN : N ≤ 12)
    {x y : Nat} (hx : Hid ((compsN N l [1, 2]).length = x)) (hy : Hid ((compsN N l [4]).length = y)) :
    Calls Tryz.prog 185 #[.slice D m cap] w fun r w' => ∃ A cp B cq b, r = .returned (.tuple #[.slice A x x, .slice B y y, .bool b]) ∧ St w [own B y cq 3 1 (ints (natI (compsN N l [4]))), own A x cp 3 1 (ints (natI (compsN N l [1, 2])))] w' := by
  have HR := Lib.hid hr
  have hs := St.start w
  obtain ⟨b, HB⟩ : ∃ z, Hid (l.any ColP.ent = z) := ⟨_, rfl⟩
  clear hr
  have tk : True := trivial
  go_enter Tryz.func185, Tryz.ntmps185
  go_wp2_with (first
    | (go_at_call 250; refine (con_ent hm (by omega) hs HR.out (fun w' y b hq hb => by rw [← hb.out]; exact ent_c y) HB).mono ?_; rintro r w' ⟨rfl, hg⟩; replace hs := hs.grew hg; clear hg)
    | (clear tk; refine wpl_buildN (vs := vI [1, 2]) elem24 rfl rfl (by decide) (by decide) (by simp [vI]; first | rfl | exact ⟨rfl, rfl⟩) hs ?_; clear hs; intro g1 w1 hs)
    | (go_at_call 254; refine (comps_c (n := 2) (ks := [1, 2]) hm hmb ((HR.out.any _).hereP hs) HP hN (Lib.hid rfl) (by decide) (RdS.hereP RdS.blk hs) (Lib.hid rfl) hx).mono ?_; rintro r w' ⟨A, cp, rfl, hc⟩; replace hs := (hs.mades hc).rot.drop; clear hc)
    | (refine wpl_buildN (vs := vI [4]) elem24 rfl rfl (by decide) (by decide) (by simp [vI]; first | rfl | exact ⟨rfl, rfl⟩) hs ?_; clear hs; intro g2 w2 hs)
    | (go_at_call 254; refine (comps_c (n := 1) (ks := [4]) hm hmb ((HR.out.any _).hereP hs) HP hN (Lib.hid rfl) (by decide) (RdS.hereP RdS.blk hs) (Lib.hid rfl) hy).mono ?_; rintro r w' ⟨B, cq, rfl, hc⟩; replace hs := (hs.mades hc).rot.drop; clear hc))
  go_ret3
  exact ⟨A, cp, B, cq, _, rfl, hs⟩
end Go.Proofs.YtcnbmfaicbkhcaaGreatDoor

/-
  Components (reg.Reg), 5: Descs.
-/
set_option maxRecDepth 100000
namespace Go.Proofs.YtcnbmfaicbkhcaaGreatDoor
open Go Go.RowKit
attribute [local irreducible] wpList Calls Code.wp okI okN pS tS memS getG pG insS delS getV pV tV okVal newSl SlS.put SlS.err SlS.putU SlS.putB descE SlS.take

theorem elemDs5 : ElemOk Tryz.prog 24 120 3 24 := ElemOk.of Tryz.underlying24 (z := val3 V3.z) (by kernel_rfl) rfl (by decide)
def dsOf (l : List Cmp) : List V3 := l.map fun x => x.2.d
end Go.Proofs.YtcnbmfaicbkhcaaGreatDoor
