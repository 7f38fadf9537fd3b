/-
  Arguments that are slices of rows: what stands in their cells. No function of the program stands here.
-/
import Derived.Test.YtkcbjkadalebjaaFrame
import Derived.Deep.Slices
import Derived.Deep.Strs
namespace Go.Proofs.Ytkcbjkadalebjaa
open Go Go.RowKit Go.ChangeShapes Go.WideShapes Go.Deep

theorem rows_at {X : Type} {encX : X → List Value} {C : Nat} (hlen : ∀ x, (encX x).length = C) : ∀ {xs : List X} {k : Nat} {u : Value}, (xs.flatMap encX)[k]? = some u → ∃ i j x, k = i * C + j ∧ j < C ∧ xs[i]? = some x ∧ (encX x)[j]? = some u
  | [], k, u, h => by simp at h
  | x :: xs, k, u, h => by
    simp only [List.flatMap_cons] at h
    by_cases hk : k < C
    · rw [List.getElem?_append_left (by rw [hlen]; exact hk)] at h
      exact ⟨0, k, x, by omega, hk, rfl, h⟩
    · rw [List.getElem?_append_right (by rw [hlen]; omega), hlen] at h
      obtain ⟨i, j, y, e, hj, hy, hu⟩ := rows_at hlen h
      refine ⟨i + 1, j, y, ?_, hj, by simpa using hy, hu⟩
      rw [Nat.add_mul]; omega
theorem rows_get {X : Type} {encX : X → List Value} {C : Nat} (hlen : ∀ x, (encX x).length = C) : ∀ {xs : List X} {i : Nat} {x : X}, xs[i]? = some x → ∀ j u, (encX x)[j]? = some u → (xs.flatMap encX)[i * C + j]? = some u
  | [], i, v, h, _, _, _ => by simp at h
  | x :: xs, 0, v, h, j, u, hu => by
    simp at h
    subst h
    have hj : j < (encX x).length := (List.getElem?_eq_some_iff.1 hu).1
    simp only [List.flatMap_cons]
    rw [Nat.zero_mul, Nat.zero_add, List.getElem?_append_left hj, hu]
  | x :: xs, i + 1, v, h, j, u, hu => by
    have := rows_get hlen (xs := xs) (i := i) (x := v) (by simpa using h) j u hu
    simp only [List.flatMap_cons]
    rw [List.getElem?_append_right (by rw [hlen, Nat.add_mul]; omega)]
    rw [← this]
    congr 1
    rw [hlen, Nat.add_mul]
    omega
theorem rows_len {X : Type} {encX : X → List Value} {C : Nat} (hlen : ∀ x, (encX x).length = C) : ∀ xs : List X, (xs.flatMap encX).length = xs.length * C
  | [] => by simp
  | x :: xs => by rw [List.flatMap_cons, List.length_append, hlen, rows_len hlen xs, List.length_cons, Nat.add_mul]; omega
/-- An argument that is a slice of rows. -/
def RowsArg {X : Type} (encX : X → List Value) (Q : X → Prop) (w0 : World) (v : Value) (xs : List X) : Prop :=
  ∃ A cap, v = .slice A xs.length cap ∧ xs.length ≤ cap ∧ cap ≤ maxLen ∧ RdS w0 [] A (xs.flatMap encX) ∧ ∀ x ∈ xs, Q x
theorem open_rows {X : Type} {encX : X → List Value} {Q : X → Prop} {C : Nat} {H : Type} {enc : TypeId × Value → H} {P : Program} {w : World} {t e : TypeId} (hlen : ∀ x, (encX x).length = C) (h0 : 0 < C)
    (ht : P.underlying t = some (.slice e)) (hC : P.cellsOf e = C) (good : ∀ n cs' y, DataW.trod enc P w 0 (fun _ => true) true n e cs' = some y → ∃ x, cs' = encX x ∧ Q x) {v : Value} {d : DataW H} {ps : List MemPlace}
    (hv : ∃ A l c, v = .slice A l c) (h : DataW.Trod enc P w 0 (fun _ => true) true t v d ps) : ∃ xs, RowsArg encX Q w v xs := by
  obtain ⟨fuel, hf⟩ := h
  obtain ⟨A, l, c, rfl⟩ := hv
  rcases open_slice ht hf with ⟨hcs, _⟩ | ⟨a, len, cap, m, n, D, Pl, hcs, _, hlc, hcm, hmm, _, hi⟩
  · have e : Value.slice A l c = .slice none 0 0 := by simpa [Value.cells] using hcs
    exact ⟨[], none, 0, e, Nat.le_refl _, by unfold maxLen; omega, RdS.nil, fun x hx => by cases hx⟩
  · have e' : Value.slice A l c = .slice (some a) len cap := by simpa [Value.cells] using hcs
    have hm : len ≤ m := by rw [hmm]; simp; exact hlc
    have key : ∀ k, k ≤ len → ∃ xs : List X, xs.length = k ∧ ∀ i x, xs[i]? = some x → Q x ∧ ∀ j, j < C → w.cell? ((a.add (i * C)).add j) = (encX x)[j]? := fun k => by
      induction k with
      | zero => exact fun _ => ⟨[], rfl, fun i x h => by simp at h⟩
      | succ k ih =>
        intro hk
        obtain ⟨xs, hl, hx⟩ := ih (by omega)
        obtain ⟨cs', h1, h2⟩ := hi k (by omega)
        obtain ⟨x, rfl, hq⟩ := good _ _ _ h2
        rw [hC] at h1
        obtain ⟨_, _, h3⟩ := World.cells?_some h1
        refine ⟨xs ++ [x], by simp [hl], fun i y hy => ?_⟩
        by_cases hik : i < xs.length
        · rw [List.getElem?_append_left hik] at hy
          exact hx i y hy
        · rw [List.getElem?_append_right (by omega)] at hy
          have : i - xs.length = 0 := by
            rcases Nat.eq_zero_or_pos (i - xs.length) with h | h
            · exact h
            · rw [List.getElem?_eq_none (by simp; omega)] at hy; cases hy
          rw [this] at hy
          simp at hy
          subst hy
          have : i = k := by omega
          subst this
          exact ⟨hq, h3⟩
    obtain ⟨xs, hl, hx⟩ := key len (Nat.le_refl _)
    subst hl
    refine ⟨xs, some a, cap, e', hlc, hcm, fun k u hu => ?_, fun x hm => ?_⟩
    · obtain ⟨i, j, x, rfl, hj, hix, hju⟩ := rows_at hlen hu
      have h1 := (hx i x hix).2 j hj
      rw [hju] at h1
      have hil := (List.getElem?_eq_some_iff.1 hix).1
      have h00 : ∃ u0, w.cell? a = some u0 := by
        obtain ⟨y, hy⟩ : ∃ y, xs[0]? = some y := ⟨_, List.getElem?_eq_getElem (by omega)⟩
        have h2 := (hx 0 y hy).2 0 h0
        obtain ⟨u0, hu0⟩ : ∃ u0, (encX y)[0]? = some u0 := ⟨_, List.getElem?_eq_getElem (by rw [hlen]; exact h0)⟩
        rw [hu0] at h2
        exact ⟨u0, by simpa [Addr.add] using h2⟩
      obtain ⟨b, off, spot⟩ := a
      obtain ⟨u0, hu0⟩ := h00
      have hspot : spot = none := World.cell?_spot hu0
      subst hspot
      refine ⟨_, rfl, rfl, Rd.old ?_⟩
      rw [Go.WideShapes.add_plain, Go.WideShapes.add_plain] at h1
      rw [← Nat.add_assoc]
      exact h1
    · obtain ⟨i, hi', he⟩ := List.getElem_of_mem hm
      exact (hx i x (by rw [List.getElem?_eq_getElem hi', he])).1
end Go.Proofs.Ytkcbjkadalebjaa
