/-
  Rows of cells, laid flat. No program stands here.
-/
import Derived.Test.YtkcbjkadalebjaaOps
namespace Go.Proofs.Ytkcbjkadalebjaa
open Go Go.RowKit

theorem flat_len {α : Type} {f : α → List Value} {p : Nat} (hf : ∀ x, (f x).length = p) : ∀ l : List α, (l.flatMap f).length = l.length * p
  | [] => by simp
  | x :: l => by rw [List.flatMap_cons, List.length_append, hf, flat_len hf l, List.length_cons, Nat.add_mul, Nat.one_mul, Nat.add_comm]
theorem flat_get {α : Type} {f : α → List Value} {p : Nat} (hf : ∀ x, (f x).length = p) : ∀ {l : List α} {i : Nat} {x : α}, l[i]? = some x → ∀ (j : Nat) (u : Value), (f x)[j]? = some u → (l.flatMap f)[i * p + j]? = some u
  | [], i, x, h, _, _, _ => by simp at h
  | y :: l, 0, x, h, j, u, hu => by
    simp at h
    subst h
    rw [List.flatMap_cons, Nat.zero_mul, Nat.zero_add, List.getElem?_append_left (List.getElem?_eq_some_iff.1 hu).1]
    exact hu
  | y :: l, i + 1, x, h, j, u, hu => by
    rw [List.flatMap_cons, List.getElem?_append_right (by rw [hf, Nat.add_mul]; omega), hf, show (i + 1) * p + j - p = i * p + j by rw [Nat.add_mul]; omega]
    exact flat_get hf (by simpa using h) j u hu
theorem flat_set {α : Type} {f : α → List Value} {p : Nat} (hf : ∀ x, (f x).length = p) : ∀ {l : List α} {i : Nat} (v : α), i < l.length → splice (l.flatMap f) (i * p) (f v) = (l.set i v).flatMap f
  | [], _, _, h => by simp at h
  | y :: l, 0, v, _ => by
    rw [List.set_cons_zero, List.flatMap_cons, List.flatMap_cons, Nat.zero_mul]
    unfold splice
    rw [List.take_zero, List.nil_append, Nat.zero_add, hf, ← hf y, List.drop_left]
  | y :: l, i + 1, v, h => by
    have ih := flat_set hf (l := l) (i := i) v (by simpa using h)
    rw [List.set_cons_succ, List.flatMap_cons, List.flatMap_cons, ← ih]
    unfold splice
    have e : (i + 1) * p = (f y).length + i * p := by rw [hf, Nat.add_mul]; omega
    rw [e, List.take_length_add_append, Nat.add_assoc, List.drop_length_add_append]
    simp
end Go.Proofs.Ytkcbjkadalebjaa
