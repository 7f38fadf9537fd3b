/-
  The document's rising rows (vivariumref1), 3: Without, List, Word.
-/
import Derived.Test.YtkcbjkadalebjaaRrow2
set_option maxRecDepth 100000
namespace Go.Proofs.Ytkcbjkadalebjaa
open Go Go.RowKit
attribute [local irreducible] wpList Calls Code.wp

/-- A number taken out of a rising row, where it stands. -/
theorem atI_del {S : List Nat} (hS : S.Pairwise (· < ·)) {q k : Nat} (h : AtI S (q : Int) k) (hm : memS S (q : Int) = true) : k < S.length ∧ delS q S = S.take k ++ S.drop (k + 1) := by
  have hx := h.mem hS
  rw [hm] at hx
  cases hk : S[k]? with
  | none => rw [hk] at hx; cases hx
  | some a =>
    rw [hk] at hx
    have ha : a = q := by have : (a : Int) = q := by simpa using hx.symm
                          omega
    subst ha
    obtain ⟨hl, he⟩ := List.getElem?_eq_some_iff.1 hk
    refine ⟨hl, ?_⟩
    have e : S = S.take k ++ (a :: S.drop (k + 1)) := by
      conv => lhs; rw [← List.take_append_drop k S, List.drop_eq_getElem_cons hl, he]
    have hp : (S.take k ++ (a :: S.drop (k + 1))).Pairwise (· < ·) := by rw [← e]; exact hS
    rw [List.pairwise_append, List.pairwise_cons] at hp
    unfold delS
    conv => lhs; rw [e]
    rw [List.filter_append, List.filter_cons]
    simp only [bne_self_eq_false, Bool.false_eq_true, if_false]
    congr 1
    · refine List.filter_eq_self.2 fun b hb => ?_
      have := h.2.1 b hb
      simp only [bne_iff_ne, ne_eq]
      omega
    · refine List.filter_eq_self.2 fun b hb => ?_
      have := hp.2.1.1 b hb
      simp only [bne_iff_ne, ne_eq]
      omega
theorem St.grew0 {w0 w : World} {L : List As} (hs : St w0 L w) : St w0 [] w := (St.start w0).grew hs.below
theorem remS_at {S : List Nat} {i : Nat} (h : i < 16777216) : remS S (i : Int) = delS i S := by unfold remS okN; rw [if_pos (decide_eq_true ⟨by omega, by omega⟩)]; simp
end Go.Proofs.Ytkcbjkadalebjaa
