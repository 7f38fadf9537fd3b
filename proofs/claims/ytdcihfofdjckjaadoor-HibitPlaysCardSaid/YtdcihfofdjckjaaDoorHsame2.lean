/-
  The contract of hibit.Same.
-/
import Derived.Test.YtdcihfofdjckjaaDoorHsame
set_option maxRecDepth 100000
namespace Go.Proofs.YtdcihfofdjckjaaDoor
open Go Go.RowKit
attribute [local irreducible] wpList Calls Code.wp

theorem kidV_zero (G : Key → Option Nat) (p d : Nat) : kidV G 0 p d = .pointer none := rfl
theorem kidV_succ (G : Key → Option Nat) (m p d : Nat) : kidV G (m + 1) p d = ptrV (G (m, 64 * p + d)) := rfl
section
variable {S1 S2 : List Nat} {G1 G2 : Key → Option Nat}
theorem same_any (l p : Nat) (hl : l < 3) {w : World} (h1 : TreeR S1 G1 w) (h2 : TreeR S2 G2 w) {b : Bool} (hb : b = true ↔ EqAt S1 S2 l p)
    (hboth : ∀ g1 g2, G1 (l, p) = some g1 → G2 (l, p) = some g2 → Calls Tryd.prog 39 #[.pointer (some ⟨g1, 0, none⟩), .pointer (some ⟨g2, 0, none⟩)] w (SamePost b w)) :
    Calls Tryd.prog 39 #[ptrV (G1 (l, p)), ptrV (G2 (l, p))] w (SamePost b w) := by
  have t1 := h1.there (l, p) hl
  have t2 := h2.there (l, p) hl
  cases hg1 : G1 (l, p) with
  | none =>
    have e1 : wordOf S1 (l, p) = 0 := Classical.byContradiction fun h => t1.2 h hg1
    cases hg2 : G2 (l, p) with
    | none =>
      have e2 : wordOf S2 (l, p) = 0 := Classical.byContradiction fun h => t2.2 h hg2
      rw [hb.2 (eqAt_nil e1 e2)]
      exact same_nil w
    | some g2 =>
      have e2 : wordOf S2 (l, p) ≠ 0 := t2.1 (by rw [hg2]; exact Option.some_ne_none g2)
      have : b = false := by
        cases b with
        | false => rfl
        | true => exact absurd ((eqAt_word (hb.1 rfl)).symm.trans e1) e2
      rw [this]
      exact same_nil1 w g2
  | some g1 =>
    have e1 : wordOf S1 (l, p) ≠ 0 := t1.1 (by rw [hg1]; exact Option.some_ne_none g1)
    cases hg2 : G2 (l, p) with
    | none =>
      have e2 : wordOf S2 (l, p) = 0 := Classical.byContradiction fun h => t2.2 h hg2
      have : b = false := by
        cases b with
        | false => rfl
        | true => exact absurd ((eqAt_word (hb.1 rfl)).trans e2) e1
      rw [this]
      exact same_nil2 w g1
    | some g2 => exact hboth g1 g2 hg1 hg2
theorem same_some : ∀ (l p g1 g2 : Nat), l ≤ 3 → G1 (l, p) = some g1 → G2 (l, p) = some g2 → ∀ w, TreeR S1 G1 w → TreeR S2 G2 w → ∀ b : Bool, (b = true ↔ EqAt S1 S2 l p) → Calls Tryd.prog 39 #[.pointer (some ⟨g1, 0, none⟩), .pointer (some ⟨g2, 0, none⟩)] w (SamePost b w)
  | 0, p, g1, g2, hl, hg1, hg2, w, h1, h2, b, hb =>
    same_step (fun _ => True) (h1.word _ _ hg1 hl) (h2.word _ _ hg2 hl) (fun d hd => h1.kid _ _ d hg1 hd) (fun d hd => h2.kid _ _ d hg2 hd)
      (fun i _ b hb w' _ => by
        rw [hb.2 trivial]
        exact same_nil w')
      (by rw [hb]; exact ⟨fun h => ⟨eqAt_word h, fun _ _ => trivial⟩, fun h => eqAt_zero h.1⟩)
  | m + 1, p, g1, g2, hl, hg1, hg2, w, h1, h2, b, hb =>
    same_step (fun i => EqAt S1 S2 m (64 * p + i)) (h1.word _ _ hg1 hl) (h2.word _ _ hg2 hl) (fun d hd => h1.kid _ _ d hg1 hd) (fun d hd => h2.kid _ _ d hg2 hd)
      (fun i _ b hb w' hg => same_any m (64 * p + i) (by omega) (h1.grew hg) (h2.grew hg) hb fun g1' g2' e1 e2 => same_some m (64 * p + i) g1' g2' (by omega) e1 e2 w' (h1.grew hg) (h2.grew hg) b hb)
      (by rw [hb]; exact ⟨fun h => ⟨eqAt_word h, eqAt_kids.1 h⟩, fun h => eqAt_kids.2 h.2⟩)
end
/-- A set, or nothing. -/
def SetV (S : List Nat) (v : Value) (w : World) : Prop := (v = .pointer none ∧ S = []) ∨ ∃ T, v = .pointer (some ⟨T, 0, none⟩) ∧ ∃ G : Key → Option Nat, G (3, 0) = some T ∧ TreeR S G w
theorem SetV.grew {S : List Nat} {v : Value} {w w' : World} (h : SetV S v w) (hg : Grew w w') : SetV S v w' := by
  rcases h with h | ⟨T, e, G, h1, h2⟩
  · exact .inl h
  · exact .inr ⟨T, e, G, h1, h2.grew hg⟩
theorem SetV.nil (w : World) : SetV [] (.pointer none) w := .inl ⟨rfl, rfl⟩
theorem SetV.of {w0 w : World} {L : List As} {T : Nat} {S : List Nat} (hs : St w0 (HSet T S :: L) w) : SetV S (.pointer (some ⟨T, 0, none⟩)) w := by
  obtain ⟨ks, G, W, hf, hs⟩ := hs.hopen
  exact .inr ⟨T, rfl, G, hf.top, hf.tree hs⟩
theorem g0_top (c : Nat) : G0 c (3, 0) = some c := upd_same _ _ _
theorem hsame_g {S1 S2 : List Nat} {v1 v2 : Value} {w : World} (h1 : SetV S1 v1 w) (h2 : SetV S2 v2 w) (hS1 : S1.Pairwise (· < ·)) (hs1 : ∀ a ∈ S1, a < 16777216) (hS2 : S2.Pairwise (· < ·)) (hs2 : ∀ a ∈ S2, a < 16777216) {b : Bool} (hb : b = true ↔ S1 = S2) :
    Calls Tryd.prog 19 #[v1, v2] w (SamePost b w) := by
  rw [← eqAt_all hS1 hS2 hs1 hs2] at hb
  have hm0 := St.start w
  clear hS1 hs1 hS2 hs2
  rcases h1 with ⟨rfl, rfl⟩ | ⟨T1, rfl, G1, ht1, h1⟩ <;> rcases h2 with ⟨rfl, rfl⟩ | ⟨T2, rfl, G2, ht2, h2⟩
  · skip
    go_enter Tryd.func19, Tryd.ntmps19
    go_wp2_with (first
      | (refine wpl_build0 build_node ?_)
      | (refine wpl_box_v (v := nodeZ) rfl hm ?_; clear hm; intro c2 w2 hm)
      | (refine wpl_box_v (v := nodeZ) rfl hm0 ?_; clear hm0; intro c1 w1 hm)
      | (go_at_call 39; refine (same_some 3 0 _ _ (Nat.le_refl 3) (g0_top c1) (g0_top c2) _ (zero_tree hm.rot) (zero_tree hm) b hb).mono ?_; rintro e w' ⟨rfl, hg⟩))
    go_ret
    exact ⟨rfl, hm.made_grew.trans hg⟩
  · skip
    go_enter Tryd.func19, Tryd.ntmps19
    go_wp2_with (first
      | (refine wpl_build0 build_node ?_)
      | (refine wpl_box_v (v := nodeZ) rfl hm ?_; clear hm; intro c2 w2 hm)
      | (refine wpl_box_v (v := nodeZ) rfl hm0 ?_; clear hm0; intro c1 w1 hm)
      | (go_at_call 39; refine (same_some 3 0 _ _ (Nat.le_refl 3) (g0_top c1) ht2 _ (zero_tree hm.rot) (h2.grew hm.made_grew) b hb).mono ?_; rintro e w' ⟨rfl, hg⟩))
    go_ret
    exact ⟨rfl, hm.made_grew.trans hg⟩
  · skip
    go_enter Tryd.func19, Tryd.ntmps19
    go_wp2_with (first
      | (refine wpl_build0 build_node ?_)
      | (refine wpl_box_v (v := nodeZ) rfl hm ?_; clear hm; intro c2 w2 hm)
      | (refine wpl_box_v (v := nodeZ) rfl hm0 ?_; clear hm0; intro c1 w1 hm)
      | (go_at_call 39; refine (same_some 3 0 _ _ (Nat.le_refl 3) ht1 (g0_top c2) _ (h1.grew hm.made_grew) (zero_tree hm) b hb).mono ?_; rintro e w' ⟨rfl, hg⟩))
    go_ret
    exact ⟨rfl, hm.made_grew.trans hg⟩
  · skip
    go_enter Tryd.func19, Tryd.ntmps19
    go_wp2_with (first
      | (refine wpl_build0 build_node ?_)
      | (refine wpl_box_v (v := nodeZ) rfl hm ?_; clear hm; intro c2 w2 hm)
      | (refine wpl_box_v (v := nodeZ) rfl hm0 ?_; clear hm0; intro c1 w1 hm)
      | (go_at_call 39; refine (same_some 3 0 _ _ (Nat.le_refl 3) ht1 ht2 _ (h1.grew hm.made_grew) (h2.grew hm.made_grew) b hb).mono ?_; rintro e w' ⟨rfl, hg⟩))
    go_ret
    exact ⟨rfl, hm.made_grew.trans hg⟩
end Go.Proofs.YtdcihfofdjckjaaDoor
