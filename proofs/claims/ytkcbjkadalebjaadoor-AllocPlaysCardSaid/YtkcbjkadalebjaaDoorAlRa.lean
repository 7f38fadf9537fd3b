/-
  AllocRaised.
-/
import Derived.Test.YtkcbjkadalebjaaDoorAlSp
import Derived.Test.YtkcbjkadalebjaaDoorArgs
set_option maxRecDepth 100000
namespace Go.Proofs.YtkcbjkadalebjaaDoor
open Go Go.RowKit
attribute [local irreducible] wpList Calls Code.wp

def cb1 (b : Bool) : List Value := [.bool b]
theorem list1 {α : Type} {l : List α} (h : l.length = 1) : ∃ a, l = [a] := by
  match l, h with
  | [a], _ => exact ⟨a, rfl⟩
theorem goodB {H : Type} {enc : TypeId × Value → H} {w : World} (n : Nat) (cs : List Value) (y : DataW H × List MemPlace) (h : DataW.trod enc Tryd.prog w 0 (fun _ => true) true n 4 cs = some y) : ∃ x, cs = cb1 x ∧ True := by
  obtain ⟨b, e, _⟩ := DataW.trod_bool Tryd.underlying4 h
  exact ⟨b, e, trivial⟩
/-- Two slices of the same handles. -/
theorem sameH_c {w0 w : World} {L : List As} {l : List Hdl} {A B : Option Addr} {n c1 c2 : Nat} (hn : l.length = n) (hm : n ≤ 4000000000) (hs : St w0 L w) (hr1 : RdS w0 L A (hsV l)) (hr2 : RdS w0 L B (hsV l)) :
    Calls Tryd.prog 18 #[.slice A n c1, .slice B n c2] w fun e w' => e = .returned (.bool true) ∧ Grew w w' := by
  have HN := Lib.hid hn
  clear hn
  go_enter Tryd.func18, Tryd.ntmps18
  go_wp2
  go_loopw [5] (fun iv wr => ∃ k : Nat, k ≤ n ∧ iv = .int .i64 (k : Nat) ∧ Grew w wr) (fun iv _ => n - (intOf iv).toNat)
  case atStart => exact ⟨0, Nat.zero_le _, rfl, Grew.refl w⟩
  case round =>
    obtain ⟨k, hk, rfl, hg⟩ := hrel
    by_cases hlt : k < n
    · obtain ⟨⟨i, g⟩, hx⟩ : ∃ x, l[k]? = some x := ⟨_, List.getElem?_eq_getElem (by rw [HN.out]; omega)⟩
      obtain ⟨p, o, rfl, a0⟩ := hr1.get (hsV_get hx 0 (.int .i64 i) rfl)
      obtain ⟨p', o', rfl, b0⟩ := hr2.get (hsV_get hx 0 (.int .i64 i) rfl)
      obtain ⟨_, _, e1, a1⟩ := hr1.get (hsV_get hx 1 (.int .i64 g) rfl)
      obtain ⟨_, _, e2, b1⟩ := hr2.get (hsV_get hx 1 (.int .i64 g) rfl)
      injection e1 with e1
      injection e1 with e1 e3
      injection e2 with e2
      injection e2 with e2 e4
      subst e1; subst e2; subst e3; subst e4
      have a0 := a0 _ (hs.grew hg)
      have a1 := a1 _ (hs.grew hg)
      have b0 := b0 _ (hs.grew hg)
      have b1 := b1 _ (hs.grew hg)
      simp only [Nat.add_zero] at a0 b0
      rw [← Nat.add_assoc] at a1 b1
      clear hx
      go_wp2
      refine wp_region_grow (by kernel_rfl) (by kernel_rfl) fun hne2 => ?_
      have g0 := fun p : GW wr => p.grew.cell a0
      have g1 := fun p : GW wr => p.grew.cell a1
      have g2 := fun p : GW wr => p.grew.cell b0
      have g3 := fun p : GW wr => p.grew.cell b1
      repeat (go_big_quiet_step (fail))
      refine wpQuiet_nil ?_
      clear hne2 g0 g1 g2 g3
      intro u hu
      go_wp2
      go_roundw
      case rel => first | exact ⟨k + 1, by omega, by go_num, hg.trans hu⟩ | ((repeat apply Exists.intro); refine ⟨?_, rfl⟩; exact ⟨k + 1, by omega, by go_num, hg.trans hu⟩)
      case measure => simp [intOf] <;> omega
    · go_wp2
      go_ret
      exact ⟨rfl, hg⟩
/-- Which are raised so far. -/
structure RaI (i : Nat) (U : List Nat) (cs : List ACell) : Prop where
  len : cs.length = 100
  on : ∀ j, i ≤ j → j < 100 → stA cs j = 0 ∧ gnA cs j = 0
  off : ∀ j, j < i → stA cs j ≠ 0 ∧ gnA cs j = 1
  up : idxS 2 cs = U
theorem raI_start : RaI 0 [] (newA 100) := ⟨by simp [newA], fun j _ hj => ⟨stA_new hj, gnA_new _ _⟩, fun j hj => absurd hj (Nat.not_lt_zero j), idx_new 100 (by decide)⟩
theorem RaI.give {i s : Nat} {U : List Nat} {cs : List ACell} (h : RaI i U cs) (hi : i < 100) : giveV s cs = (((i : Int), 1), 0, cs.set i (s, 1)) :=
  giveV_at (by rw [h.len]; exact hi) (h.on i (Nat.le_refl _) hi).1 (fun j hj => (h.off j hj).1) (by rw [(h.on i (Nat.le_refl _) hi).2]; rfl)
theorem RaI.set {i s : Nat} {U U' : List Nat} {cs : List ACell} (h : RaI i U cs) (hi : i < 100) (hs : s ≠ 0) (hU : idxS 2 (cs.set i (s, 1)) = U') : RaI (i + 1) U' (cs.set i (s, 1)) where
  len := by rw [List.length_set]; exact h.len
  on j h1 h2 := by
    have hl : i < cs.length := by rw [h.len]; exact hi
    rw [stA_set hl, gnA_set hl, if_neg (by omega), if_neg (by omega)]
    exact h.on j (by omega) h2
  off j h1 := by
    have hl : i < cs.length := by rw [h.len]; exact hi
    rw [stA_set hl, gnA_set hl]
    by_cases e : j = i
    · rw [if_pos e, if_pos e]; exact ⟨hs, rfl⟩
    · rw [if_neg e, if_neg e]; exact h.off j (by omega)
  up := hU
theorem RaI.create {i : Nat} {U : List Nat} {cs : List ACell} (h : RaI i U cs) (hi : i < 100) : RaI (i + 1) U (cs.set i (1, 1)) ∧ stV (cs.set i (1, 1)) ((i : Int), 1) = 1 := by
  have hl : i < cs.length := by rw [h.len]; exact hi
  refine ⟨h.set hi (by decide) ?_, ?_⟩
  · rw [idxS_off hl (by decide) (by rw [(h.on i (Nat.le_refl _) hi).1]; decide)]; exact h.up
  · rw [stV_in (by rw [List.length_set]; exact hl) (by rw [gnA_set hl, if_pos rfl]), stA_set hl, if_pos rfl]; rfl
theorem ins_last {U : List Nat} {i : Nat} (hU : ∀ a ∈ U, a < i) (hs : U.Pairwise (· < ·)) : insS i U = U ++ [i] :=
  sorted_ext (sorted_insS hs) (List.pairwise_append.2 ⟨hs, List.pairwise_singleton _ _, fun a ha b hb => by simp at hb; have := hU a ha; omega⟩) fun x => by
    rw [mem_insS, List.mem_append, List.mem_singleton]; exact or_comm
theorem RaI.lt {i : Nat} {U : List Nat} {cs : List ACell} (h : RaI i U cs) : ∀ a ∈ U, a < i := fun a ha => by
  rw [← h.up] at ha
  obtain ⟨h1, h2⟩ := mem_idxS.1 ha
  rw [h.len] at h1
  rcases Nat.lt_or_ge a i with h3 | h3
  · exact h3
  · rw [(h.on a h3 h1).1] at h2; cases h2
theorem RaI.raise {i : Nat} {U : List Nat} {cs : List ACell} (h : RaI i U cs) (hi : i < 100) : RaI (i + 1) (U ++ [i]) (cs.set i (2, 1)) ∧ stV (cs.set i (2, 1)) ((i : Int), 1) = 2 ∧ delA 3 (cs.set i (2, 1)) ((i : Int), 1) = (5, cs.set i (2, 1)) := by
  have hl : i < cs.length := by rw [h.len]; exact hi
  have hst : stV (cs.set i (2, 1)) ((i : Int), 1) = 2 := by
    rw [stV_in (by rw [List.length_set]; exact hl) (by rw [gnA_set hl, if_pos rfl]), stA_set hl, if_pos rfl]; rfl
  refine ⟨h.set hi (by decide) ?_, hst, by unfold delA; rw [hst]; rfl⟩
  rw [idxS_in hl, h.up]
  exact ins_last h.lt (h.up ▸ sorted_idxS 2 cs)
def hU (U : List Nat) : List Hdl := U.map fun a : Nat => ((a : Int), (1 : Int))
theorem hU_snoc (U : List Nat) (i : Nat) : hU U ++ [((i : Int), (1 : Int))] = hU (U ++ [i]) := by simp [hU]
theorem hU_get {U : List Nat} {k a : Nat} (h : U[k]? = some a) : (hU U)[k]? = some ((a : Int), 1) := by simp [hU, h]
theorem hU_len (U : List Nat) : (hU U).length = U.length := by simp [hU]
theorem RaI.all {i : Nat} {U : List Nat} {cs : List ACell} (h : RaI i U cs) : allH cs (idxS 2 cs) = hU U := by
  rw [h.up]
  unfold allH hU handA
  refine List.map_congr_left fun a ha => ?_
  rw [(h.off a (h.lt a ha)).2]
/-- What is still to be deleted. -/
structure RdI (U : List Nat) (k : Nat) (cs : List ACell) : Prop where
  len : cs.length = 100
  sorted : U.Pairwise (· < ·)
  st : ∀ a ∈ U.drop k, a < 100 ∧ stA cs a = 1 ∧ gnA cs a = 1
theorem RaI.merged {i : Nat} {U : List Nat} {cs : List ACell} (h : RaI i U cs) : RdI U 0 (mergeA cs) where
  len := by rw [mergeA_len]; exact h.len
  sorted := h.up ▸ sorted_idxS 2 cs
  st a ha := by
    rw [List.drop_zero] at ha
    have h1 := (h.off a (h.lt a ha)).2
    rw [← h.up] at ha
    obtain ⟨h2, h3⟩ := mem_idxS.1 ha
    rw [stA_merge, gnA_merge, h3]
    exact ⟨by rw [← h.len]; exact h2, rfl, h1⟩
theorem RdI.again {U : List Nat} {k : Nat} {cs : List ACell} (_h : RdI U k cs) (h2 : idxS 2 cs = []) : mergeA cs = cs := by
  unfold mergeA
  conv => rhs; rw [← List.map_id cs]
  refine List.map_congr_left fun c hc => ?_
  obtain ⟨i, hi, he⟩ := List.getElem_of_mem hc
  split
  · rename_i hc2
    have : i ∈ idxS 2 cs := mem_idxS.2 ⟨hi, by simp [stA, hi, he, hc2]⟩
    rw [h2] at this
    cases this
  · rfl
theorem RdI.del {U : List Nat} {k a : Nat} {cs : List ACell} (h : RdI U k cs) (ha : U[k]? = some a) : stV cs ((a : Int), 1) = 1 ∧ delA 3 cs ((a : Int), 1) = (0, cs.set a (0, 1)) ∧ RdI U (k + 1) (cs.set a (0, 1)) := by
  obtain ⟨hil, hie⟩ := List.getElem?_eq_some_iff.1 ha
  have hd : U.drop k = a :: U.drop (k + 1) := by rw [List.drop_eq_getElem_cons hil, hie]
  obtain ⟨h1, h2, h3⟩ := h.st a (by rw [hd]; exact List.mem_cons_self)
  have hl : a < cs.length := by rw [h.len]; exact h1
  have hsrt : (a :: U.drop (k + 1)).Pairwise (· < ·) := hd ▸ h.sorted.sublist (List.drop_sublist k U)
  refine ⟨by rw [stV_in hl h3, if_pos h2], by simpa using delA_live (top := 3) hl h2 h3, by rw [List.length_set]; exact h.len, h.sorted, fun b hb => ?_⟩
  have hba : a < b := (List.pairwise_cons.1 hsrt).1 b hb
  rw [stA_set hl, gnA_set hl, if_neg (by omega), if_neg (by omega)]
  exact h.st b (by rw [hd]; exact List.mem_cons_of_mem _ hb)
end Go.Proofs.YtkcbjkadalebjaaDoor
