/-
  The contracts of a set's Word (whatever place) and Clear.
-/
import Derived.Test.YtdcihfofdjckjaaDoorHib6
import Derived.Test.YtdcihfofdjckjaaDoorOps2
set_option maxRecDepth 100000
namespace Go.Proofs.YtdcihfofdjckjaaDoor
open Go Go.RowKit
attribute [local irreducible] wpList Calls Code.wp

theorem wordS_out {S : List Nat} {level at_ : Int} (h : ¬ (0 ≤ level ∧ level < 4 ∧ 0 ≤ at_ ∧ at_ < 64 ^ (3 - level.toNat))) : wordS S level at_ = 0 := if_neg h
def ww (l : Nat) : Int := match l with
  | 0 => 262144
  | 1 => 4096
  | 2 => 64
  | _ => 1
theorem hword_hi (T : Nat) (a : Int) : ∀ l : Nat, l < 4 → ww l ≤ a → ∀ w : World, Calls Tryd.prog 11 #[.pointer (some ⟨T, 0, none⟩), .int .i64 (l : Nat), .int .i64 a] w fun e w' => e = .returned (.int .u64 0) ∧ Grew w w'
  | 0, _, h, w => by
    have h0 : decide (a < 0) = false := decide_eq_false (by simp only [ww] at h; omega)
    have hd : decide (262144 ≤ a) = true := decide_eq_true h
    clear h
    go_enter Tryd.func11, Tryd.ntmps11
    go_wp2
    go_ret
    exact ⟨rfl, Grew.refl _⟩
  | 1, _, h, w => by
    have h0 : decide (a < 0) = false := decide_eq_false (by simp only [ww] at h; omega)
    have hd : decide (4096 ≤ a) = true := decide_eq_true h
    clear h
    go_enter Tryd.func11, Tryd.ntmps11
    go_wp2
    go_ret
    exact ⟨rfl, Grew.refl _⟩
  | 2, _, h, w => by
    have h0 : decide (a < 0) = false := decide_eq_false (by simp only [ww] at h; omega)
    have hd : decide (64 ≤ a) = true := decide_eq_true h
    clear h
    go_enter Tryd.func11, Tryd.ntmps11
    go_wp2
    go_ret
    exact ⟨rfl, Grew.refl _⟩
  | 3, _, h, w => by
    have h0 : decide (a < 0) = false := decide_eq_false (by simp only [ww] at h; omega)
    have hd : decide (1 ≤ a) = true := decide_eq_true h
    clear h
    go_enter Tryd.func11, Tryd.ntmps11
    go_wp2
    go_ret
    exact ⟨rfl, Grew.refl _⟩
  | _ + 4, hl, _, _ => by omega
theorem hword_g {w0 w : World} {L : List As} {T : Nat} {S : List Nat} (hs : St w0 (HSet T S :: L) w) (level a : Int) :
    Calls Tryd.prog 11 #[.pointer (some ⟨T, 0, none⟩), .int .i64 level, .int .i64 a] w fun e w' => e = .returned (.int .u64 (wordS S level a : Nat)) ∧ Grew w w' := by
  by_cases h0 : level < 0
  · rw [wordS_out (fun h => by omega)]
    go_enter Tryd.func11, Tryd.ntmps11
    go_wp2
    go_ret
    exact ⟨rfl, Grew.refl _⟩
  · by_cases h4 : 4 ≤ level
    · rw [wordS_out (fun h => by omega)]
      go_enter Tryd.func11, Tryd.ntmps11
      go_wp2
      go_ret
      exact ⟨rfl, Grew.refl _⟩
    · obtain ⟨l, rfl⟩ := Int.eq_ofNat_of_zero_le (show 0 ≤ level by omega)
      have hl : l < 4 := by omega
      by_cases ha : a < 0
      · rw [wordS_out (fun h => by omega)]
        have h5 : (l : Int) ≤ 3 := by omega
        clear h4 hl
        go_enter Tryd.func11, Tryd.ntmps11
        go_wp2
        go_ret
        exact ⟨rfl, Grew.refl _⟩
      · have e : (64 : Int) ^ (3 - (l : Int).toNat) = ww l := by
          have h3 : l = 0 ∨ l = 1 ∨ l = 2 ∨ l = 3 := by omega
          rcases h3 with rfl | rfl | rfl | rfl <;> decide
        by_cases hm : ww l ≤ a
        · rw [wordS_out (fun h => by have := h.2.2.2; rw [e] at this; omega)]
          exact hword_hi T a l hl hm w
        · obtain ⟨p, rfl⟩ := Int.eq_ofNat_of_zero_le (show 0 ≤ a by omega)
          obtain ⟨ks, G, W, hf, hs⟩ := hs.hopen
          refine hword_in hf hs l p hl ?_
          have h3 : l = 0 ∨ l = 1 ∨ l = 2 ∨ l = 3 := by omega
          rcases h3 with rfl | rfl | rfl | rfl <;> simp only [ww] at hm <;> omega
theorem size_set : (Tryd.prog.info? 58).map (·.size) = some setZ.cells.size := by kernel_rfl
theorem zero_one : ∀ v ∈ zeroCells ++ [Value.int .i64 0], v.oneCell' = true := by
  intro v hv
  unfold zeroCells at hv
  rcases List.mem_append.1 hv with h | h
  · rcases List.mem_cons.1 h with rfl | h
    · rfl
    · rw [List.eq_of_mem_replicate h]; rfl
  · simp at h; subst h; rfl
theorem WrA.clear {w0 : World} {T : Nat} {ks : List Key} {G : Key → Option Nat} {W : Key → Nat} {n : Nat} {L : List As} (hk : (3, 0) ∈ ks) (hg : G (3, 0) = some T) : WrA w0 (tbl ks G W n :: L) ⟨T, 0, none⟩ setZ.cells.toList (HSet T [] :: L) := by
  have hlen : (nodeCells G W n (3, 0)).length = 66 := by simp [nodeCells]
  have h1 : WrA w0 (YtdcihfofdjckjaaDoor.blk T (nodeCells G W n (3, 0)).toArray 58 :: big ((ks.erase (3, 0)).map (ndBlk G W n)) :: L) ⟨T, 0, none⟩ setZ.cells.toList (YtdcihfofdjckjaaDoor.blk T (splice (nodeCells G W n (3, 0)) 0 (zeroCells ++ [Value.int .i64 0])).toArray 58 :: big ((ks.erase (3, 0)).map (ndBlk G W n)) :: L) :=
    WrA.blk (vs := zeroCells ++ [Value.int .i64 0]) (by rw [hlen]; simp [zeroCells]) zero_one
  rw [splice_all (by rw [hlen]; simp [zeroCells])] at h1
  intro P K w hs
  have hs2 : St w0 (YtdcihfofdjckjaaDoor.blk T (nodeCells G W n (3, 0)).toArray 58 :: big ((ks.erase (3, 0)).map (ndBlk G W n)) :: (L ++ K)) w := by
    have := Ent.open2 (L := L ++ K) (big_pull (f := ndBlk G W n) hk)
    rw [ndBlk, hg] at this
    exact St.ent hs this
  obtain ⟨w', hr, hs3⟩ := h1 P K w hs2
  exact ⟨w', hr, (St.rot hs3).drop.conv (tbl_empty T)⟩
theorem clear_h {w0 w : World} {L : List As} {T : Nat} {S : List Nat} (hs : St w0 (HSet T S :: L) w) :
    Calls Tryd.prog 20 #[.pointer (some ⟨T, 0, none⟩)] w fun e w' => e = .returned (.tuple #[]) ∧ St w0 (HSet T [] :: L) w' := by
  obtain ⟨ks, G, W, hf, hs⟩ := hs.hopen
  have hk : (3, 0) ∈ ks := (hf.mem _).2 (by rw [hf.top]; exact Option.some_ne_none T)
  have hw := WrA.clear (w0 := w0) (W := W) (n := S.length) (L := L) hk hf.top
  clear hk hf
  go_enter Tryd.func20, Tryd.ntmps20
  go_wp2_with (first
    | (refine wpl_build0 build_set ?_)
    | (refine wpl_store_agg (v := setZ) rfl rfl size_set hs hw ?_; clear hs hw; intro w hs))
  go_end0
  exact ⟨rfl, hs⟩
end Go.Proofs.YtdcihfofdjckjaaDoor
