/-
  The contracts of a set's Word (whatever place) and Clear.
-/
import Derived.Test.YtkcbjkadalebjaaDoorHib6
import Derived.Test.YtkcbjkadalebjaaDoorOps2
set_option maxRecDepth 100000
namespace Go.Proofs.YtkcbjkadalebjaaDoor
open Go Go.RowKit
attribute [local irreducible] wpList Calls Code.wp

theorem wordS_out {S : List Nat} {level at_ : Int} (h : ¬ (0 ≤ level ∧ level < 4 ∧ 0 ≤ at_ ∧ at_ < 64 ^ (3 - level.toNat))) : wordS S level at_ = 0 := if_neg h
def ww (l : Nat) : Int := match l with
  | 0 => 262144
  | 1 => 4096
  | 2 => 64
  | _ => 1
theorem size_set : (Tryd.prog.info? 87).map (·.size) = some setZ.cells.size := by kernel_rfl
theorem zero_one : ∀ v ∈ zeroCells ++ [Value.int .i64 0], v.oneCell' = true := by
  intro v hv
  unfold zeroCells at hv
  rcases List.mem_append.1 hv with h | h
  · rcases List.mem_cons.1 h with rfl | h
    · rfl
    · rw [List.eq_of_mem_replicate h]; rfl
  · simp at h; subst h; rfl
theorem WrA.clear {w0 : World} {T : Nat} {ks : List Key} {G : Key → Option Nat} {W : Key → Nat} {n : Nat} {L : List As} (hk : (3, 0) ∈ ks) (hg : G (3, 0) = some T) : WrA w0 (tbl ks G W n :: L) ⟨T, 0, none⟩ setZ.cells.toList (HSet T [] :: L) := by
  have hlen : (nodeCells G W n (3, 0)).length = 66 := by simp [nodeCells]
  have h1 : WrA w0 (YtkcbjkadalebjaaDoor.blk T (nodeCells G W n (3, 0)).toArray 87 :: big ((ks.erase (3, 0)).map (ndBlk G W n)) :: L) ⟨T, 0, none⟩ setZ.cells.toList (YtkcbjkadalebjaaDoor.blk T (splice (nodeCells G W n (3, 0)) 0 (zeroCells ++ [Value.int .i64 0])).toArray 87 :: big ((ks.erase (3, 0)).map (ndBlk G W n)) :: L) :=
    WrA.blk (vs := zeroCells ++ [Value.int .i64 0]) (by rw [hlen]; simp [zeroCells]) zero_one
  rw [splice_all (by rw [hlen]; simp [zeroCells])] at h1
  intro P K w hs
  have hs2 : St w0 (YtkcbjkadalebjaaDoor.blk T (nodeCells G W n (3, 0)).toArray 87 :: big ((ks.erase (3, 0)).map (ndBlk G W n)) :: (L ++ K)) w := by
    have := Ent.open2 (L := L ++ K) (big_pull (f := ndBlk G W n) hk)
    rw [ndBlk, hg] at this
    exact St.ent hs this
  obtain ⟨w', hr, hs3⟩ := h1 P K w hs2
  exact ⟨w', hr, (St.rot hs3).drop.conv (tbl_empty T)⟩
theorem clear_h {w0 w : World} {L : List As} {T : Nat} {S : List Nat} (hs : St w0 (HSet T S :: L) w) :
    Calls Tryd.prog 37 #[.pointer (some ⟨T, 0, none⟩)] w fun e w' => e = .returned (.tuple #[]) ∧ St w0 (HSet T [] :: L) w' := by
  obtain ⟨ks, G, W, hf, hs⟩ := hs.hopen
  have hk : (3, 0) ∈ ks := (hf.mem _).2 (by rw [hf.top]; exact Option.some_ne_none T)
  have hw := WrA.clear (w0 := w0) (W := W) (n := S.length) (L := L) hk hf.top
  clear hk hf
  go_enter Tryd.func37, Tryd.ntmps37
  go_wp2_with (first
    | (refine wpl_build0 build_set ?_)
    | (refine wpl_store_agg (v := setZ) rfl rfl size_set hs hw ?_; clear hs hw; intro w hs))
  go_end0
  exact ⟨rfl, hs⟩
end Go.Proofs.YtkcbjkadalebjaaDoor
