/-
  The statements' rows of calls (layer 15); a Config in memory.
-/
import Derived.Test.YtiafdlofcjbllaaGreatDoorEnLw
set_option maxRecDepth 100000
namespace Go.Proofs.YtiafdlofcjbllaaGreatDoor
open Go Go.RowKit
theorem land_65535 (x : Int) : bits .and .i64 x 65535 = ((x % 65536).toNat : Nat) := and_m (p := 16) (by decide)
/-! ### The statements' rows of calls -/
structure OpE where
  k : Int
  h : Int
  c : Int
  v : V3
  r : Hdl
def c8o (o : OpE) : List Value := [.int .i64 o.k, .int .i64 o.h, .int .i64 o.c, .int .i64 o.v.k, .int .i64 o.v.a, .int .i64 o.v.b, .int .i64 o.r.1, .int .i64 o.r.2]
theorem c8o_len (o : OpE) : (c8o o).length = 8 := rfl
theorem c8o_one (o : OpE) : ∀ u ∈ c8o o, u.oneCell' = true := by simp [c8o]; exact ⟨rfl, rfl, rfl, rfl, rfl, rfl, rfl, rfl⟩
def cfC (n top : Int) (A : Option Addr) (m cA : Nat) (B : Option Addr) (k cB : Nat) : List Value := [.int .i64 n, .int .i64 top, .slice A m cA, .slice B k cB]
theorem build_cf (n top : Int) (A : Option Addr) (m cA : Nat) (w : World) : (Instr.build 28 #[(0, .int .i64 n), (1, .int .i64 top), (2, .slice A m cA)]).run Tryz.prog w = .ok (.agg (cfC n top A m cA none 0 0).toArray) w := by kernel_rfl
theorem zeroCf : (Tryz.prog.info? 28).bind (·.zero) = some (.agg (cfC 0 0 none 0 0 none 0 0).toArray) := by kernel_rfl
theorem aggCf : aggB Tryz.prog 28 = true := by kernel_rfl
theorem sizeCf (n top : Int) (A : Option Addr) (m cA : Nat) (B : Option Addr) (k cB : Nat) : (Tryz.prog.info? 28).map (·.size) = some (cfC n top A m cA B k cB).length := by kernel_rfl
theorem sizeCfv (n top : Int) (A : Option Addr) (m cA : Nat) (B : Option Addr) (k cB : Nat) : (Tryz.prog.info? 28).map (·.size) = some (Value.agg (cfC n top A m cA B k cB).toArray).cells.size := by kernel_rfl
theorem cfC_one (n top : Int) (A : Option Addr) (m cA : Nat) (B : Option Addr) (k cB : Nat) : ∀ u ∈ cfC n top A m cA B k cB, u.oneCell' = true := by simp [cfC]; exact ⟨rfl, rfl, rfl, rfl⟩
theorem WrA.slotCf {w0 : World} {g : Nat} {n top n' top' : Int} {A A' : Option Addr} {m cA m' cA' : Nat} {B B' : Option Addr} {k cB k' cB' : Nat} {t : TypeId} {L : List As} : WrA w0 (YtiafdlofcjbllaaGreatDoor.blk g (cfC n top A m cA B k cB).toArray t :: L) ⟨g, 0, none⟩ (Value.agg (cfC n' top' A' m' cA' B' k' cB').toArray).cells.toList (YtiafdlofcjbllaaGreatDoor.blk g (cfC n' top' A' m' cA' B' k' cB').toArray t :: L) := by
  have := WrA.blk (w0 := w0) (g := g) (o := 0) (cs := cfC n top A m cA B k cB) (t := t) (vs := cfC n' top' A' m' cA' B' k' cB') (L := L) (by simp [cfC]) (cfC_one _ _ _ _ _ _ _ _)
  rwa [splice_all (by simp [cfC])] at this
end Go.Proofs.YtiafdlofcjbllaaGreatDoor
