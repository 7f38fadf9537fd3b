/-
  The statements' rows of calls (layer 15); a Config in memory.
-/
import Derived.Test.YtiafdlofcjbllaaGreatDoorEnLw
set_option maxRecDepth 100000
namespace Go.Proofs.YtiafdlofcjbllaaGreatDoor
open Go Go.RowKit
theorem land_65535 (x : Int) : bits .and .i64 x 65535 = ((x % 65536).toNat : Nat) := and_m (p := 16) (by decide)
/-! ### The statements' rows of calls -/
structure OpE where
  k : Int
  h : Int
  c : Int
  v : V3
  r : Hdl
def c8o (o : OpE) : List Value := [.int .i64 o.k, .int .i64 o.h, .int .i64 o.c, .int .i64 o.v.k, .int .i64 o.v.a, .int .i64 o.v.b, .int .i64 o.r.1, .int .i64 o.r.2]
theorem c8o_len (o : OpE) : (c8o o).length = 8 := rfl
theorem c8o_one (o : OpE) : ∀ u ∈ c8o o, u.oneCell' = true := by simp [c8o]; exact ⟨rfl, rfl, rfl, rfl, rfl, rfl, rfl, rfl⟩
def cfC (n top : Int) (A : Option Addr) (m cA : Nat) (B : Option Addr) (k cB : Nat) : List Value := [.int .i64 n, .int .i64 top, .slice A m cA, .slice B k cB]
theorem build_cf (n top : Int) (A : Option Addr) (m cA : Nat) (w : World) : (Instr.build 28 #[(0, .int .i64 n), (1, .int .i64 top), (2, .slice A m cA)]).run Tryz.prog w = .ok (.agg (cfC n top A m cA none 0 0).toArray) w := by kernel_rfl
end Go.Proofs.YtiafdlofcjbllaaGreatDoor
