/-
  The statements' rows of calls (layer 15); a Config in memory.
-/
import Derived.Test.YtcnbmfaicbkhcaaGreatDoorEnLw
set_option maxRecDepth 100000
namespace Go.Proofs.YtcnbmfaicbkhcaaGreatDoor
open Go Go.RowKit
structure OpE where
  k : Int
  h : Int
  c : Int
  v : V3
  r : Hdl
def c8o (o : OpE) : List Value := [.int .i64 o.k, .int .i64 o.h, .int .i64 o.c, .int .i64 o.v.k, .int .i64 o.v.a, .int .i64 o.v.b, .int .i64 o.r.1, .int .i64 o.r.2]
def cfC (n top : Int) (A : Option Addr) (m cA : Nat) (B : Option Addr) (k cB : Nat) : List Value := [.int .i64 n, .int .i64 top, .slice A m cA, .slice B k cB]
theorem zeroCf : (Tryz.prog.info? 27).bind (·.zero) = some (.agg (cfC 0 0 none 0 0 none 0 0).toArray) := by kernel_rfl
theorem aggCf : aggB Tryz.prog 27 = true := by kernel_rfl
theorem sizeCf (n top : Int) (A : Option Addr) (m cA : Nat) (B : Option Addr) (k cB : Nat) : (Tryz.prog.info? 27).map (·.size) = some (cfC n top A m cA B k cB).length := by kernel_rfl
theorem sizeCfv (n top : Int) (A : Option Addr) (m cA : Nat) (B : Option Addr) (k cB : Nat) : (Tryz.prog.info? 27).map (·.size) = some (Value.agg (cfC n top A m cA B k cB).toArray).cells.size := by kernel_rfl
theorem cfC_one (n top : Int) (A : Option Addr) (m cA : Nat) (B : Option Addr) (k cB : Nat) : ∀ u ∈ cfC n top A m cA B k cB, u.oneCell' = true := by simp [cfC]; exact ⟨rfl, rfl, rfl, rfl⟩
theorem WrA.slotCf {w0 : World} {g : Nat} {n top n' top' : Int} {A A' : Option Addr} {m cA m' cA' : Nat} {B B' : Option Addr} {k cB k' cB' : Nat} {t : TypeId} {L : List As} : WrA w0 (YtcnbmfaicbkhcaaGreatDoor.blk g (cfC n top A m cA B k cB).toArray t :: L) ⟨g, 0, none⟩ (Value.agg (cfC n' top' A' m' cA' B' k' cB').toArray).cells.toList (YtcnbmfaicbkhcaaGreatDoor.blk g (cfC n' top' A' m' cA' B' k' cB').toArray t :: L) := by
  have := WrA.blk (w0 := w0) (g := g) (o := 0) (cs := cfC n top A m cA B k cB) (t := t) (vs := cfC n' top' A' m' cA' B' k' cB') (L := L) (by simp [cfC]) (cfC_one _ _ _ _ _ _ _ _)
  rwa [splice_all (by simp [cfC])] at this
end Go.Proofs.YtcnbmfaicbkhcaaGreatDoor
