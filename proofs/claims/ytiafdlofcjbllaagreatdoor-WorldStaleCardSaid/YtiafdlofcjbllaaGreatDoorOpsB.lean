/-
  A slice written out whose making is known as a whole; two Ops in a row.
-/
import Derived.Test.YtiafdlofcjbllaaGreatDoorWo4
set_option maxRecDepth 100000
namespace Go.Proofs.YtiafdlofcjbllaaGreatDoor
open Go Go.RowKit
section
variable {P : Program} {ops : Array Oper} {Q : Exit → Act → World → Prop} {rest : List Oper} {a : Act} {w0 w : World} {L : List As} {dst : Option Tmp} {ty : TypeId} {pos : String} {after : Array Edge}
theorem wpl_buildRun {t e : TypeId} {parts : List (Nat × Operand)} {vs : List (Nat × Value)} {n : Nat} {cs : Array Value} (hz : ∀ w : World, (Instr.buildSlice t n vs.toArray).run P w = .ok (.slice (some ⟨w.heap.size, 0, none⟩) n n) (w.alloc (.cells cs e))) (hp : parts.map (fun x => (x.1, a.eval x.2)) = vs) (hs : St w0 L w)
    (next : ∀ g w', St w0 (blk g cs e :: L) w' → wpList P ops Q rest (a.put dst (.slice (some ⟨g, 0, none⟩) n n)) w') : wpList P ops Q (⟨dst, .buildSlice t n parts.toArray, ty, pos, after, none⟩ :: rest) a w :=
  wpList_plain rfl fun K hK => by
    unfold Oper.wp execOp
    simp only [Sem.run_bind, List.map_toArray, hp, hz w, Result.andThen_ok, Sem.run_pure]
    exact hK _ _ (next _ _ (hs.alloc _ _))
end
theorem build_ops2 (a b : OpW) (w : World) : (Instr.buildSlice 57 2 [(0, valW a), (1, valW b)].toArray).run Tryz.prog w = .ok (.slice (some ⟨w.heap.size, 0, none⟩) 2 2) (w.alloc (.cells (c7w a ++ c7w b).toArray 99)) := by kernel_rfl
theorem c7_two (a b : OpW) : [a, b].flatMap c7w = c7w a ++ c7w b := by simp
end Go.Proofs.YtiafdlofcjbllaaGreatDoor
