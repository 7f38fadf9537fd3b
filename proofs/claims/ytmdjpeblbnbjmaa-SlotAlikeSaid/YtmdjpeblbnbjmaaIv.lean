/-
  A call through an interface value, at the operation. No program stands here.
-/
import Derived.Test.YtmdjpeblbnbjmaaJA
set_option maxRecDepth 100000
namespace Go.Proofs.Ytmdjpeblbnbjmaa
open Go Go.RowKit
section
variable {P : Program} {ops : Array Oper} {Q : Exit → Act → World → Prop} {a : Act} {w : World} {rest : List Oper} {dst : Option Tmp} {ty : TypeId} {pos : String} {after : Array Edge}
theorem wpl_invoke {x : Operand} {xs : Array Operand} {ts : Array TypeId} {name : String} {v : Value} {vs : Array Value} {f : FuncId} {r : Value} {R : Value → World → Prop} (hx : a.eval x = v) (hxs : xs.map a.eval = vs)
    (hm : (callMethod v name vs).run P w = .ok (.enter f (#[r] ++ vs)) w) (hc : Calls P f (#[r] ++ vs) w fun e w' => ∃ u, e = .returned u ∧ R u w')
    (next : ∀ u w', R u w' → wpList P ops Q rest (a.put dst u) w') : wpList P ops Q (⟨dst, .call { callee := .invoke x name, args := xs, argTypes := ts }, ty, pos, after, none⟩ :: rest) a w :=
  wpList_plain rfl fun K hK => by
    unfold Oper.wp execOp
    have e : (#[v] ++ vs).extract 1 (#[v] ++ vs).size = vs := by simp
    simp only [resolve, hx, hxs, Sem.run_bind, Sem.run_pure, Result.andThen_ok, invoke]
    have e0 : (#[v] ++ vs)[0]? = some v := by rw [Array.getElem?_append_left (by simp)]; rfl
    simp only [e0, e, hm, Oper.upon]
    refine hc.mono fun e' w' h => ?_
    obtain ⟨u, rfl, hR⟩ := h
    exact hK _ _ (next u w' hR)
end
end Go.Proofs.Ytmdjpeblbnbjmaa
