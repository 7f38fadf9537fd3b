/-
  A slice written out whose making is known as a whole; two Ops in a row.
-/
import Derived.Test.YtcnbmfaicbkhcaaGreatDoorWo6
import Derived.Test.YtcnbmfaicbkhcaaGreatDoorEn5
set_option maxRecDepth 100000
namespace Go.Proofs.YtcnbmfaicbkhcaaGreatDoor
open Go Go.RowKit
section
variable {P : Program} {ops : Array Oper} {Q : Exit → Act → World → Prop} {rest : List Oper} {a : Act} {w0 w : World} {L : List As} {dst : Option Tmp} {ty : TypeId} {pos : String} {after : Array Edge}
theorem wpl_buildRun {t e : TypeId} {parts : List (Nat × Operand)} {vs : List (Nat × Value)} {n : Nat} {cs : Array Value} (hz : ∀ w : World, (Instr.buildSlice t n vs.toArray).run P w = .ok (.slice (some ⟨w.heap.size, 0, none⟩) n n) (w.alloc (.cells cs e))) (hp : parts.map (fun x => (x.1, a.eval x.2)) = vs) (hs : St w0 L w)
    (next : ∀ g w', St w0 (blk g cs e :: L) w' → wpList P ops Q rest (a.put dst (.slice (some ⟨g, 0, none⟩) n n)) w') : wpList P ops Q (⟨dst, .buildSlice t n parts.toArray, ty, pos, after, none⟩ :: rest) a w :=
  wpList_plain rfl fun K hK => by
    unfold Oper.wp execOp
    simp only [Sem.run_bind, List.map_toArray, hp, hz w, Result.andThen_ok, Sem.run_pure]
    exact hK _ _ (next _ _ (hs.alloc _ _))
end
section
variable {w0 w : World} {L : List As} {W E A R X Q n : Nat} {s s' : WoS}
end
theorem newL_cons {d : V3} {ds : List V3} {l : List Cmp} (h : NewL (d :: ds) l) : ∃ X v F l', l = (X, newSl d v F) :: l' := by
  have h1 := h.len
  match l, h1 with
  | x :: l', _ =>
    obtain ⟨d', v, F, h2, h3⟩ := h.at_ 0 x rfl
    simp only [List.getElem?_cons_zero, Option.some.injEq] at h2
    subst h2
    exact ⟨x.1, v, F, l', by rw [← h3]⟩
theorem cs3_ones (l : List V3) : ∀ u ∈ cs3 l, u.oneCell' = true := by
  intro u hu
  obtain ⟨o, _, h⟩ := List.mem_flatMap.1 hu
  simp only [YtcnbmfaicbkhcaaGreatDoor.c3, List.mem_cons, List.not_mem_nil, or_false] at h
  rcases h with rfl | rfl | rfl <;> rfl
end Go.Proofs.YtcnbmfaicbkhcaaGreatDoor
