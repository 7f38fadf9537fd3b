/-
  A slice written out whose making is known as a whole; two Ops in a row.
-/
import Derived.Test.YtiafdlofcjbllaaGreatDoorWo6
import Derived.Test.YtiafdlofcjbllaaGreatDoorEn5
set_option maxRecDepth 100000
namespace Go.Proofs.YtiafdlofcjbllaaGreatDoor
open Go Go.RowKit
section
variable {P : Program} {ops : Array Oper} {Q : Exit → Act → World → Prop} {rest : List Oper} {a : Act} {w0 w : World} {L : List As} {dst : Option Tmp} {ty : TypeId} {pos : String} {after : Array Edge}
theorem wpl_buildRun {t e : TypeId} {parts : List (Nat × Operand)} {vs : List (Nat × Value)} {n : Nat} {cs : Array Value} (hz : ∀ w : World, (Instr.buildSlice t n vs.toArray).run P w = .ok (.slice (some ⟨w.heap.size, 0, none⟩) n n) (w.alloc (.cells cs e))) (hp : parts.map (fun x => (x.1, a.eval x.2)) = vs) (hs : St w0 L w)
    (next : ∀ g w', St w0 (blk g cs e :: L) w' → wpList P ops Q rest (a.put dst (.slice (some ⟨g, 0, none⟩) n n)) w') : wpList P ops Q (⟨dst, .buildSlice t n parts.toArray, ty, pos, after, none⟩ :: rest) a w :=
  wpList_plain rfl fun K hK => by
    unfold Oper.wp execOp
    simp only [Sem.run_bind, List.map_toArray, hp, hz w, Result.andThen_ok, Sem.run_pure]
    exact hK _ _ (next _ _ (hs.alloc _ _))
end
theorem build_ops2 (a b : OpW) (w : World) : (Instr.buildSlice 57 2 [(0, valW a), (1, valW b)].toArray).run Tryz.prog w = .ok (.slice (some ⟨w.heap.size, 0, none⟩) 2 2) (w.alloc (.cells (c7w a ++ c7w b).toArray 99)) := by kernel_rfl
theorem c7_two (a b : OpW) : [a, b].flatMap c7w = c7w a ++ c7w b := by simp
theorem own_of_blkN {g n C : Nat} {t : TypeId} {cs : List Value} (hn : cs.length = n * C) (hm : n ≤ maxLen) : ∀ h, blk g cs.toArray t h → own (some ⟨g, 0, none⟩) n n t C cs h := fun _ hb => ⟨hn, .inr ⟨g, cs.toArray, rfl, Nat.le_refl _, hm, by simp [hn], by simp [← hn], hb⟩⟩
section
variable {w0 w : World} {L : List As} {W E A R X Q n : Nat} {s s' : WoS}
theorem wohold_v (hs : St w0 (WoB W E A R X Q n s :: L) w) {f : Int} (hf : Hid (s.free = f)) (hs' : Hid (({ s with held := true } : WoS) = s')) : Calls Tryz.prog 62 #[.pointer (some ⟨W, 0, none⟩)] w fun e w' => e = .returned (.int .i64 f) ∧ St w0 (WoB W E A R X Q n s' :: L) w' := by
  rw [← hf.out, ← hs'.out]; exact wohold_c hs
theorem wofreeW_v (hs : St w0 (WoB W E A R X Q n s :: L) w) (hs' : Hid (({ s with held := false } : WoS) = s')) : Calls Tryz.prog 68 #[.pointer (some ⟨W, 0, none⟩)] w fun e w' => e = .returned (.tuple #[]) ∧ St w0 (WoB W E A R X Q n s' :: L) w' := by
  rw [← hs'.out]; exact wofreeW_c hs
theorem woheld_v (hs : St w0 (WoB W E A R X Q n s :: L) w) {b : Bool} (hb : Hid (s.held = b)) : Calls Tryz.prog 51 #[.pointer (some ⟨W, 0, none⟩)] w fun e w' => e = .returned (.bool b) ∧ Grew w w' := by
  rw [← hb.out]; exact woheld_c hs
end
theorem newL_cons {d : V3} {ds : List V3} {l : List Cmp} (h : NewL (d :: ds) l) : ∃ X v F l', l = (X, newSl d v F) :: l' := by
  have h1 := h.len
  match l, h1 with
  | x :: l', _ =>
    obtain ⟨d', v, F, h2, h3⟩ := h.at_ 0 x rfl
    simp only [List.getElem?_cons_zero, Option.some.injEq] at h2
    subst h2
    exact ⟨x.1, v, F, l', by rw [← h3]⟩
theorem cs3_cons (d : V3) (ds : List V3) : cs3 (d :: ds) = YtiafdlofcjbllaaGreatDoor.c3 d ++ cs3 ds := rfl
theorem cs3_ones (l : List V3) : ∀ u ∈ cs3 l, u.oneCell' = true := by
  intro u hu
  obtain ⟨o, _, h⟩ := List.mem_flatMap.1 hu
  simp only [YtiafdlofcjbllaaGreatDoor.c3, List.mem_cons, List.not_mem_nil, or_false] at h
  rcases h with rfl | rfl | rfl <;> rfl
end Go.Proofs.YtiafdlofcjbllaaGreatDoor
