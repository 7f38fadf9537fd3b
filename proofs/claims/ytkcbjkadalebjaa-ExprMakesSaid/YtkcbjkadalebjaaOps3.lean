/-
  More operations of the walk: an array's element by index, a value built of parts; many assertions laid flat. No program stands here.
-/
import Derived.Test.YtkcbjkadalebjaaOps2
namespace Go.Proofs.Ytkcbjkadalebjaa
open Go Go.RowKit

theorem Ent.flat : ∀ (M L : List As), Ent (big M :: L) (M ++ L)
  | [], _ => fun _ hx => star_emp hx
  | _ :: M, L => fun _ hx => star_mono (fun _ h => h) (Ent.flat M L) (star_assoc hx)
theorem St.mades {w0 w w' : World} {L M : List As} (hs : St w0 L w) (hm : St w M w') : St w0 (M ++ L) w' := (hs.beside hm).ent (Ent.flat M L)
theorem run_index {P : Program} {t e : TypeId} {len i : Nat} {cs : List Value} {v : Value} (ht : P.underlying t = some (.array len e)) (he : one1 P e = true) (hsz : (P.info? e).map (·.size) = some 1) (hi : i < len) (hv : cs[i]? = some v) (w : World) :
    (Instr.index t (.agg cs.toArray) (.int .i64 (i : Nat))).run P w = .ok v w := by
  cases hq : P.info? e with
  | none => rw [hq] at hsz; cases hsz
  | some x =>
    have hx : x.size = 1 := by rw [hq] at hsz; simpa using hsz
    have h1 : (0 : Int) ≤ (i : Int) ∧ (i : Int) < (len : Int) := by omega
    simp only [Instr.index, asIntOf, Sem.run_bind, Sem.run_pure, Result.andThen_ok, run_underlying ht, if_pos h1, sizeOf, typeInfo, run_program, hq, hx, part, one1_agg he w, Bool.false_eq_true, if_false, Int.toNat_natCast, Nat.mul_one, List.getElem?_toArray, hv]
section
variable {P : Program} {ops : Array Oper} {Q : Exit → Act → World → Prop} {a : Act} {w w0 : World} {rest : List Oper} {dst : Option Tmp} {ty : TypeId} {pos : String} {after : Array Edge} {L : List As}
theorem wpl_index {t e : TypeId} {len i : Nat} {x y : Operand} {cs : List Value} {v : Value} (ht : P.underlying t = some (.array len e)) (he : one1 P e = true) (hsz : (P.info? e).map (·.size) = some 1) (hx : a.eval x = .agg cs.toArray) (hy : a.eval y = .int .i64 (i : Nat)) (hi : i < len) (hv : cs[i]? = some v)
    (next : wpList P ops Q rest (a.put dst v) w) : wpList P ops Q (⟨dst, .index t x y, ty, pos, after, none⟩ :: rest) a w :=
  wpList_plain rfl fun K hK => by
    unfold Oper.wp execOp
    simp only [Sem.run_bind, hx, hy, run_index ht he hsz hi hv w, Result.andThen_ok, Sem.run_pure]
    exact hK _ _ next
theorem wpl_buildS {t : TypeId} {parts : List (Nat × Operand)} {vs : List (Nat × Value)} {z : Value} (hz : ∀ w, (Instr.build t vs.toArray).run P w = .ok z w) (hp : parts.map (fun x => (x.1, a.eval x.2)) = vs) (next : wpList P ops Q rest (a.put dst z) w) : wpList P ops Q (⟨dst, .build t parts.toArray, ty, pos, after, none⟩ :: rest) a w :=
  wpList_plain rfl fun K hK => by
    subst hp
    unfold Oper.wp execOp
    simp only [List.map_toArray, Sem.run_bind, hz w, Result.andThen_ok, Sem.run_pure]
    exact hK _ _ next
end
theorem run_build_none {P : Program} {t e : TypeId} {size bytes : Nat} (he : ElemOk P t e size bytes) (w : World) : (Instr.buildSlice t 0 #[]).run P w = .ok (.slice (some ⟨w.heap.size, 0, none⟩) 0 0) (w.alloc (.cells #[] e)) := by
  obtain ⟨ht, i, z, hi, hz, hsize, hby, hzs, hsz⟩ := he
  simp [Instr.buildSlice, Sem.run_bind, run_underlying ht w, Result.andThen_ok, sizeOf, typeInfo, run_program, hi, Sem.run_pure, Instr.fill, newRow]
  congr 2
  apply Array.toList_inj.1
  simp
theorem wpl_build_none {P : Program} {ops : Array Oper} {Q : Exit → Act → World → Prop} {a : Act} {w w0 : World} {rest : List Oper} {dst : Option Tmp} {ty : TypeId} {pos : String} {after : Array Edge} {L : List As} {t e : TypeId} {size bytes : Nat} (he : ElemOk P t e size bytes) (hs : St w0 L w)
    (next : ∀ A w', St w0 (own A 0 0 e size [] :: L) w' → wpList P ops Q rest (a.put dst (.slice A 0 0)) w') : wpList P ops Q (⟨dst, .buildSlice t 0 #[], ty, pos, after, none⟩ :: rest) a w :=
  wpList_plain rfl fun K hK => by
    have hs2 : St w0 (own (some ⟨w.heap.size, 0, none⟩) 0 0 e size [] :: L) (w.alloc (.cells #[] e)) := (hs.alloc #[] e).conv fun h hb => ⟨by simp, .inr ⟨_, #[], rfl, Nat.le_refl _, Nat.zero_le _, by simp, by simp, hb⟩⟩
    unfold Oper.wp execOp
    simp only [Sem.run_bind, List.map_toArray, List.map_nil, run_build_none he w, Result.andThen_ok, Sem.run_pure]
    exact hK _ _ (next _ _ hs2)
theorem fold_cells (off : Nat) : ∀ (cs : List Value) (k : Nat) (arr : Array Value), off + k + cs.length ≤ arr.size → (((cs.zipIdx k).foldl (fun (b : Array Value) (x : Value × Nat) => b.setIfInBounds (off + x.2) x.1) arr)).toList = arr.toList.take (off + k) ++ cs ++ arr.toList.drop (off + k + cs.length)
  | [], k, arr, h => by simp
  | c :: cs, k, arr, h => by
    simp only [List.length_cons] at h
    rw [List.zipIdx_cons, List.foldl_cons, fold_cells off cs (k + 1) _ (by simp; omega)]
    simp only [Array.toList_setIfInBounds, List.length_cons]
    rw [show off + (k + 1) = off + k + 1 by omega, List.take_succ_eq_append_getElem (by simp; omega), List.take_set_of_le (by omega), List.getElem_set_self, List.drop_set_of_lt (by omega)]
    simp [Nat.add_assoc, Nat.add_comm, Nat.add_left_comm]
end Go.Proofs.Ytkcbjkadalebjaa
