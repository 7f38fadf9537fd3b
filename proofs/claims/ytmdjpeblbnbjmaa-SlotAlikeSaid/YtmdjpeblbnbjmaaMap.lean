/-
  A map of integers by integers, as an assertion: read, written, made. No program stands here.
-/
import Derived.Test.YtmdjpeblbnbjmaaJA
import Derived.Maps.OwnSet
namespace Go.Proofs.Ytmdjpeblbnbjmaa
open Go Go.RowKit
open Go.Maps (Keyed IsMap Tidy)


def updI (f : Int → Option Int) (i : Int) (o : Option Int) : Int → Option Int := fun j => if j = i then o else f j
theorem updI_same (f : Int → Option Int) (i : Int) (o : Option Int) : updI f i o i = o := by simp [updI]
theorem updI_other {f : Int → Option Int} {i j : Int} {o : Option Int} (h : j ≠ i) : updI f i o j = f j := by simp [updI, h]
/-- The datum reads as the map f, of m keys. -/
structure MapR (D : DataW Unit) (f : Int → Option Int) (m : Nat) : Prop where
  tidy : Tidy D
  size : Maps.size D = m
  has : ∀ i, Maps.has D (.int .i64 i) = (f i).isSome
  at_ : ∀ i z, D.atKey (.int .i64 i) z = ((f i).map fun k => DataW.lit (.int .i64 k)).getD z
theorem MapR.empty : MapR (.map []) (fun _ => none) 0 := ⟨Maps.tidy_empty, rfl, fun _ => rfl, fun _ _ => rfl⟩
theorem lit_ne {i j : Int} (h : j ≠ i) : (Lit.int .i64 j) ≠ .int .i64 i := fun e => h (by injection e)
theorem MapR.put {D : DataW Unit} {f : Int → Option Int} {m : Nat} (h : MapR D f m) (i k : Int) : MapR (D.put (.int .i64 i) (.lit (.int .i64 k))) (updI f i (some k)) (if (f i).isSome then m else m + 1) := by
  have hk : WideAt.IsKeyLit (.int .i64 i) := trivial
  refine ⟨h.tidy.put hk _, ?_, fun j => ?_, fun j z => ?_⟩
  · rw [Maps.size_put h.tidy, h.has, h.size]
  · by_cases e : j = i
    · subst e
      rw [Maps.has_put_same h.tidy.isMap hk, updI_same]; rfl
    · rw [Maps.has_put_other (lit_ne e), updI_other e, h.has]
  · by_cases e : j = i
    · subst e
      rw [Maps.atKey_put_same h.tidy.isMap hk, updI_same]; rfl
    · rw [Maps.atKey_put_other (lit_ne e), updI_other e, h.at_]
theorem MapR.del {D : DataW Unit} {f : Int → Option Int} {m : Nat} (h : MapR D f m) (i : Int) : MapR (D.del (.int .i64 i)) (updI f i none) (if (f i).isSome then m - 1 else m) := by
  refine ⟨h.tidy.del _, ?_, fun j => ?_, fun j z => ?_⟩
  · have := Maps.size_del (k := .int .i64 i) h.tidy
    rw [h.has, h.size] at this
    cases hf : (f i).isSome <;> rw [hf] at this <;> simp at this ⊢ <;> omega
  · by_cases e : j = i
    · subst e
      rw [Maps.has_del_same, updI_same]; rfl
    · rw [Maps.has_del_other (lit_ne e), updI_other e, h.has]
  · by_cases e : j = i
    · subst e
      rw [Maps.atKey_del_same, updI_same]; rfl
    · rw [Maps.atKey_del_other (lit_ne e), updI_other e, h.at_]

/-- Block g is a map that reads as f, of m keys. -/
def mpA (P : Program) (k e : TypeId) (g : Nat) (f : Int → Option Int) (m : Nat) : As := fun h =>
  ∃ es clock D, pts g (.map es clock) h ∧ MapR D f m ∧ WideElems.Fit P k (plainElem (H := Unit) P e) es clock ∧ D = .map ((es.toList.map (WideElems.rg P k (plainElem P e))).foldr DataW.insert [])
section
variable {P : Program} {w w0 : World} {L : List As} {k e : TypeId} {g m : Nat} {f : Int → Option Int}
theorem St.map (hs : St w0 (mpA P k e g f m :: L) w) : ∃ D : DataW Unit, MapR D f m ∧ w.ownsMap P k (plainElem P e) g m D ∧ w0.heap.size ≤ g := by
  obtain ⟨a, ⟨es, clock, D, hp, hr, hF, hD⟩, h⟩ := hs.heap
  have hg := h g (.map es clock) (by rw [show a = _ from hp]; simp)
  refine ⟨D, hr, ⟨es, clock, hg.2, hF, ?_, hD⟩, hg.1⟩
  have h1 := hr.size
  rw [hD] at h1
  simp only [Maps.size, length_sorted, List.length_map, Array.length_toList] at h1
  omega
theorem St.map_turn {w' : World} {f' : Int → Option Int} {m' n' : Nat} {D' : DataW Unit} (hs : St w0 (mpA P k e g f m :: L) w) (hg : w.grownBy w' (some g)) (hr : MapR D' f' m') (ho : w'.ownsMap P k (plainElem P e) g n' D') : St w0 (mpA P k e g f' m' :: L) w' := by
  obtain ⟨es', clock', hb, hF, _, hD⟩ := ho
  refine hs.turn fun a ⟨es, clock, D, hp, _⟩ ha => ⟨_, ⟨es', clock', D', rfl, hr, hF, hD⟩, hg.os, hg.tape, hg.output, hg.size, fun k hk hlt => ?_, fun k o hk => ?_⟩
  · have hne : k ≠ g := by
      rintro rfl
      rw [show a = _ from hp] at hk
      simp at hk
    exact ⟨by simp [hne], hg.block k hlt (fun e => hne (by injection e))⟩
  · split at hk
    · rename_i e
      subst e
      injection hk with hk
      subst hk
      exact ⟨(ha k (.map es clock) (by rw [show a = _ from hp]; simp)).1, hb⟩
    · cases hk
theorem St.map_made {w : World} (hs : St w0 L w) : St w0 (mpA P k e w.heap.size (fun _ => none) 0 :: L) (w.alloc (.map #[] 0)) := by
  obtain ⟨es, clock, hb, hF, _, hD⟩ := World.ownsMap_made w P k (plainElem (H := Unit) P e)
  have h1 : (w.alloc (.map #[] 0)).heap[w.heap.size]? = some (.map #[] 0) := heap_alloc_new w _
  rw [h1] at hb
  injection hb with hb
  injection hb with h2 h3
  subst h2 h3
  exact (hs.allocObj (.map #[] 0)).conv fun h hp => ⟨#[], 0, .map [], hp, MapR.empty, hF, hD⟩
variable {ops : Array Oper} {Q : Exit → Act → World → Prop} {a : Act} {rest : List Oper} {dst : Option Tmp} {ty : TypeId} {pos : String} {after : Array Edge}
/-- What the types must be. -/
structure MpT (P : Program) (t k e : TypeId) : Prop where
  ht : P.underlying t = some (.map k e)
  hk : P.underlying k = some (.int .i64)
  he : P.underlying e = some (.int .i64)
  hz : ∀ w, (zeroValue e).run P w = .ok (.int .i64 0) w
variable {t : TypeId}
theorem wpl_lookup_ok {x y : Operand} {i : Int} (T : MpT P t k e) (hm : a.eval x = .map (some g)) (hi : a.eval y = .int .i64 i) (hw : (Lit.int .i64 i).wf = true) (hs : St w0 (mpA P k e g f m :: L) w)
    (next : wpList P ops Q rest (a.put dst (.tuple #[.int .i64 ((f i).getD 0), .bool (f i).isSome])) w) : wpList P ops Q (⟨dst, .lookup t x y true, ty, pos, after, none⟩ :: rest) a w := by
  obtain ⟨D, hr, ho, _⟩ := hs.map
  refine wpList_lookup_own_ok_int w rfl x y t rfl k e .i64 (Maps.int_keyed T.hk) T.ht T.he (T.hz w) g m D hm ho (.int .i64 i) (.int .i64 i) hi (Maps.keyOf_int_mk T.hk hw) fun c hc _ => ?_
  rw [hr.at_] at hc
  rw [hr.has]
  have : c = (f i).getD 0 := by
    cases hf : f i with
    | none => rw [hf] at hc; simp only [Option.map_none, Option.getD_none, DataW.lit.injEq, Lit.int.injEq] at hc; simp [hc.2]
    | some v => rw [hf] at hc; simp only [Option.map_some, Option.getD_some, DataW.lit.injEq, Lit.int.injEq] at hc; simp [hc.2]
  rw [this]
  exact next
theorem wpl_mapUpdate {x y z : Operand} {i v : Int} (T : MpT P t k e) (hm : a.eval x = .map (some g)) (hi : a.eval y = .int .i64 i) (hw : (Lit.int .i64 i).wf = true) (hv : a.eval z = .int .i64 v) (hwv : (Lit.int .i64 v).wf = true) (hlt : m < maxLen) (hs : St w0 (mpA P k e g f m :: L) w)
    (next : ∀ w', St w0 (mpA P k e g (updI f i (some v)) (if (f i).isSome then m else m + 1) :: L) w' → wpList P ops Q rest (a.put dst undef) w') : wpList P ops Q (⟨dst, .mapUpdate t x y z, ty, pos, after, none⟩ :: rest) a w := by
  obtain ⟨D, hr, ho, _⟩ := hs.map
  exact wpList_mapUpdate_own w rfl x y z t rfl k e (Maps.int_keyed T.hk) T.ht (plainElem P e) g m D hm ho hlt (.int .i64 i) (.int .i64 v) (.int .i64 i) hi hv (Maps.keyOf_int_mk T.hk hw) (.lit (.int .i64 v)) [] (plainElem_int T.he hwv) fun w' h1 h2 => next w' (hs.map_turn h2 (hr.put i v) h1)
theorem wpl_mapDelete {x y : Operand} {i : Int} (T : MpT P t k e) (hm : a.eval x = .map (some g)) (hi : a.eval y = .int .i64 i) (hw : (Lit.int .i64 i).wf = true) (hs : St w0 (mpA P k e g f m :: L) w)
    (next : ∀ w', St w0 (mpA P k e g (updI f i none) (if (f i).isSome then m - 1 else m) :: L) w' → wpList P ops Q rest (a.put dst (.tuple #[])) w') : wpList P ops Q (⟨dst, .call { callee := Callee.builtin Builtin.delete, args := #[x, y], argTypes := #[t, k] }, ty, pos, after, none⟩ :: rest) a w := by
  obtain ⟨D, hr, ho, _⟩ := hs.map
  exact wpList_delete_own w rfl x y t k rfl e (Maps.int_keyed T.hk) T.ht (plainElem P e) g m D hm ho (.int .i64 i) (.int .i64 i) hi (Maps.keyOf_int_mk T.hk hw) fun w' h1 h2 => next w' (hs.map_turn h2.grown (hr.del i) h1)
theorem wpl_makeMap (hs : St w0 L w) (next : ∀ g w', St w0 (mpA P k e g (fun _ => none) 0 :: L) w' → wpList P ops Q rest (a.put dst (.map (some g))) w') : wpList P ops Q (⟨dst, .makeMap t none, ty, pos, after, none⟩ :: rest) a w :=
  wpList_plain rfl fun K hK => by
    unfold Oper.wp execOp
    exact hK _ _ (next _ _ hs.map_made)
end
end Go.Proofs.Ytmdjpeblbnbjmaa
