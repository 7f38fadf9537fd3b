/-
  A region that draws its order, walked once: what only reads (the world may grow) in the order of the text, then a chain of operations each of which waits for the one before; the last may write. No program stands here.
-/
import Derived.Test.YtkcbjkadalebjaaSl
import Derived.WalkKit
import Derived.BigQuiet
namespace Go.Proofs.Ytkcbjkadalebjaa
open Go Go.RowKit

/-! ### A call's value is one -/
def endFrame (P : Program) : Frame := { (default : Frame) with mode := .returning, kind := .report, fn := P.funcs.size, todo := [], defers := [] }
theorem step_endFrame (P : Program) (v : Value) (w : World) : ∃ o w', step P (lone ((endFrame P).finish v) [] w) = .ended o w' := by
  have e : (endFrame P).finish v = endFrame P := rfl
  rw [e]
  refine ⟨_, _, step_lone_ended (w' := w) (o := .stuck "report: Error or String returned no string" "") ?_⟩
  simp [stepG, unwind, doReturn, endFrame, GStep.bare]
theorem run_past {P : Program} {fr1 fr2 : Frame} {w1 w2 : World} {v : Value} {k : Nat} (hl : fr1.leaving P w1 (.returned v)) (h : runN P k (lone fr1 [endFrame P] w1) = .next (lone fr2 [endFrame P] w2)) : k = 0 := by
  cases k with
  | zero => rfl
  | succ k =>
    simp only [runN, step_leave_returned hl] at h
    cases k with
    | zero =>
      simp only [runN, lone] at h
      injection h with h
      injection h with _ h
      simp at h
    | succ k =>
      obtain ⟨o, w', ho⟩ := step_endFrame P v w1
      simp only [runN, ho] at h
      cases h
theorem Calls.det {P : Program} {f : FuncId} {args : Array Value} {w : World} {v v' : Value} {A B : World → Prop} (h : Calls P f args w fun e w' => e = .returned v ∧ A w') (h' : Calls P f args w fun e w' => e = .returned v' ∧ B w') : v = v' := by
  obtain ⟨e, w1, fr1, ⟨rfl, ha⟩, ⟨n1, h1⟩, hf1, hl1⟩ := h [endFrame P]
  obtain ⟨e, w2, fr2, ⟨rfl, hb⟩, ⟨n2, h2⟩, hf2, hl2⟩ := h' [endFrame P]
  have hn : n1 = n2 := by
    rcases Nat.le_total n1 n2 with hle | hle
    · obtain ⟨k, rfl⟩ := Nat.exists_eq_add_of_le hle
      rw [runN_add, h1] at h2
      have := run_past hl1 h2
      omega
    · obtain ⟨k, rfl⟩ := Nat.exists_eq_add_of_le hle
      rw [runN_add, h2] at h1
      have := run_past hl2 h1
      omega
  subst hn
  rw [h1] at h2
  injection h2 with h2
  simp only [lone] at h2
  injection h2 with hw hg
  simp at hg
  subst hw
  obtain ⟨rfl⟩ := hg
  obtain ⟨_, _, _, fn, hfn, hr⟩ := hl1
  obtain ⟨_, _, _, fn', hfn', hr'⟩ := hl2
  rw [hfn] at hfn'
  injection hfn' with hfn'
  subst hfn'
  rw [hr] at hr'
  injection hr'

/-! ### Worlds that grow -/
/-- Nothing has turned; there may be new blocks. -/
def Grew (w w' : World) : Prop := Below w.heap.size w w'
theorem Grew.refl (w : World) : Grew w w := Below.refl _ _
theorem Grew.trans {a b c : World} (h : Grew a b) (k : Grew b c) : Grew a c := Below.trans h (Below.mono k h.size)
theorem Grew.drew {a b : World} (h : Grew a b) : Grew a b.drew := Below.drew h
theorem Grew.drewN {a b : World} (h : Grew a b) (n : Nat) : Grew a (b.drewN n) := ⟨h.os, h.tape, h.output, h.size, h.block⟩
theorem Grew.alloc {a b : World} (h : Grew a b) (o : Obj) : Grew a (b.alloc o) := Below.alloc h h.size o
theorem Grew.of_eq {a b : World} (h : a = b) : Grew a b := h ▸ Grew.refl a
theorem Grew.cell {a b : World} (h : Grew a b) {p : Addr} {v : Value} (hc : a.cell? p = some v) : b.cell? p = some v := by rw [Below.cell h (World.block_lt_of_cell? _ _ hc)]; exact hc
/-- A state stays as the world grows. -/
theorem St.grew {w0 w w' : World} {L : List As} (hs : St w0 L w) (h : Grew w w') : St w0 L w' :=
  (hs.more h (fun _ => none) (q := emp) (fun _ => rfl) (fun _ _ hk => by cases hk)).drop
theorem St.start_grew {w0 w : World} {L : List As} (hs : St w0 L w) : Below w0.heap.size w0 w := hs.below
/-- What a call made, laid beside what there is. -/
theorem St.beside {w0 w w' : World} {L M : List As} (hs : St w0 L w) (hm : St w M w') : St w0 (big M :: L) w' := by
  obtain ⟨h, r, hd, hu, hb⟩ := hm.sat
  refine hs.more hm.below h hb fun k o hk => ?_
  have := hu k
  simp only [Hl.un, hk] at this
  by_cases hlt : k < w.heap.size
  · rw [if_pos hlt] at this; simp at this
  · rw [if_neg hlt] at this; simp at this; exact ⟨by omega, this.symm⟩
theorem St.made {w0 w w' : World} {L : List As} {p : As} (hs : St w0 L w) (hm : St w [p] w') : St w0 (p :: L) w' := (hs.beside hm).conv fun _ h => star_emp (star_comm h)
theorem St.made_grew {w w' : World} {M : List As} (hm : St w M w') : Grew w w' := hm.below
structure StN (w0 : World) (N : List As) where
  w : World
  st : St w0 N w
theorem Rd.alln {w0 : World} {N : List As} {a : Addr} {v : Value} (h : Rd w0 N a v) : ∀ p : StN w0 N, p.w.cell? a = some v := fun p => h _ p.st
structure GW (wb : World) where
  w : World
  grew : Grew wb w
theorem Rd.gall {w0 wb : World} {L : List As} {a : Addr} {v : Value} (h : Rd w0 L a v) (hs : St w0 L wb) : ∀ p : GW wb, p.w.cell? a = some v := fun p => p.grew.cell (h wb hs)
theorem in_grew {P : Program} {f : FuncId} {args : Array Value} {wb : World} {p : GW wb} {v : Value}
    (h : Calls P f args p.w fun e w' => e = .returned v ∧ Grew p.w w') : Calls P f args p.w fun e w'' => e = .returned v ∧ ∃ q : GW wb, w'' = q.w :=
  h.mono fun _ _ ⟨he, hs⟩ => ⟨he, ⟨_, p.grew.trans hs⟩, rfl⟩
theorem in_gsame {P : Program} {f : FuncId} {args : Array Value} {wb : World} {p : GW wb} {v : Value}
    (h : Calls P f args p.w fun e w' => e = .returned v ∧ p.w = w') : Calls P f args p.w fun e w'' => e = .returned v ∧ ∃ q : GW wb, w'' = q.w :=
  h.mono fun _ _ ⟨he, hs⟩ => ⟨he, p, hs.symm⟩

section
variable {P : Program} {ops : Array Oper}
/-- How worlds may turn: R by the chain's operations, E by those that only read. -/
structure Rel where
  R : World → World → Prop
  E : World → World → Prop
  refl : ∀ w, E w w
  sub : ∀ {a b}, E a b → R a b
  trans : ∀ {a b c}, R a b → R b c → R a c
  etrans : ∀ {a b c}, E a b → E b c → E a c
def relG : Rel := ⟨Grew, Grew, Grew.refl, id, Grew.trans, Grew.trans⟩
variable {T : Rel}
/-- In state a, in every world that w1 may turn to, the operation yields v and turns the world by E alone. -/
def YR (T : Rel) (P : Program) (ops : Array Oper) (o : Oper) (v : Value) (a : Act) (w1 : World) : Prop :=
  (Region.wanted o (yielded ops a.tmps) = true ∧ ∀ w, T.R w1 w → o.quietAt P a (T.E w) w v) ∨ (Region.wanted o (yielded ops a.tmps) = false ∧ v = undef)
theorem YR.mono {o : Oper} {v : Value} {a : Act} {w1 w2 : World} (h : YR T P ops o v a w1) (hg : T.R w1 w2) : YR T P ops o v a w2 :=
  h.imp (fun ⟨h1, h2⟩ => ⟨h1, fun w hw => h2 w (T.trans hg hw)⟩) id
theorem YR.same {o : Oper} {v : Value} {a a' : Act} {w1 : World} (h : YR T P ops o v a w1) (he : execOp a'.eval o = execOp a.eval o)
    (hw : Region.wanted o (yielded ops a'.tmps) = Region.wanted o (yielded ops a.tmps)) : YR T P ops o v a' w1 := by
  unfold YR Oper.quietAt at *
  rw [he, hw]
  exact h
theorem quiet_uniform {o : Oper} {a : Act} {w1 : World} {K : World → Act → Prop} (h : ∀ wb, Grew w1 wb → o.quiet P a (Grew wb) (K wb)) :
    ∃ v, (∀ wb, Grew w1 wb → o.quietAt P a (Grew wb) wb v) ∧ ∀ wb, Grew w1 wb → K wb (a.put o.dst v) := by
  obtain ⟨v, h1, _⟩ := h w1 (Grew.refl _)
  have key : ∀ wb, Grew w1 wb → o.quietAt P a (Grew wb) wb v ∧ K wb (a.put o.dst v) := fun wb hb => by
    obtain ⟨u, h2, h3⟩ := h wb hb
    have q1 := h1 wb hb
    have q2 := h2 wb (Grew.refl _)
    have e : v = u := by
      unfold Oper.quietAt at q1 q2
      generalize (execOp a.eval o).run P wb = r at q1 q2
      cases r with
      | ok n w' =>
        cases n <;> simp only [Oper.quietUpon] at q1 q2
        case value x => rw [← q1.2, ← q2.2]
        case skip => rw [q1.2, q2.2]
        case enter f args => exact Calls.det q1.2 q2.2
      | halt x w' => simp only [Oper.quietUpon] at q1
    subst e
    exact ⟨q2, h3⟩
  exact ⟨v, fun wb hb => (key wb hb).1, fun wb hb => (key wb hb).2⟩

def noExit : Exit → Act → World → Prop := fun _ _ _ => False
/-- The chain: each lets the world grow, the last does as it likes. -/
def wpChain (T : Rel) (P : Program) (ops : Array Oper) (K : Act → World → Prop) : List Nat → Act → World → Prop
  | [], a, w => K a w
  | [c], a, w => wpOp P ops noExit c K a w
  | c :: c' :: rest, a, w => wpOp P ops noExit c (fun a' w' => T.R w w' ∧ ∀ w'', T.E w' w'' → wpChain T P ops K (c' :: rest) a' w'') a w
/-- What is left: those that only read, then the chain. -/
def HQ (T : Rel) (P : Program) (ops : Array Oper) (K : Act → World → Prop) (cl : List Nat) : List Nat → Act → World → Prop
  | [], a, w1 => ∀ w, T.E w1 w → wpChain T P ops K cl a w
  | q :: ql, a, w1 => ∃ o v, ops[q]? = some o ∧ YR T P ops o v a w1 ∧ HQ T P ops K cl ql (a.put o.dst v) w1
variable {K : Act → World → Prop}
theorem HQ.mono {cl : List Nat} : ∀ {ql : List Nat} {a : Act} {w1 w2 : World}, T.E w1 w2 → HQ T P ops K cl ql a w1 → HQ T P ops K cl ql a w2
  | [], _, _, _, hg, h => fun w hw => h w (T.etrans hg hw)
  | _ :: _, _, _, _, hg, ⟨o, v, ho, hy, h⟩ => ⟨o, v, ho, hy.mono (T.sub hg), h.mono hg⟩
theorem wpOp_def {i : Nat} {o : Oper} {a : Act} {w : World} {K : Act → World → Prop} (ho : ops[i]? = some o) :
    wpOp P ops noExit i K a w = if Region.wanted o (yielded ops a.tmps) then o.wp P a w K noExit ∨ (o.asks P a w ∧ LetsOut noExit) else K (a.put o.dst undef) w := by
  unfold wpOp; rw [ho]
theorem no_lets : ¬ LetsOut noExit := fun ⟨_, _, h⟩ => h
/-- An operation apart from another one, in the frame without that one's value. -/
theorem wpOp_put {j : Nat} {oi oj : Oper} {v : Value} (hj : ops[j]? = some oj) (hap : oi.apart ops oj = true) (hsi : ∀ cs b, oi.op ≠ .select cs b) (hsj : ∀ cs b, oj.op ≠ .select cs b)
    {K : Act → World → Prop} {a : Act} {w w1 : World} (hy : YR T P ops oi v a w1) (h : wpOp P ops noExit j K (a.put oi.dst v) w) :
    wpOp P ops noExit j (fun a' w' => YR T P ops oi v a' w1 ∧ K (a'.put oi.dst v) w') a w := by
  obtain ⟨h1, h2, h3⟩ := Oper.apart_spec hap
  have keep : ∀ (a : Act), YR T P ops oi v a w1 → ∀ u, YR T P ops oi v (a.put oj.dst u) w1 := fun a hy u =>
    hy.same (execOp_put oi hsi a oj.dst u h3) (wanted_put oi a oj.dst u h3)
  rw [wpOp_def hj] at *
  rw [wanted_put oj a oi.dst v h1] at h
  split
  · rename_i hw
    rw [if_pos hw] at h
    rcases h with h | ⟨_, h⟩
    · refine .inl ?_
      unfold Oper.wp at *
      rw [execOp_put oj hsj a oi.dst v h1] at h
      generalize (execOp a.eval oj).run P w = r at *
      have comm : ∀ u, (a.put oi.dst v).put oj.dst u = (a.put oj.dst u).put oi.dst v := fun u => Act.put_comm a v u h2
      cases r with
      | ok n w' =>
        cases n <;> simp only [Oper.upon] at h ⊢
        case value u => exact ⟨keep a hy u, by rw [← comm]; exact h⟩
        case skip => exact ⟨keep a hy _, by rw [← comm]; exact h⟩
        case defer d =>
          refine ⟨(show YR T P ops oi v ({ a.put oj.dst undef with defers := d :: a.defers } : Act) w1 from (keep a hy undef).same rfl rfl) |>.same ?_ ?_, ?_⟩
          · cases oj.dst <;> rfl
          · cases oj.dst <;> rfl
          · have := comm undef
            have e : ((({ a with defers := d :: a.defers } : Act).put oj.dst undef).put oi.dst v) = ({ a.put oi.dst v with defers := d :: (a.put oi.dst v).defers } : Act).put oj.dst undef := by
              cases hd : oi.dst <;> cases hd' : oj.dst <;> simp only [hd, hd', Act.put] at this ⊢
              injection this with this _
              rw [this]
            rw [e]; exact h
        case enter f args =>
          refine h.mono fun e w'' he => ?_
          cases e with
          | returned u => exact ⟨keep a hy u, by rw [← comm]; exact he⟩
          | panicked c => exact he.elim
          | outgrown => exact absurd he no_lets
        case row r args => exact h.mono fun u w'' he => ⟨keep a hy u, by rw [← comm]; exact he⟩
      | halt x w' => cases x <;> simp only [Oper.upon] at h ⊢ <;> exact h.elim
    · exact absurd h no_lets
  · rename_i hw
    rw [if_neg hw] at h
    exact ⟨keep a hy _, by rw [← Act.put_comm a v undef h2]; exact h⟩
/-- The chain's next operation, what only reads being left. -/
theorem HQ.chain (hsel : ∀ (j : Nat) (o : Oper) cs b, ops[j]? = some o → o.op ≠ .select cs b) {c c' : Nat} {rest : List Nat} {oc : Oper} (hc : ops[c]? = some oc) :
    ∀ {ql : List Nat} {a : Act} {w1 w : World}, (∀ q ∈ ql, ∀ oq, ops[q]? = some oq → oq.apart ops oc = true) → HQ T P ops K (c :: c' :: rest) ql a w1 → T.E w1 w →
      wpOp P ops noExit c (fun a' w' => T.R w w' ∧ HQ T P ops K (c' :: rest) ql a' w') a w
  | [], _, _, w, _, h, hg => h w hg
  | q :: ql, a, w1, w, hap, ⟨o, v, ho, hy, h⟩, hg => by
    have h2 := HQ.chain hsel hc (fun q hq => hap q (List.mem_cons_of_mem _ hq)) h hg
    exact wpOp_mono (fun a' w' ⟨h3, h4, h5⟩ => ⟨h4, o, v, ho, h3.mono (T.trans (T.sub hg) h4), h5⟩) (wpOp_put hc (hap q (by simp) o ho) (fun cs b => hsel q o cs b ho) (fun cs b => hsel c oc cs b hc) hy h2)
/-- One of those that only read, taken ahead of its turn. -/
theorem HQ.take (hsel : ∀ (j : Nat) (o : Oper) cs b, ops[j]? = some o → o.op ≠ .select cs b) {cl l2 : List Nat} {q : Nat} {oq : Oper} (hq : ops[q]? = some oq) :
    ∀ {l1 : List Nat} {a : Act} {w1 : World}, (∀ p ∈ l1, ∀ op, ops[p]? = some op → op.apart ops oq = true) → HQ T P ops K cl (l1 ++ q :: l2) a w1 →
      ∃ v, YR T P ops oq v a w1 ∧ HQ T P ops K cl (l1 ++ l2) (a.put oq.dst v) w1
  | [], _, _, _, ⟨o, v, ho, hy, h⟩ => by
    rw [hq] at ho
    injection ho with ho
    subst ho
    exact ⟨v, hy, h⟩
  | p :: l1, a, w1, hap, ⟨o, u, ho, hy, h⟩ => by
    obtain ⟨v, hv, h2⟩ := HQ.take hsel hq (fun p hp => hap p (List.mem_cons_of_mem _ hp)) h
    obtain ⟨k1, k2, k3⟩ := Oper.apart_spec (hap p (by simp) o ho)
    refine ⟨v, hv.same (execOp_put oq (fun cs b => hsel q oq cs b hq) a o.dst u k1).symm (wanted_put oq a o.dst u k1).symm, o, u, ho, hy.same (execOp_put o (fun cs b => hsel p o cs b ho) a oq.dst v k3) (wanted_put o a oq.dst v k3), ?_⟩
    rw [← Act.put_comm a u v k2]
    exact h2

/-- j waits for i. -/
def waits (ops : Array Oper) (j i : Nat) : Bool := ((ops[j]?).map fun o => o.after.any fun e => Region.binds .any e && e.on == i).getD false
theorem waits_spec {j i : Nat} (h : waits ops j i = true) : ∃ o e, ops[j]? = some o ∧ e ∈ o.after ∧ Region.binds .any e = true ∧ e.on = i := by
  unfold waits at h
  cases ho : ops[j]? with
  | none => rw [ho] at h; cases h
  | some o =>
    rw [ho] at h
    simp only [Option.map_some, Option.getD_some] at h
    obtain ⟨e, he, hb⟩ := Array.any_eq_true'.1 h
    simp only [Bool.and_eq_true, beq_iff_eq] at hb
    exact ⟨o, e, rfl, he, hb.1, hb.2⟩
theorem waits_ready {listed : Array Bool} {j i : Nat} (hw : waits ops j i = true) (hr : j ∈ Region.ready .any ops listed) : listed.getD i false = true := by
  obtain ⟨o, e, ho, he, hb, rfl⟩ := waits_spec hw
  obtain ⟨_, o', ho', hall⟩ := mem_ready.1 hr
  rw [ho] at ho'
  injection ho' with ho'
  subst ho'
  exact hall e he hb
def apartB (ops : Array Oper) (i j : Nat) : Bool := match ops[i]?, ops[j]? with
  | some x, some y => x.apart ops y
  | _, _ => true
theorem apartB_spec {i j : Nat} {x y : Oper} (hx : ops[i]? = some x) (hy : ops[j]? = some y) (h : apartB ops i j = true) : x.apart ops y = true := by
  unfold apartB at h; rw [hx, hy] at h; exact h
def linked (ops : Array Oper) : List Nat → Bool
  | c :: c' :: rest => waits ops c' c && linked ops (c' :: rest)
  | _ => true
/-- What the theorem asks of a region: the operations that only read 'ql', the chain 'cl'. -/
def chainB (ops : Array Oper) (ql cl : List Nat) : Bool :=
  Region.noSelect ops && (ql ++ cl).all (fun i => decide (i < ops.size)) && (List.range ops.size).all (fun i => (ql ++ cl).contains i) && decide ((ql ++ cl).length = ops.size) && decide ((ql ++ cl).Pairwise (· ≠ ·)) &&
  (List.range ops.size).all (fun i => ((ops[i]?).map fun o => o.after.all fun e => !Region.binds .any e || decide (e.on < i)).getD true) &&
  ql.all (fun q => (List.range ops.size).all fun j => j == q || (ql.contains j && decide (j < q)) || waits ops j q || apartB ops q j) &&
  linked ops cl && (cl.isEmpty || (cl.getLast? == some (ops.size - 1) && (List.range (ops.size - 1)).all fun q => (List.range ops.size).any fun j => decide (q < j) && waits ops j q))

theorem wpOp_turn {Q : Exit → Act → World → Prop} {i : Nat} {a : Act} {w : World} {K : Act → World → Prop} (h : wpOp P ops noExit i K a w) : wpOp P ops Q i K a w := by
  unfold wpOp at *
  split
  · rename_i ho; simpa only [ho] using h
  · rename_i o ho
    simp only [ho] at h
    split
    · rename_i hw
      rw [if_pos hw] at h
      rcases h with h | ⟨_, h⟩
      · refine .inl ?_
        unfold Oper.wp at *
        generalize (execOp a.eval o).run P w = r at *
        cases r with
        | ok n w' =>
          cases n <;> simp only [Oper.upon] at h ⊢
          case enter f args => exact h.mono fun e w'' he => by cases e <;> first | exact he | exact he.elim | exact absurd he no_lets
          all_goals exact h
        | halt x w' => cases x <;> simp only [Oper.upon] at h ⊢ <;> exact h.elim
      · exact absurd h no_lets
    · rename_i hw; rw [if_neg hw] at h; exact h
theorem wpOp_free {Q : Exit → Act → World → Prop} {i : Nat} {a : Act} {w : World} {K : Act → World → Prop} (h : wpOp P ops noExit i K a w) : wpOp P ops Q i K a w := wpOp_turn h
theorem wpList_post {o : Oper} {a : Act} {w : World} {K K' : Act → World → Prop} (h : ∀ a w, K a w → K' a w) (hh : wpList P ops (fun e a' w' => e = .normal ∧ K a' w') [o] a w) : wpList P ops (fun e a' w' => e = .normal ∧ K' a' w') [o] a w := by
  unfold wpList at *
  split
  · rename_i hw
    rw [if_pos hw] at hh
    rcases hh with hh | ⟨_, _, _, hh, _⟩
    · refine .inl ?_
      unfold Oper.wp at *
      generalize (execOp a.eval o).run P w = r at *
      cases r with
      | ok n w' =>
        cases n <;> simp only [Oper.upon] at hh ⊢
        case enter f args =>
          refine hh.mono fun e w'' he => ?_
          cases e with
          | returned u => exact ⟨rfl, h _ _ (show _ ∧ _ from he).2⟩
          | panicked c => exact absurd he.1 (by simp)
          | outgrown => obtain ⟨_, _, he, _⟩ := he; cases he
        case row r args => exact hh.mono fun u w'' he => ⟨rfl, h _ _ (show _ ∧ _ from he).2⟩
        case value => exact ⟨rfl, h _ _ (show _ ∧ _ from hh).2⟩
        case skip => exact ⟨rfl, h _ _ (show _ ∧ _ from hh).2⟩
        case defer => exact ⟨rfl, h _ _ (show _ ∧ _ from hh).2⟩
      | halt x w' => cases x <;> simp only [Oper.upon] at hh ⊢ <;> exact absurd hh.1 (by simp)
    · cases hh
  · rename_i hw; rw [if_neg hw] at hh; exact ⟨rfl, h _ _ (show _ ∧ _ from hh).2⟩
theorem wpOp_of_list {c : Nat} {o : Oper} {a : Act} {w : World} {K : Act → World → Prop} (ho : ops[c]? = some o) (h : wpList P ops (fun e a' w' => e = .normal ∧ K a' w') [o] a w) : wpOp P ops noExit c K a w := by
  rw [wpOp_def ho]
  unfold wpList at h
  split
  · rename_i hw
    rw [if_pos hw] at h
    rcases h with h | ⟨_, _, _, h, _⟩
    · refine .inl ?_
      unfold Oper.wp at *
      generalize (execOp a.eval o).run P w = r at *
      cases r with
      | ok n w' =>
        cases n <;> simp only [Oper.upon] at h ⊢
        case enter f args =>
          refine h.mono fun e w'' he => ?_
          cases e with
          | returned u => exact (show _ ∧ _ from he).2
          | panicked c => exact absurd he.1 (by simp)
          | outgrown => obtain ⟨_, _, he, _⟩ := he; cases he
        case row r args => exact h.mono fun u w'' he => (show _ ∧ _ from he).2
        all_goals exact (show _ ∧ _ from h).2
      | halt x w' => cases x <;> simp only [Oper.upon] at h ⊢ <;> exact absurd h.1 (by simp)
    · cases h
  · rename_i hw; rw [if_neg hw] at h; exact (show _ ∧ _ from h).2
/-- Where the walk stands. -/
structure Inv (ops : Array Oper) (ql cl ql0 cl0 : List Nat) (listed : Array Bool) : Prop where
  size : listed.size = ops.size
  left : ∀ i, i < ops.size → (listed.getD i true = false ↔ i ∈ ql ∨ i ∈ cl)
  inq : ∀ i ∈ ql, i ∈ ql0 ∧ i < ops.size
  inc : ∀ i ∈ cl, i ∈ cl0 ∧ i < ops.size
  sq : ql.Pairwise (· < ·)
  dis : ∀ i ∈ ql, i ∉ cl
  nodup : cl.Nodup
  link : linked ops cl = true
  last : cl ≠ [] → cl.getLast? = some (ops.size - 1)
  shut : ∀ j o, ops[j]? = some o → listed.getD j true = true → ∀ e ∈ o.after, Region.binds .any e = true → listed.getD e.on false = true
theorem getD_flip {listed : Array Bool} {i : Nat} (h : i < listed.size) : listed.getD i true = listed.getD i false := by simp [h]
theorem linked_tail {c : Nat} {cl : List Nat} (h : linked ops (c :: cl) = true) : linked ops cl = true := by
  cases cl with
  | nil => rfl
  | cons d cl => simp only [linked, Bool.and_eq_true] at h; exact h.2
/-- Of a chain only the first may be ready. -/
theorem Inv.head {ql ql0 cl0 : List Nat} {listed : Array Bool} : ∀ {cl : List Nat}, linked ops cl = true → (∀ i ∈ cl, listed.getD i false = false) → ∀ i ∈ cl, i ∈ Region.ready .any ops listed → cl.head? = some i
  | [], _, _, i, hi, _ => by cases hi
  | [c], _, _, i, hi, _ => by simp at hi; simp [hi]
  | c :: c' :: rest, hl, hun, i, hi, hr => by
    simp only [linked, Bool.and_eq_true] at hl
    rcases List.mem_cons.1 hi with h | h
    · simp [h]
    · have h2 := Inv.head (ql := ql) (ql0 := ql0) (cl0 := cl0) hl.2 (fun i hi => hun i (List.mem_cons_of_mem _ hi)) i h hr
      simp at h2
      subst h2
      have := waits_ready hl.1 hr
      rw [hun c (by simp)] at this
      cases this
theorem Inv.step {ql cl ql0 cl0 ql' cl' : List Nat} {listed : Array Bool} {i : Nat} (h : Inv ops ql cl ql0 cl0 listed) (hi : i ∈ Region.ready .any ops listed)
    (hmem : ∀ j, (j ∈ ql' ∨ j ∈ cl') ↔ (j ∈ ql ∨ j ∈ cl) ∧ j ≠ i) (hq : ql'.Sublist ql) (hc : cl' = cl ∨ cl = i :: cl') : Inv ops ql' cl' ql0 cl0 (listed.setIfInBounds i true) where
  size := by simpa using h.size
  left j hj := by
    rw [hmem j, ← h.left j hj]
    by_cases e : i = j
    · subst e; simp [h.size, hj]
    · rw [getD_set_ne true e]; simp [Ne.symm e]
  inq j hj := h.inq j (hq.subset hj)
  inc j hj := h.inc j (by rcases hc with rfl | rfl; exact hj; exact List.mem_cons_of_mem _ hj)
  sq := h.sq.sublist hq
  dis j hj hj2 := h.dis j (hq.subset hj) (by rcases hc with rfl | rfl; exact hj2; exact List.mem_cons_of_mem _ hj2)
  nodup := by
    rcases hc with rfl | rfl
    · exact h.nodup
    · exact (List.nodup_cons.1 h.nodup).2
  link := by
    rcases hc with rfl | rfl
    · exact h.link
    · exact linked_tail h.link
  last hne := by
    rcases hc with rfl | rfl
    · exact h.last hne
    · have := h.last (by simp)
      cases cl' with
      | nil => exact absurd rfl hne
      | cons c cl => rw [List.getLast?_cons_cons] at this; exact this
  shut j o ho hj e he hb := by
    by_cases hji : i = j
    · subst hji
      obtain ⟨_, o', ho', hall⟩ := mem_ready.1 hi
      rw [ho] at ho'
      injection ho' with ho'
      subst ho'
      exact getD_set_true (hall e he hb)
    · rw [getD_set_ne true hji] at hj
      exact getD_set_true (h.shut j o ho hj e he hb)
theorem main {ql0 cl0 : List Nat} (hsel : ∀ (j : Nat) (o : Oper) cs b, ops[j]? = some o → o.op ≠ .select cs b)
    (hdown : ∀ i o, ops[i]? = some o → ∀ e ∈ o.after, Region.binds .any e = true → e.on < i)
    (hfree : ∀ q ∈ ql0, ∀ j, j < ops.size → j ≠ q → ¬ (j ∈ ql0 ∧ j < q) → waits ops j q = true ∨ apartB ops q j = true) (hcq : ∀ i ∈ cl0, i ∉ ql0)
    (hlast : cl0 ≠ [] → ∀ q, q < ops.size - 1 → ∃ j, q < j ∧ j < ops.size ∧ waits ops j q = true) :
    ∀ (fuel : Nat) (ql cl : List Nat) (listed : Array Bool) (a : Act) (w : World), Inv ops ql cl ql0 cl0 listed → ql.length + cl.length ≤ fuel → HQ T P ops K cl ql a w → wpAny P .any ops (fun e a w => e = .normal ∧ K a w) fuel listed a w := by
  have done : ∀ (ql cl : List Nat) (listed : Array Bool) (a : Act) (w : World), Inv ops ql cl ql0 cl0 listed → HQ T P ops K cl ql a w → Region.ready .any ops listed = [] → K a w := by
    intro ql cl listed a w hv h hr
    have hall : ∀ n i, i < n → i < ops.size → listed.getD i true = true := by
      intro n
      induction n with
      | zero => intro i hi; omega
      | succ n ih =>
        intro i hi hlt
        refine Classical.byContradiction fun hno => ?_
        have hno : listed.getD i true = false := by simpa using hno
        have : i ∈ Region.ready .any ops listed := mem_ready.2 ⟨hno, ops[i], Array.getElem?_eq_getElem hlt, fun e he hb => by
          have h1 := hdown i _ (Array.getElem?_eq_getElem hlt) e he hb
          have h2 := ih e.on (by omega) (by omega)
          rwa [getD_flip (by rw [hv.size]; omega)] at h2⟩
        rw [hr] at this
        cases this
    have hq : ql = [] := by
      cases ql with
      | nil => rfl
      | cons q ql =>
        have h1 := hv.inq q (by simp)
        have h2 := (hv.left q h1.2).2 (.inl (by simp))
        rw [hall _ q (Nat.lt_succ_self q) h1.2] at h2
        cases h2
    have hc : cl = [] := by
      cases cl with
      | nil => rfl
      | cons q ql =>
        have h1 := hv.inc q (by simp)
        have h2 := (hv.left q h1.2).2 (.inr (by simp))
        rw [hall _ q (Nat.lt_succ_self q) h1.2] at h2
        cases h2
    subst hq; subst hc
    exact h w (T.refl _)
  have fin : ∀ (fuel : Nat) (listed : Array Bool) (a : Act) (w : World), Inv ops [] [] ql0 cl0 listed → K a w → wpAny P .any ops (fun e a w => e = .normal ∧ K a w) fuel listed a w := by
    intro fuel listed a w hv hk
    have hr : Region.ready .any ops listed = [] := by
      cases hr : Region.ready .any ops listed with
      | nil => rfl
      | cons i l =>
        have hi : i ∈ Region.ready .any ops listed := by rw [hr]; simp
        obtain ⟨hun, o, ho, _⟩ := mem_ready.1 hi
        rcases (hv.left i (Array.getElem?_eq_some_iff.1 ho).1).1 hun with h | h <;> cases h
    cases fuel with
    | zero => exact ⟨hr, rfl, hk⟩
    | succ fuel => exact ⟨fun _ => ⟨rfl, hk⟩, fun i hi => by rw [hr] at hi; cases hi⟩
  intro fuel
  induction fuel with
  | zero =>
    intro ql cl listed a w hv hf h
    have h1 : ql = [] := List.eq_nil_of_length_eq_zero (by omega)
    have h2 : cl = [] := List.eq_nil_of_length_eq_zero (by omega)
    subst h1; subst h2
    have hr : Region.ready .any ops listed = [] := by
      cases hr : Region.ready .any ops listed with
      | nil => rfl
      | cons i l =>
        have hi : i ∈ Region.ready .any ops listed := by rw [hr]; simp
        obtain ⟨hun, o, ho, _⟩ := mem_ready.1 hi
        rcases (hv.left i (Array.getElem?_eq_some_iff.1 ho).1).1 hun with h | h <;> cases h
    exact ⟨hr, rfl, done _ _ _ _ _ hv h hr⟩
  | succ fuel ih =>
    intro ql cl listed a w hv hf h
    refine ⟨fun hr => ⟨rfl, done _ _ _ _ _ hv h hr⟩, fun i hi => ?_⟩
    obtain ⟨hun, oi, hoi, hall⟩ := mem_ready.1 hi
    have hlt : i < ops.size := (Array.getElem?_eq_some_iff.1 hoi).1
    have hunl : ∀ j, (j ∈ ql ∨ j ∈ cl) → listed.getD j false = false := fun j hj => by
      have hj2 : j < ops.size := hj.elim (fun h => (hv.inq j h).2) (fun h => (hv.inc j h).2)
      rw [← getD_flip (by rw [hv.size]; exact hj2)]
      exact (hv.left j hj2).2 hj
    have hnw : ∀ j, (j ∈ ql ∨ j ∈ cl) → waits ops i j = false := fun j hj => by
      cases hw : waits ops i j with
      | false => rfl
      | true => have := waits_ready hw hi; rw [hunl j hj] at this; cases this
    rcases (hv.left i hlt).1 hun with hq | hc
    · obtain ⟨l1, l2, rfl⟩ := List.append_of_mem hq
      have hsq := hv.sq
      rw [List.pairwise_append] at hsq
      have hap : ∀ p ∈ l1, ∀ op, ops[p]? = some op → op.apart ops oi = true := fun p hp op hop => by
        have h1 : p < i := hsq.2.2 p hp i (by simp)
        have h2 := hv.inq p (by simp [hp])
        rcases hfree p h2.1 i hlt (by omega) (by omega) with h3 | h3
        · rw [hnw p (.inl (by simp [hp]))] at h3; cases h3
        · exact apartB_spec hop hoi h3
      obtain ⟨v, hy, h2⟩ := HQ.take hsel hoi hap h
      have hni1 : i ∉ l1 := fun hm => by have := hsq.2.2 i hm i (by simp); omega
      have hni2 : i ∉ l2 := fun hm => by have := (List.pairwise_cons.1 hsq.2.1).1 i hm; omega
      have hv2 : Inv ops (l1 ++ l2) cl ql0 cl0 (listed.setIfInBounds i true) := hv.step hi (fun j => by
          have hnc : i ∉ cl := hv.dis i hq
          simp only [List.mem_append, List.mem_cons]
          constructor
          · rintro ((h | h) | h)
            · exact ⟨.inl (.inl h), fun e => hni1 (e ▸ h)⟩
            · exact ⟨.inl (.inr (.inr h)), fun e => hni2 (e ▸ h)⟩
            · exact ⟨.inr h, fun e => hnc (e ▸ h)⟩
          · rintro ⟨(h | h | h) | h, hne⟩
            · exact .inl (.inl h)
            · exact absurd h hne
            · exact .inl (.inr h)
            · exact .inr h)
        (List.Sublist.append_left (List.sublist_cons_self i l2) l1) (.inl rfl)
      have hf2 : (l1 ++ l2).length + cl.length ≤ fuel := by simp at hf ⊢; omega
      unfold wpOp
      rw [hoi]
      simp only
      rcases hy with ⟨hw, hy⟩ | ⟨hw, rfl⟩
      · rw [if_pos hw]
        refine .inl ?_
        have h3 := hy w (T.sub (T.refl _))
        unfold Oper.quietAt at h3
        unfold Oper.wp
        generalize (execOp a.eval oi).run P w = r at *
        cases r with
        | ok n w' =>
          cases n <;> simp only [Oper.quietUpon] at h3 <;> simp only [Oper.upon]
          case value u =>
            obtain ⟨e1, e2⟩ := h3
            rw [e1, e2]
            exact ih _ _ _ _ _ hv2 hf2 h2
          case skip =>
            obtain ⟨e1, e2⟩ := h3
            rw [e1, ← e2]
            exact ih _ _ _ _ _ hv2 hf2 h2
          case enter f args =>
            obtain ⟨e1, hcl⟩ := h3
            rw [e1]
            exact hcl.mono fun e w'' ⟨he, hw''⟩ => by subst he; exact ih _ _ _ _ _ hv2 hf2 (h2.mono hw'')
        | halt x w' => simp only [Oper.quietUpon] at h3
      · rw [if_neg (by rw [hw]; exact Bool.false_ne_true)]
        exact ih _ _ _ _ _ hv2 hf2 h2
    · have hh := Inv.head (ql := ql) (ql0 := ql0) (cl0 := cl0) hv.link (fun j hj => hunl j (.inr hj)) i hc hi
      have hap : ∀ q ∈ ql, ∀ oq, ops[q]? = some oq → oq.apart ops oi = true := fun q hq2 oq hoq => by
        have h2 := hv.inq q hq2
        have hne : i ≠ q := fun e => hv.dis q hq2 (e ▸ hc)
        rcases hfree q h2.1 i hlt hne (fun h => hcq i (hv.inc i hc).1 h.1) with h3 | h3
        · rw [hnw q (.inl hq2)] at h3; cases h3
        · exact apartB_spec hoq hoi h3
      cases cl with
      | nil => cases hc
      | cons c rest =>
        simp at hh
        subst hh
        have hv2 : ∀ ql', ql' = ql → Inv ops ql' rest ql0 cl0 (listed.setIfInBounds c true) := fun ql' e => by
          subst e
          have hnd := List.nodup_cons.1 hv.nodup
          refine hv.step hi (fun j => ?_) (List.Sublist.refl _) (.inr rfl)
          simp only [List.mem_cons]
          constructor
          · rintro (h | h)
            · exact ⟨.inl h, fun e => hv.dis j h (by simp [e])⟩
            · exact ⟨.inr (.inr h), fun e => hnd.1 (e ▸ h)⟩
          · rintro ⟨h | h | h, hne⟩
            · exact .inl h
            · exact absurd h hne
            · exact .inr h
        cases rest with
        | nil =>
          have hce : c = ops.size - 1 := by have := hv.last (by simp); simpa using this
          have hcl0 : cl0 ≠ [] := fun e => by have := (hv.inc c (by simp)).1; rw [e] at this; cases this
          have hall : ∀ k q, q + k = ops.size - 1 → 0 < k → listed.getD q false = true := by
            intro k
            induction k using Nat.strongRecOn with
            | ind k ihk =>
              intro q hq0 hk
              obtain ⟨j, hj1, hj2, hj3⟩ := hlast hcl0 q (by omega)
              by_cases hjc : j = c
              · subst hjc; exact waits_ready hj3 hi
              · have h5 := ihk (ops.size - 1 - j) (by omega) j (by omega) (by omega)
                obtain ⟨o, e, ho, he, hb, rfl⟩ := waits_spec hj3
                rw [← getD_flip (by rw [hv.size]; exact hj2)] at h5
                exact hv.shut j o ho h5 e he hb
          have hq : ql = [] := by
            cases ql with
            | nil => rfl
            | cons q ql =>
              have h1 := hv.inq q (by simp)
              have h3 := hunl q (.inl (by simp))
              have hne : q ≠ c := fun e => hv.dis q (by simp) (by simp [e])
              rw [hall (ops.size - 1 - q) q (by omega) (by omega)] at h3
              cases h3
          subst hq
          have h3 : wpOp P ops noExit c K a w := h w (T.refl _)
          exact wpOp_free (wpOp_mono (fun a' w' hk => fin fuel _ a' w' (hv2 [] rfl) hk) h3)
        | cons c' rest =>
          have hf2 : ql.length + (c' :: rest).length ≤ fuel := by simp at hf ⊢; omega
          exact wpOp_free (wpOp_mono (fun a' w' ⟨_, h3⟩ => ih _ _ _ _ _ (hv2 ql rfl) hf2 h3) (HQ.chain hsel hoi hap h (T.refl _)))

/-- The operations that only read, of a region: those that the mask leaves. -/
def pickOps : List Oper → List Bool → List Oper
  | [], _ => []
  | o :: l, [] => o :: pickOps l []
  | _ :: l, true :: m => pickOps l m
  | o :: l, false :: m => o :: pickOps l m
def pickIx : Nat → List Oper → List Bool → List Nat
  | _, [], _ => []
  | k, _ :: l, [] => k :: pickIx (k + 1) l []
  | k, _ :: l, true :: m => pickIx (k + 1) l m
  | k, _ :: l, false :: m => k :: pickIx (k + 1) l m
def chainIx : Nat → List Bool → List Nat
  | _, [] => []
  | k, true :: m => k :: chainIx (k + 1) m
  | k, false :: m => chainIx (k + 1) m
theorem pickIx_ge : ∀ (l : List Oper) (m : List Bool) (k : Nat), ∀ i ∈ pickIx k l m, k ≤ i
  | [], _, _, _, h => by simp [pickIx] at h
  | _ :: l, m, k, i, h => by
    cases m with
    | nil =>
      simp only [pickIx, List.mem_cons] at h
      rcases h with rfl | h
      · exact Nat.le_refl _
      · have := pickIx_ge l [] (k + 1) i h; omega
    | cons b m =>
      cases b <;> simp only [pickIx, List.mem_cons] at h
      · rcases h with rfl | h
        · exact Nat.le_refl _
        · have := pickIx_ge l m (k + 1) i h; omega
      · have := pickIx_ge l m (k + 1) i h; omega
theorem pickIx_sorted : ∀ (l : List Oper) (m : List Bool) (k : Nat), (pickIx k l m).Pairwise (· < ·)
  | [], _, _ => by simp [pickIx]
  | _ :: l, m, k => by
    cases m with
    | nil => exact List.pairwise_cons.2 ⟨fun i hi => by have := pickIx_ge l [] (k + 1) i hi; omega, pickIx_sorted l [] (k + 1)⟩
    | cons b m =>
      cases b
      · exact List.pairwise_cons.2 ⟨fun i hi => by have := pickIx_ge l m (k + 1) i hi; omega, pickIx_sorted l m (k + 1)⟩
      · exact pickIx_sorted l m (k + 1)
theorem pick_ix : ∀ (l : List Oper) (m : List Bool) (k : Nat), (∀ j, l[j]? = ops[k + j]?) → (pickOps l m).map some = (pickIx k l m).map (ops[·]?)
  | [], _, _, _ => rfl
  | o :: l, m, k, h => by
    have h0 : ops[k]? = some o := by simpa using (h 0).symm
    have ht : ∀ j, l[j]? = ops[k + 1 + j]? := fun j => by have := h (j + 1); simpa [Nat.add_assoc, Nat.add_comm 1 j] using this
    cases m with
    | nil => simp only [pickOps, pickIx, List.map_cons, h0, pick_ix l [] (k + 1) ht]
    | cons b m => cases b <;> simp only [pickOps, pickIx, List.map_cons, h0, pick_ix l m (k + 1) ht]
theorem HQ.of_quiet {cl : List Nat} {w1 : World} : ∀ (l : List Oper) (ql : List Nat) (a : Act), l.map some = ql.map (ops[·]?) →
    (∀ wb, Grew w1 wb → wpQuiet P ops (Grew wb) (fun a' => ∀ w', Grew wb w' → wpChain relG P ops K cl a' w') l a) → HQ relG P ops K cl ql a w1
  | [], [], _, _, h => fun w hw => h w1 (Grew.refl _) w hw
  | [], _ :: _, _, e, _ => by simp at e
  | _ :: _, [], _, e, _ => by simp at e
  | o :: l, q :: ql, a, e, h => by
    simp only [List.map_cons, List.cons.injEq] at e
    by_cases hw : Region.wanted o (yielded ops a.tmps) = true
    · obtain ⟨v, h1, h2⟩ := quiet_uniform (K := fun wb => wpQuiet P ops (Grew wb) (fun a' => ∀ w', Grew wb w' → wpChain relG P ops K cl a' w') l) (fun wb hb => by
        have := h wb hb
        unfold wpQuiet at this
        rwa [if_pos hw] at this)
      exact ⟨o, v, e.1.symm, .inl ⟨hw, h1⟩, HQ.of_quiet l ql _ e.2 h2⟩
    · refine ⟨o, undef, e.1.symm, .inr ⟨by simpa using hw, rfl⟩, HQ.of_quiet l ql _ e.2 fun wb hb => ?_⟩
      have := h wb hb
      unfold wpQuiet at this
      rwa [if_neg hw] at this
theorem any_mono {Q Q' : Exit → Act → World → Prop} (hq : ∀ e a w, Q e a w → Q' e a w) (hlo : LetsOut Q → LetsOut Q') : ∀ (fuel : Nat) (listed : Array Bool) (a : Act) (w : World), wpAny P .any ops Q fuel listed a w → wpAny P .any ops Q' fuel listed a w := by
  have step : ∀ {i : Nat} {a : Act} {w : World} {K : Act → World → Prop}, wpOp P ops Q i K a w → wpOp P ops Q' i K a w := by
    intro i a w K h
    unfold wpOp at *
    split
    · rename_i ho; simpa only [ho] using h
    · rename_i o ho
      simp only [ho] at h
      split
      · rename_i hw
        rw [if_pos hw] at h
        refine h.imp (fun h => ?_) (fun h => ⟨h.1, hlo h.2⟩)
        unfold Oper.wp at *
        generalize (execOp a.eval o).run P w = r at *
        cases r with
        | ok n w' =>
          cases n <;> simp only [Oper.upon] at h ⊢
          case enter f args => exact h.mono fun e w'' he => by cases e <;> first | exact he | exact hq _ _ _ he | exact hlo he
          all_goals exact h
        | halt x w' => cases x <;> simp only [Oper.upon] at h ⊢ <;> exact hq _ _ _ h
      · rename_i hw; rw [if_neg hw] at h; exact h
  intro fuel
  induction fuel with
  | zero => intro listed a w h; exact ⟨h.1, hq _ _ _ h.2⟩
  | succ fuel ih => intro listed a w h; exact ⟨fun h0 => hq _ _ _ (h.1 h0), fun i hi => step (wpOp_mono (fun a' w' => ih _ a' w') (h.2 i hi))⟩
theorem region_of_hq {id : Nat} {Q : Exit → Act → World → Prop} {a : Act} {w : World} {l : List Oper} (m : List Bool) (hm : P.follows .mixedOrders = true) (hB : chainB l.toArray (pickIx 0 l m) (chainIx 0 m) = true)
    (h : HQ T P l.toArray (fun a w => Q .normal a w) (chainIx 0 m) (pickIx 0 l m) a w.drew) : (Code.region id l.toArray true).wp P Q a w := by
  simp only [chainB, Bool.and_eq_true, List.all_eq_true, List.mem_range, decide_eq_true_eq, Bool.or_eq_true, beq_iff_eq] at hB
  obtain ⟨⟨⟨⟨⟨⟨⟨⟨hs, hin⟩, hall⟩, hlen⟩, hnd⟩, hdown⟩, hfree⟩, hlink⟩, hlast⟩ := hB
  have hsel := Region.noSelect_spec hs
  have hnd : (pickIx 0 l m ++ chainIx 0 m).Nodup := hnd
  rw [List.nodup_append] at hnd
  refine wp_region_any hm (any_mono (Q := fun e a w => e = .normal ∧ Q .normal a w) (fun e a w h => by obtain ⟨rfl, h⟩ := h; exact h) (fun ⟨a, w, h, _⟩ => by cases h) _ _ _ _ ?_)
  refine main (K := fun a w => Q .normal a w) (ql0 := pickIx 0 l m) (cl0 := chainIx 0 m) hsel ?_ ?_ (fun i hi hi2 => hnd.2.2 i hi2 i hi rfl) ?_ _ _ _ _ _ _ ⟨by simp, ?_, ?_, ?_, ?_, ?_, hnd.2.1, hlink, ?_, ?_⟩ (by rw [← hlen]; simp) h
  · intro i o ho e he hb
    have h1 := hdown i (Array.getElem?_eq_some_iff.1 ho).1
    rw [ho] at h1
    simp only [Option.map_some, Option.getD_some, Array.all_eq_true_iff_forall_mem] at h1
    have h2 := h1 e he
    rw [hb] at h2
    simpa using h2
  · intro q hq j hj hne hno
    rcases hfree q hq j hj with ((h1 | h1) | h1) | h1
    · exact absurd h1 hne
    · exact absurd ⟨List.mem_of_elem_eq_true h1.1, h1.2⟩ hno
    · exact .inl h1
    · exact .inr h1
  · intro hne q hq
    rcases hlast with h1 | h1
    · exact absurd (List.isEmpty_iff.1 h1) hne
    · have h2 := h1.2 q hq
      simp only [List.any_eq_true, List.mem_range, Bool.and_eq_true, decide_eq_true_eq] at h2
      obtain ⟨j, h3, h4, h5⟩ := h2
      exact ⟨j, h4, h3, h5⟩
  · intro i hi
    have := hall i hi
    have := List.mem_of_elem_eq_true this
    simp only [List.mem_append] at this
    simp at hi
    simp [hi, this]
  · intro i hi; exact ⟨hi, hin i (List.mem_append_left _ hi)⟩
  · intro i hi; exact ⟨hi, hin i (List.mem_append_right _ hi)⟩
  · exact pickIx_sorted _ _ _
  · intro i hi hi2; exact hnd.2.2 i hi i hi2 rfl
  · intro hne
    rcases hlast with h1 | h1
    · exact absurd (List.isEmpty_iff.1 h1) hne
    · exact h1.1
  · intro j o ho hj
    have hlt := (Array.getElem?_eq_some_iff.1 ho).1
    have e : (Array.replicate l.toArray.size false).getD j true = false := by simp only [Array.getD, Array.size_replicate, hlt, dite_true]; simp
    rw [e] at hj
    cases hj
/-- **A region that draws its order, walked once.** -/
theorem wp_region_chain {id : Nat} {Q : Exit → Act → World → Prop} {a : Act} {w : World} {l : List Oper} (m : List Bool) (hm : P.follows .mixedOrders = true) (hB : chainB l.toArray (pickIx 0 l m) (chainIx 0 m) = true)
    (h : ∀ wb, Grew w wb → wpQuiet P l.toArray (fun w' => ∃ p : GW wb, w' = p.w) (fun a' => ∀ w', Grew wb w' → wpChain relG P l.toArray (fun a' w' => Q .normal a' w') (chainIx 0 m) a' w') (pickOps l m) a) : (Code.region id l.toArray true).wp P Q a w := by
  have hcls : ∀ wb, (fun w' => ∃ p : GW wb, w' = p.w) = Grew wb := fun wb => funext fun w' => propext ⟨fun ⟨p, h⟩ => h ▸ p.grew, fun h => ⟨⟨w', h⟩, rfl⟩⟩
  refine region_of_hq m hm hB (HQ.of_quiet _ _ _ (pick_ix l m 0 (fun j => by simp)) fun wb hb => ?_)
  have := h wb ⟨hb.os, hb.tape, hb.output, hb.size, hb.block⟩
  rw [hcls] at this
  exact this
/-- .. where nothing makes memory that is wanted, and nothing writes. -/
theorem wp_region_grow {id : Nat} {Q : Exit → Act → World → Prop} {a : Act} {w : World} {l : List Oper} (hm : P.follows .mixedOrders = true) (hB : Region.lexB .any l.toArray = true)
    (h : Nonempty (GW w) → wpQuiet P l.toArray (fun w' => ∃ p : GW w, w' = p.w) (fun a' => ∀ w', Grew w w' → Q .normal a' w') l a) : (Code.region id l.toArray true).wp P Q a w := by
  have hcls : (fun w' => ∃ p : GW w, w' = p.w) = Grew w := funext fun w' => propext ⟨fun ⟨p, h⟩ => h ▸ p.grew, fun h => ⟨⟨w', h⟩, rfl⟩⟩
  have h2 := h ⟨⟨w, Grew.refl _⟩⟩
  rw [hcls] at h2
  exact wp_region_quiet (C := Grew w) hm hB ⟨rfl, rfl, rfl, Nat.le_refl _, fun _ _ => rfl⟩ (by simpa using h2)
/-- The chain's steps, by the walk's own laws. -/
theorem wpChain_last {c : Nat} {o : Oper} {a : Act} {w : World} (ho : ops[c]? = some o) (h : wpList P ops (fun e a' w' => e = .normal ∧ K a' w') [o] a w) : wpChain T P ops K [c] a w := by
  unfold wpChain
  exact wpOp_of_list ho h
theorem wpChain_next {c c' : Nat} {rest : List Nat} {o : Oper} {a : Act} {w : World} (ho : ops[c]? = some o) (h : wpList P ops (fun e a' w' => e = .normal ∧ Grew w w' ∧ ∀ w'', Grew w' w'' → wpChain relG P ops K (c' :: rest) a' w'') [o] a w) : wpChain relG P ops K (c :: c' :: rest) a w := by
  unfold wpChain
  exact wpOp_of_list ho h

/-! ### .. where those that only read call nothing: the chain may turn whatever they do not read -/
def plainOp (o : Oper) : Bool := match o.op with
  | .move _ | .assign _ | .pick _ _ _ | .load _ _ | .binOp _ _ _ _ _ | .unOp _ _ _ | .convert _ _ _ | .fieldAddr _ _ _ | .field _ _ _ | .indexAddr _ _ _ | .index _ _ _ | .extract _ _ | .slice _ _ _ _ _ | .build _ _ | .nilCheck _ => true
  | .call { callee := .builtin .len, .. } | .call { callee := .builtin .cap, .. } | .call { callee := .builtin .min, .. } | .call { callee := .builtin .max, .. } => true
  | _ => false
theorem value_only {P : Program} {s : Sem Value} {w w' : World} {n : Next} (h : (do pure (Next.value (← s)) : Sem Next).run P w = .ok n w') : ∃ v, n = .value v := by
  rw [Sem.run_bind] at h
  cases hs : s.run P w with
  | ok v w1 =>
    rw [hs] at h
    simp only [Result.andThen_ok, Sem.run_pure] at h
    injection h with h _
    exact ⟨v, h.symm⟩
  | halt x w1 => rw [hs] at h; cases h
theorem value_then {r : Result Value} {w' : World} {n : Next} {f : Value → Value} (h : (r.andThen fun a w' => Result.ok (Next.value (f a)) w') = .ok n w') : ∃ v, n = .value v := by
  cases r with
  | ok v w1 => simp only [Result.andThen_ok] at h; injection h with h _; exact ⟨_, h.symm⟩
  | halt x w1 => cases h
theorem plain_value {P : Program} {ρ : Operand → Value} {o : Oper} (hp : plainOp o = true) {w w' : World} {n : Next} (h : (execOp ρ o).run P w = .ok n w') : ∃ v, n = .value v := by
  obtain ⟨dst, op, ty, pos, after, guard⟩ := o
  cases op
  case call c =>
    obtain ⟨callee, args, argTypes⟩ := c
    cases callee
    case builtin b =>
      cases b
      case len | cap | min | max =>
        unfold execOp at h
        simp only [resolve, invoke, builtin, Sem.run_bind, Sem.run_pure, Result.andThen_ok] at h
        exact value_then (f := id) h
      all_goals cases hp
    all_goals cases hp
  case nilCheck x =>
    unfold execOp at h
    simp only at h
    split at h
    case h_4 =>
      split at h
      case h_2 =>
        simp only [Sem.run_bind] at h
        cases hp1 : (program : Sem Program).run P w with
        | halt z w1 => rw [hp1] at h; cases h
        | ok p w1 =>
          rw [hp1] at h
          simp only [Result.andThen_ok] at h
          generalize (nilAhead _ _ _ _).run P w1 = r at h
          cases r with
          | halt z w2 => cases h
          | ok b w2 =>
            simp only [Result.andThen_ok] at h
            split at h
            · simp [go_sem] at h
            · simp only [Sem.run_pure] at h; injection h with h _; exact ⟨_, h.symm⟩
      all_goals first
        | (simp only [Sem.run_pure] at h; injection h with h _; exact ⟨_, h.symm⟩)
        | (simp [go_sem] at h; done)
    all_goals first
      | (simp only [Sem.run_pure] at h; injection h with h _; exact ⟨_, h.symm⟩)
      | (simp [go_sem] at h; done)
  case pick c x y =>
    unfold execOp at h
    simp only [Sem.run_bind] at h
    cases hb : (asBool (ρ c)).run P w with
    | ok b w1 => rw [hb] at h; simp only [Result.andThen_ok, Sem.run_pure] at h; injection h with h _; exact ⟨_, h.symm⟩
    | halt z w1 => rw [hb] at h; cases h
  case move x => simp only [execOp, Sem.run_pure] at h; injection h with h _; exact ⟨_, h.symm⟩
  case assign x => simp only [execOp, Sem.run_pure] at h; injection h with h _; exact ⟨_, h.symm⟩
  all_goals first
    | (exfalso; revert hp; simp [plainOp]; done)
    | exact value_only h
def relP (w0 : World) (N : List As) : Rel := ⟨fun w w' => St w0 N w → St w0 N w', Eq, fun _ => rfl, fun h => by subst h; exact id, fun h k hs => k (h hs), fun h k => h.trans k⟩
theorem plain_eq {w0 w : World} {N : List As} {o : Oper} {a : Act} {v : Value} (hp : plainOp o = true) (hs : St w0 N w) (h : ∀ w, St w0 N w → o.quietAt P a (fun w' => St w0 N w') w v) : o.quietAt P a (Eq w) w v := by
  have h1 := h w hs
  unfold Oper.quietAt at *
  cases hr : (execOp a.eval o).run P w with
  | ok n w' =>
    obtain ⟨u, rfl⟩ := plain_value hp hr
    rw [hr] at h1
    simp only [Oper.quietUpon] at h1 ⊢
    exact h1
  | halt x w' => rw [hr] at h1; simp only [Oper.quietUpon] at h1
theorem HQ.of_plain {cl : List Nat} {w0 w1 : World} {N : List As} (hs : St w0 N w1) : ∀ (l : List Oper) (ql : List Nat) (a : Act), l.map some = ql.map (ops[·]?) → l.all plainOp = true →
    wpQuiet P ops (fun w' => St w0 N w') (fun a' => wpChain (relP w0 N) P ops K cl a' w1) l a → HQ (relP w0 N) P ops K cl ql a w1
  | [], [], _, _, _, h => fun w hw => by have hw : w1 = w := hw; subst hw; exact h
  | [], _ :: _, _, e, _, _ => by simp at e
  | _ :: _, [], _, e, _, _ => by simp at e
  | o :: l, q :: ql, a, e, hp, h => by
    simp only [List.map_cons, List.cons.injEq] at e
    simp only [List.all_cons, Bool.and_eq_true] at hp
    unfold wpQuiet at h
    by_cases hw : Region.wanted o (yielded ops a.tmps) = true
    · rw [if_pos hw] at h
      obtain ⟨v, h1, h2⟩ := h
      exact ⟨o, v, e.1.symm, .inl ⟨hw, fun w hw => plain_eq hp.1 (hw hs) h1⟩, HQ.of_plain hs l ql _ e.2 hp.2 h2⟩
    · rw [if_neg hw] at h
      exact ⟨o, undef, e.1.symm, .inr ⟨by simpa using hw, rfl⟩, HQ.of_plain hs l ql _ e.2 hp.2 h⟩
/-- **A region that draws its order, whose operations that only read call nothing:** what they read is of N; the chain's operations keep N and turn what they like, the last of them N too. -/
theorem wp_region_plain {id : Nat} {Q : Exit → Act → World → Prop} {a : Act} {w w0 : World} {N : List As} {l : List Oper} (m : List Bool) (hs : St w0 N w) (hm : P.follows .mixedOrders = true) (hB : (chainB l.toArray (pickIx 0 l m) (chainIx 0 m) && (pickOps l m).all plainOp) = true)
    (h : Nonempty (StN w0 N) → wpQuiet P l.toArray (fun w' => ∃ p : StN w0 N, w' = p.w) (fun a' => wpChain (relP w0 N) P l.toArray (fun a' w' => Q .normal a' w') (chainIx 0 m) a' w.drew) (pickOps l m) a) : (Code.region id l.toArray true).wp P Q a w := by
  rw [Bool.and_eq_true] at hB
  have hcls : (fun w' => ∃ p : StN w0 N, w' = p.w) = fun w' => St w0 N w' := funext fun w' => propext ⟨fun ⟨p, h⟩ => h ▸ p.st, fun h => ⟨⟨w', h⟩, rfl⟩⟩
  have h2 := h ⟨⟨_, hs⟩⟩
  rw [hcls] at h2
  exact region_of_hq m hm hB.1 (HQ.of_plain hs.drew _ _ _ (pick_ix l m 0 (fun j => by simp)) hB.2 h2)
theorem wpChainP_next {w0 : World} {N : List As} {c c' : Nat} {rest : List Nat} {o : Oper} {a : Act} {w : World} (ho : ops[c]? = some o) (h : wpList P ops (fun e a' w' => e = .normal ∧ St w0 N w' ∧ wpChain (relP w0 N) P ops K (c' :: rest) a' w') [o] a w) : wpChain (relP w0 N) P ops K (c :: c' :: rest) a w := by
  unfold wpChain
  exact wpOp_of_list ho (wpList_post (fun a' w' ⟨h1, h2⟩ => ⟨fun _ => h1, fun w'' hw => by have hw : w' = w'' := hw; subst hw; exact h2⟩) h)
end
end Go.Proofs.Ytkcbjkadalebjaa
