/-
  A region that draws its order: those that turn memory in each order that there may be; what only reads, or turns no memory, as soon as it can be told. (As XRegA, but what comes behind a call and only reads is no branch.) No program stands here.
-/
import Derived.Test.YtcnbmfaicbkhcaaGreatDoorJA
set_option maxRecDepth 100000
namespace Go.Proofs.YtcnbmfaicbkhcaaGreatDoor
open Go Go.RowKit
section
variable {P : Program} {ops : Array Oper} {T : Rel} {K : Act → World → Prop}
def freeB (ops : Array Oper) (p j : Nat) : Bool := waits ops j p || apartB ops p j
/-- Those that are left behind 'ql'. -/
def restM (ql cl : List Nat) : List Nat := cl.filter fun j => !ql.contains j
/-- 'ql' may be told ahead, out of 'cl'. -/
def aheadB (ops : Array Oper) (ql cl : List Nat) : Bool :=
  ql.all (fun q => cl.contains q) && decide ql.Nodup && decide (ql.Pairwise fun p j => freeB ops p j = true) && ql.all (fun p => (restM ql cl).all fun j => freeB ops p j) && decide (ql.length + (restM ql cl).length = cl.length)
def wpMix (T : Rel) (P : Program) (ops : Array Oper) (K : Act → World → Prop) : Nat → List Nat → Act → World → Prop
  | 0, cl, a, w => cl = [] ∧ K a w
  | n + 1, cl, a, w => cl ≠ [] ∧ ∀ c ∈ choices ops cl, wpOp P ops noExit c (fun a' w' => T.R w w' ∧ ∃ ql, aheadB ops ql (cl.erase c) = true ∧ HA T P ops (wpMix T P ops K n (restM ql (cl.erase c))) ql a' w') a w
theorem HA.last {C : Act → World → Prop} : ∀ {ql : List Nat} {a : Act} {w : World}, HA T P ops C ql a w → ∃ a', C a' w
  | [], a, w, h => ⟨a, h w (T.refl w)⟩
  | _ :: _, _, _, ⟨_, _, _, _, h⟩ => HA.last h
/-- Where the walk stands. -/
structure InvM (ops : Array Oper) (ql cl : List Nat) (listed : Array Bool) : Prop where
  size : listed.size = ops.size
  left : ∀ i, i < ops.size → (listed.getD i true = false ↔ i ∈ ql ∨ i ∈ cl)
  inq : ∀ i ∈ ql, i < ops.size
  inc : ∀ i ∈ cl, i < ops.size
  free : ql.Pairwise fun p j => freeB ops p j = true
  freec : ∀ p ∈ ql, ∀ j ∈ cl, freeB ops p j = true
  ndq : ql.Nodup
  dis : ∀ i ∈ ql, i ∉ cl
  ndc : cl.Nodup
theorem InvM.left' {ql cl ql' cl' : List Nat} {listed : Array Bool} {i : Nat} (h : InvM ops ql cl listed) (hmem : ∀ j, (j ∈ ql' ∨ j ∈ cl') ↔ (j ∈ ql ∨ j ∈ cl) ∧ j ≠ i) :
    (listed.setIfInBounds i true).size = ops.size ∧ ∀ j, j < ops.size → ((listed.setIfInBounds i true).getD j true = false ↔ j ∈ ql' ∨ j ∈ cl') := by
  refine ⟨by simpa using h.size, fun j hj => ?_⟩
  rw [hmem j, ← h.left j hj]
  by_cases e : i = j
  · subst e; simp [h.size, hj]
  · rw [getD_set_ne true e]; simp [Ne.symm e]
theorem HA.openM {w0 : World} {N : List As} {B : List Nat → Bool} {C : List Nat → Act → World → Prop} : ∀ {ql : List Nat} {a : Act} {w : World}, HA (relP w0 N) P ops (fun a w => ∃ q2, B q2 = true ∧ HA (relP w0 N) P ops (C q2) q2 a w) ql a w →
    ∃ q2, B q2 = true ∧ HA (relP w0 N) P ops (C q2) (ql ++ q2) a w
  | [], a, w, h => h w rfl
  | _ :: _, _, _, ⟨o, v, h1, h2, h⟩ => by
    obtain ⟨q2, h3, h4⟩ := HA.openM h
    exact ⟨q2, h3, o, v, h1, h2, h4⟩
theorem mainM {w0 : World} {N : List As} (hsel : ∀ (j : Nat) (o : Oper) cs b, ops[j]? = some o → o.op ≠ .select cs b)
    (hdown : ∀ i o, ops[i]? = some o → ∀ e ∈ o.after, Region.binds .any e = true → e.on < i) :
    ∀ (fuel n : Nat) (ql cl : List Nat) (listed : Array Bool) (a : Act) (w : World), InvM ops ql cl listed → ql.length + cl.length ≤ fuel → HA (relP w0 N) P ops (wpMix (relP w0 N) P ops K n cl) ql a w → wpAny P .any ops (fun e a w => e = .normal ∧ K a w) fuel listed a w := by
  have done : ∀ (n : Nat) (ql cl : List Nat) (listed : Array Bool) (a : Act) (w : World), InvM ops ql cl listed → HA (relP w0 N) P ops (wpMix (relP w0 N) P ops K n cl) ql a w → Region.ready .any ops listed = [] → K a w := by
    intro n ql cl listed a w hv h hr
    have hall : ∀ n i, i < n → i < ops.size → listed.getD i true = true := by
      intro n
      induction n with
      | zero => intro i hi; omega
      | succ n ih =>
        intro i hi hlt
        refine Classical.byContradiction fun hno => ?_
        have hno : listed.getD i true = false := by simpa using hno
        have : i ∈ Region.ready .any ops listed := mem_ready.2 ⟨hno, ops[i], Array.getElem?_eq_getElem hlt, fun e he hb => by
          have h1 := hdown i _ (Array.getElem?_eq_getElem hlt) e he hb
          have h2 := ih e.on (by omega) (by omega)
          rwa [getD_flip (by rw [hv.size]; omega)] at h2⟩
        rw [hr] at this
        cases this
    have hq : ql = [] := by
      cases ql with
      | nil => rfl
      | cons q ql =>
        have h1 := hv.inq q (by simp)
        have h2 := (hv.left q h1).2 (.inl (by simp))
        rw [hall _ q (Nat.lt_succ_self q) h1] at h2
        cases h2
    have hc : cl = [] := by
      cases cl with
      | nil => rfl
      | cons q ql =>
        have h1 := hv.inc q (by simp)
        have h2 := (hv.left q h1).2 (.inr (by simp))
        rw [hall _ q (Nat.lt_succ_self q) h1] at h2
        cases h2
    subst hq; subst hc
    have h3 := h w rfl
    cases n with
    | zero => exact h3.2
    | succ n => exact absurd rfl h3.1
  intro fuel
  induction fuel with
  | zero =>
    intro n ql cl listed a w hv hf h
    have h1 : ql = [] := List.eq_nil_of_length_eq_zero (by omega)
    have h2 : cl = [] := List.eq_nil_of_length_eq_zero (by omega)
    subst h1; subst h2
    have hr : Region.ready .any ops listed = [] := by
      cases hr : Region.ready .any ops listed with
      | nil => rfl
      | cons i l =>
        have hi : i ∈ Region.ready .any ops listed := by rw [hr]; simp
        obtain ⟨hun, o, ho, _⟩ := mem_ready.1 hi
        rcases (hv.left i (Array.getElem?_eq_some_iff.1 ho).1).1 hun with h | h <;> cases h
    exact ⟨hr, rfl, done _ _ _ _ _ _ hv h hr⟩
  | succ fuel ih =>
    intro n ql cl listed a w hv hf h
    refine ⟨fun hr => ⟨rfl, done _ _ _ _ _ _ hv h hr⟩, fun i hi => ?_⟩
    obtain ⟨hun, oi, hoi, hall⟩ := mem_ready.1 hi
    have hlt : i < ops.size := (Array.getElem?_eq_some_iff.1 hoi).1
    have hunl : ∀ j, (j ∈ ql ∨ j ∈ cl) → listed.getD j false = false := fun j hj => by
      have hj2 : j < ops.size := hj.elim (fun h => hv.inq j h) (fun h => hv.inc j h)
      rw [← getD_flip (by rw [hv.size]; exact hj2)]
      exact (hv.left j hj2).2 hj
    have hnw : ∀ j, (j ∈ ql ∨ j ∈ cl) → waits ops i j = false := fun j hj => by
      cases hw : waits ops i j with
      | false => rfl
      | true => have := waits_ready hw hi; rw [hunl j hj] at this; cases this
    have hfr : ∀ p, (p ∈ ql ∨ p ∈ cl) → freeB ops p i = true → ∀ op, ops[p]? = some op → op.apart ops oi = true := fun p hp hf op hop => by
      unfold freeB at hf
      rw [hnw p hp, Bool.false_or] at hf
      exact apartB_spec hop hoi hf
    rcases (hv.left i hlt).1 hun with hq | hc
    · obtain ⟨l1, l2, rfl⟩ := List.append_of_mem hq
      have hfree := hv.free
      rw [List.pairwise_append] at hfree
      have hap : ∀ p ∈ l1, ∀ op, ops[p]? = some op → op.apart ops oi = true := fun p hp => hfr p (.inl (by simp [hp])) (hfree.2.2 p hp i (by simp))
      obtain ⟨v, hy, h2⟩ := HA.take hsel hoi hap h
      have hnd := hv.ndq
      rw [List.nodup_append] at hnd
      have hni1 : i ∉ l1 := fun hm => hnd.2.2 i hm i (by simp) rfl
      have hni2 : i ∉ l2 := (List.nodup_cons.1 hnd.2.1).1
      have hsub : (l1 ++ l2).Sublist (l1 ++ i :: l2) := List.Sublist.append_left (List.sublist_cons_self i l2) l1
      have hlf := hv.left' (ql' := l1 ++ l2) (cl' := cl) (i := i) (fun j => by
          have hnc : i ∉ cl := hv.dis i hq
          simp only [List.mem_append, List.mem_cons]
          constructor
          · rintro ((h | h) | h)
            · exact ⟨.inl (.inl h), fun e => hni1 (e ▸ h)⟩
            · exact ⟨.inl (.inr (.inr h)), fun e => hni2 (e ▸ h)⟩
            · exact ⟨.inr h, fun e => hnc (e ▸ h)⟩
          · rintro ⟨(h | h | h) | h, hne⟩
            · exact .inl (.inl h)
            · exact absurd h hne
            · exact .inl (.inr h)
            · exact .inr h)
      have hv2 : InvM ops (l1 ++ l2) cl (listed.setIfInBounds i true) := ⟨hlf.1, hlf.2, fun j hj => hv.inq j (hsub.subset hj), hv.inc, hv.free.sublist hsub, fun p hp => hv.freec p (hsub.subset hp), hv.ndq.sublist hsub, fun j hj => hv.dis j (hsub.subset hj), hv.ndc⟩
      have hf2 : (l1 ++ l2).length + cl.length ≤ fuel := by simp at hf ⊢; omega
      unfold wpOp
      rw [hoi]
      simp only
      rcases hy with ⟨hw, hy⟩ | ⟨hw, rfl⟩
      · rw [if_pos hw]
        refine .inl ?_
        have h3 := hy w ((relP w0 N).sub ((relP w0 N).refl _))
        unfold Oper.quietAt at h3
        unfold Oper.wp
        generalize (execOp a.eval oi).run P w = r at *
        cases r with
        | ok nx w' =>
          cases nx <;> simp only [Oper.quietUpon] at h3 <;> simp only [Oper.upon]
          case value u =>
            obtain ⟨e1, e2⟩ := h3
            rw [e1, e2]
            exact ih _ _ _ _ _ _ hv2 hf2 h2
          case skip =>
            obtain ⟨e1, e2⟩ := h3
            rw [e1, ← e2]
            exact ih _ _ _ _ _ _ hv2 hf2 h2
          case enter f args =>
            obtain ⟨e1, hcl⟩ := h3
            rw [e1]
            exact hcl.mono fun e w'' ⟨he, hw''⟩ => by subst he; exact ih _ _ _ _ _ _ hv2 hf2 (h2.mono hw'')
        | halt x w' => simp only [Oper.quietUpon] at h3
      · rw [if_neg (by rw [hw]; exact Bool.false_ne_true)]
        exact ih _ _ _ _ _ _ hv2 hf2 h2
    · have hap : ∀ q ∈ ql, ∀ oq, ops[q]? = some oq → oq.apart ops oi = true := fun q hq2 => hfr q (.inl hq2) (hv.freec q hq2 i hc)
      have hch : i ∈ choices ops cl := List.mem_filter.2 ⟨hc, by
        rw [List.all_eq_true]
        intro d hd
        rw [hnw d (.inr hd)]
        rfl⟩
      cases n with
      | zero =>
        obtain ⟨a', h3⟩ := h.last
        rw [h3.1] at hc
        cases hc
      | succ n =>
        have hD : ∀ a w, wpMix (relP w0 N) P ops K (n + 1) cl a w → wpOp P ops noExit i (fun a' w' => (relP w0 N).R w w' ∧ ∀ w'', (relP w0 N).E w' w'' → ∃ q2, aheadB ops q2 (cl.erase i) = true ∧ HA (relP w0 N) P ops (wpMix (relP w0 N) P ops K n (restM q2 (cl.erase i))) q2 a' w'') a w := fun a w hC => by
          refine wpOp_mono (fun a' w' ⟨h1, h2⟩ => ⟨h1, fun w'' e => ?_⟩) (hC.2 i hch)
          have e : w' = w'' := e
          subst e
          exact h2
        refine wpOp_free (wpOp_mono (fun a' w' h3 => ?_) (HA.chain hsel hoi (D := fun a' w' => ∃ q2, aheadB ops q2 (cl.erase i) = true ∧ HA (relP w0 N) P ops (wpMix (relP w0 N) P ops K n (restM q2 (cl.erase i))) q2 a' w') hD hap h rfl))
        replace h3 := h3.2
        obtain ⟨q2, hB, h4⟩ := HA.openM (C := fun q2 => wpMix (relP w0 N) P ops K n (restM q2 (cl.erase i))) (B := fun q2 => aheadB ops q2 (cl.erase i)) h3
        simp only [aheadB, Bool.and_eq_true, List.all_eq_true, decide_eq_true_eq] at hB
        obtain ⟨⟨⟨⟨hin, hnd2⟩, hpw⟩, hfc⟩, hlen⟩ := hB
        have hin2 : ∀ q ∈ q2, q ∈ cl ∧ q ≠ i := fun q hq => by
          have := List.mem_of_elem_eq_true (hin q hq)
          rw [hv.ndc.mem_erase_iff] at this
          exact ⟨this.2, this.1⟩
        have hrest : ∀ j, j ∈ restM q2 (cl.erase i) ↔ (j ∈ cl ∧ j ≠ i) ∧ j ∉ q2 := fun j => by
          unfold restM
          rw [List.mem_filter, hv.ndc.mem_erase_iff]
          simp
          exact fun _ => And.comm
        have hlf := hv.left' (ql' := ql ++ q2) (cl' := restM q2 (cl.erase i)) (i := i) (fun j => by
          rw [List.mem_append, hrest j]
          constructor
          · rintro ((h | h) | h)
            · exact ⟨.inl h, fun e => hv.dis j h (e ▸ hc)⟩
            · exact ⟨.inr (hin2 j h).1, (hin2 j h).2⟩
            · exact ⟨.inr h.1.1, h.1.2⟩
          · rintro ⟨h | h, hne⟩
            · exact .inl (.inl h)
            · by_cases h5 : j ∈ q2
              · exact .inl (.inr h5)
              · exact .inr ⟨⟨h, hne⟩, h5⟩)
        have hpos : 0 < cl.length := List.length_pos_of_mem hc
        have hlenE : (cl.erase i).length = cl.length - 1 := List.length_erase_of_mem hc
        refine ih n _ _ _ _ _ ⟨hlf.1, hlf.2, ?_, ?_, ?_, ?_, ?_, ?_, ?_⟩ (by rw [List.length_append]; omega) h4
        · intro j hj
          rcases List.mem_append.1 hj with h | h
          · exact hv.inq j h
          · exact hv.inc j (hin2 j h).1
        · intro j hj; exact hv.inc j ((hrest j).1 hj).1.1
        · rw [List.pairwise_append]
          exact ⟨hv.free, hpw, fun p hp j hj => hv.freec p hp j (hin2 j hj).1⟩
        · intro p hp j hj
          rcases List.mem_append.1 hp with h | h
          · exact hv.freec p h j ((hrest j).1 hj).1.1
          · exact hfc p h j hj
        · rw [List.nodup_append]
          exact ⟨hv.ndq, hnd2, fun p hp j hj e => hv.dis p hp (e ▸ (hin2 j hj).1)⟩
        · intro j hj hj2
          rcases List.mem_append.1 hj with h | h
          · exact hv.dis j h ((hrest j).1 hj2).1.1
          · exact ((hrest j).1 hj2).2 h
        · exact (hv.ndc.sublist List.erase_sublist).sublist List.filter_sublist
/-- What the theorem asks of a region. -/
def mixB (ops : Array Oper) (ql cl : List Nat) : Bool :=
  Region.noSelect ops && (ql ++ cl).all (fun i => decide (i < ops.size)) && (List.range ops.size).all (fun i => (ql ++ cl).contains i) && decide ((ql ++ cl).length = ops.size) && decide ((ql ++ cl).Pairwise (· ≠ ·)) &&
  (List.range ops.size).all (fun i => ((ops[i]?).map fun o => o.after.all fun e => !Region.binds .any e || decide (e.on < i)).getD true) &&
  decide (ql.Pairwise fun p j => freeB ops p j = true) && ql.all (fun p => cl.all fun j => freeB ops p j)
theorem region_of_mix {w0 : World} {N : List As} {id n : Nat} {Q : Exit → Act → World → Prop} {a : Act} {w : World} {l : List Oper} {ql cl : List Nat} (hm : P.follows .mixedOrders = true) (hB : mixB l.toArray ql cl = true)
    (h : HA (relP w0 N) P l.toArray (wpMix (relP w0 N) P l.toArray (fun a w => Q .normal a w) n cl) ql a w.drew) : (Code.region id l.toArray true).wp P Q a w := by
  simp only [mixB, Bool.and_eq_true, List.all_eq_true, List.mem_range, decide_eq_true_eq] at hB
  obtain ⟨⟨⟨⟨⟨⟨⟨hs, hin⟩, hall⟩, hlen⟩, hnd⟩, hdown⟩, hfree⟩, hfreec⟩ := hB
  have hsel := Region.noSelect_spec hs
  have hnd : (ql ++ cl).Nodup := hnd
  rw [List.nodup_append] at hnd
  refine wp_region_any hm (any_mono (Q := fun e a w => e = .normal ∧ Q .normal a w) (fun e a w h => by obtain ⟨rfl, h⟩ := h; exact h) (fun ⟨a, w, h, _⟩ => by cases h) _ _ _ _ ?_)
  refine mainM (K := fun a w => Q .normal a w) hsel ?_ _ n _ _ _ _ _ ⟨by simp, ?_, ?_, ?_, hfree, hfreec, hnd.1, ?_, hnd.2.1⟩ (by rw [← hlen]; simp) h
  · intro i o ho e he hb
    have h1 := hdown i (Array.getElem?_eq_some_iff.1 ho).1
    rw [ho] at h1
    simp only [Option.map_some, Option.getD_some, Array.all_eq_true_iff_forall_mem] at h1
    have h2 := h1 e he
    rw [hb] at h2
    simpa using h2
  · intro i hi
    have := hall i hi
    have := List.mem_of_elem_eq_true this
    simp only [List.mem_append] at this
    simp at hi
    simp [hi, this]
  · intro i hi; exact hin i (List.mem_append_left _ hi)
  · intro i hi; exact hin i (List.mem_append_right _ hi)
  · intro i hi hi2; exact hnd.2.2 i hi i hi2 rfl
def opsAt (ops : Array Oper) : List Nat → List Oper
  | [] => []
  | q :: ql => match ops[q]? with
    | some o => o :: opsAt ops ql
    | none => opsAt ops ql
theorem opsAt_map : ∀ {ql : List Nat}, (ql.all fun q => decide (q < ops.size)) = true → (opsAt ops ql).map some = ql.map (ops[·]?)
  | [], _ => rfl
  | q :: ql, h => by
    simp only [List.all_cons, Bool.and_eq_true, decide_eq_true_eq] at h
    unfold opsAt
    rw [Array.getElem?_eq_getElem h.1]
    simp only [List.map_cons, opsAt_map h.2, Array.getElem?_eq_getElem h.1]
def quietB (ops : Array Oper) (ql : List Nat) : Bool := (ql.all fun q => decide (q < ops.size)) && (opsAt ops ql).all plainOp
/-- **A region that draws its order:** 'ql', what only reads, first; then the others in each order. -/
theorem wp_mix {id : Nat} {Q : Exit → Act → World → Prop} {a : Act} {w w0 : World} {N : List As} {l : List Oper} (n : Nat) (ql cl : List Nat) (hs : St w0 N w) (hm : P.follows .mixedOrders = true) (hB : (mixB l.toArray ql cl && quietB l.toArray ql) = true)
    (h : Nonempty (StN w0 N) → wpQuiet P l.toArray (fun w' => ∃ p : StN w0 N, w' = p.w) (fun a' => wpMix (relP w0 N) P l.toArray (fun a' w' => Q .normal a' w') n cl a' w.drew) (opsAt l.toArray ql) a) : (Code.region id l.toArray true).wp P Q a w := by
  rw [Bool.and_eq_true] at hB
  have hq := hB.2
  unfold quietB at hq
  rw [Bool.and_eq_true] at hq
  have hcls : (fun w' => ∃ p : StN w0 N, w' = p.w) = fun w' => St w0 N w' := funext fun w' => propext ⟨fun ⟨p, h⟩ => h ▸ p.st, fun h => ⟨⟨w', h⟩, rfl⟩⟩
  have h2 := h ⟨⟨_, hs⟩⟩
  rw [hcls] at h2
  exact region_of_mix hm hB.1 (HA.of_plain hs.drew _ _ _ (opsAt_map hq.1) hq.2 h2)
/-- The next one, in each order; behind it 'ql' of what only reads. -/
theorem wpMix_next {w0 : World} {N : List As} {n : Nat} {cl : List Nat} {a : Act} {w : World} (cs : List Nat) (hc : choices ops cl = cs) (hne : cl ≠ [])
    (h : ∀ c ∈ cs, ∃ o, ops[c]? = some o ∧ wpList P ops (fun e a' w' => e = .normal ∧ (St w0 N w' ∧ ∃ ql, aheadB ops ql (cl.erase c) = true ∧ HA (relP w0 N) P ops (wpMix (relP w0 N) P ops K n (restM ql (cl.erase c))) ql a' w')) [o] a w) : wpMix (relP w0 N) P ops K (n + 1) cl a w := by
  refine ⟨hne, fun c hcm => ?_⟩
  rw [hc] at hcm
  obtain ⟨o, ho, hl⟩ := h c hcm
  exact wpOp_of_list ho (wpList_post (fun a' w' ⟨h1, h2⟩ => ⟨fun _ => h1, h2⟩) hl)
theorem mix_quiet {w0 : World} {N : List As} {n : Nat} {cl' : List Nat} {a : Act} {w : World} (ql rest : List Nat) (hs : St w0 N w) (hB : (aheadB ops ql cl' && quietB ops ql) = true) (hr : restM ql cl' = rest)
    (h : Nonempty (StN w0 N) → wpQuiet P ops (fun w' => ∃ p : StN w0 N, w' = p.w) (fun a' => wpMix (relP w0 N) P ops K n rest a' w) (opsAt ops ql) a) :
    St w0 N w ∧ ∃ ql, aheadB ops ql cl' = true ∧ HA (relP w0 N) P ops (wpMix (relP w0 N) P ops K n (restM ql cl')) ql a w := by
  subst hr
  rw [Bool.and_eq_true] at hB
  have hq := hB.2
  unfold quietB at hq
  rw [Bool.and_eq_true] at hq
  have hcls : (fun w' => ∃ p : StN w0 N, w' = p.w) = fun w' => St w0 N w' := funext fun w' => propext ⟨fun ⟨p, h⟩ => h ▸ p.st, fun h => ⟨⟨w', h⟩, rfl⟩⟩
  have h2 := h ⟨⟨_, hs⟩⟩
  rw [hcls] at h2
  exact ⟨hs, ql, hB.1, HA.of_plain hs _ _ _ (opsAt_map hq.1) hq.2 h2⟩
theorem wpMix_end {a : Act} {w : World} (h : K a w) : wpMix T P ops K 0 [] a w := ⟨rfl, h⟩
end
end Go.Proofs.YtcnbmfaicbkhcaaGreatDoor
