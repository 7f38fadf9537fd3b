/-
  A region that draws its order, walked once for each order of its operations that do not only read.
-/
import Derived.Test.YtkcbjkadalebjaaRegion
set_option maxRecDepth 100000
namespace Go.Proofs.Ytkcbjkadalebjaa
open Go Go.RowKit
section
variable {P : Program} {ops : Array Oper} {T : Rel} {K : Act → World → Prop}

/-- Of those that are left, the ones that wait for none that is left. -/
def choices (ops : Array Oper) (cl : List Nat) : List Nat := cl.filter fun c => cl.all fun d => !waits ops c d
/-- Those that do not only read, in any order that there may be; the last one of all does as it likes. -/
def wpAll (T : Rel) (P : Program) (ops : Array Oper) (K : Act → World → Prop) : Nat → List Nat → Act → World → Prop
  | 0, _, a, w => K a w
  | 1, cl, a, w => ∀ c ∈ choices ops cl, wpOp P ops noExit c K a w
  | n + 2, cl, a, w => ∀ c ∈ choices ops cl, wpOp P ops noExit c (fun a' w' => T.R w w' ∧ ∀ w'', T.E w' w'' → wpAll T P ops K (n + 1) (cl.erase c) a' w'') a w
/-- What is left: those that only read, then C. -/
def HA (T : Rel) (P : Program) (ops : Array Oper) (C : Act → World → Prop) : List Nat → Act → World → Prop
  | [], a, w1 => ∀ w, T.E w1 w → C a w
  | q :: ql, a, w1 => ∃ o v, ops[q]? = some o ∧ YR T P ops o v a w1 ∧ HA T P ops C ql (a.put o.dst v) w1
theorem HA.mono {C : Act → World → Prop} : ∀ {ql : List Nat} {a : Act} {w1 w2 : World}, T.E w1 w2 → HA T P ops C ql a w1 → HA T P ops C ql a w2
  | [], _, _, _, hg, h => fun w hw => h w (T.etrans hg hw)
  | _ :: _, _, _, _, hg, ⟨o, v, ho, hy, h⟩ => ⟨o, v, ho, hy.mono (T.sub hg), h.mono hg⟩
theorem HA.chain (hsel : ∀ (j : Nat) (o : Oper) cs b, ops[j]? = some o → o.op ≠ .select cs b) {c : Nat} {oc : Oper} (hc : ops[c]? = some oc) {C D : Act → World → Prop} (hCD : ∀ a w, C a w → wpOp P ops noExit c (fun a' w' => T.R w w' ∧ ∀ w'', T.E w' w'' → D a' w'') a w) :
    ∀ {ql : List Nat} {a : Act} {w1 w : World}, (∀ q ∈ ql, ∀ oq, ops[q]? = some oq → oq.apart ops oc = true) → HA T P ops C ql a w1 → T.E w1 w →
      wpOp P ops noExit c (fun a' w' => T.R w w' ∧ HA T P ops D ql a' w') a w
  | [], _, _, w, _, h, hg => hCD _ _ (h w hg)
  | q :: ql, a, w1, w, hap, ⟨o, v, ho, hy, h⟩, hg => by
    have h2 := HA.chain hsel hc hCD (fun q hq => hap q (List.mem_cons_of_mem _ hq)) h hg
    exact wpOp_mono (fun a' w' ⟨h3, h4, h5⟩ => ⟨h4, o, v, ho, h3.mono (T.trans (T.sub hg) h4), h5⟩) (wpOp_put hc (hap q (by simp) o ho) (fun cs b => hsel q o cs b ho) (fun cs b => hsel c oc cs b hc) hy h2)
theorem HA.take (hsel : ∀ (j : Nat) (o : Oper) cs b, ops[j]? = some o → o.op ≠ .select cs b) {C : Act → World → Prop} {l2 : List Nat} {q : Nat} {oq : Oper} (hq : ops[q]? = some oq) :
    ∀ {l1 : List Nat} {a : Act} {w1 : World}, (∀ p ∈ l1, ∀ op, ops[p]? = some op → op.apart ops oq = true) → HA T P ops C (l1 ++ q :: l2) a w1 →
      ∃ v, YR T P ops oq v a w1 ∧ HA T P ops C (l1 ++ l2) (a.put oq.dst v) w1
  | [], _, _, _, ⟨o, v, ho, hy, h⟩ => by
    rw [hq] at ho
    injection ho with ho
    subst ho
    exact ⟨v, hy, h⟩
  | p :: l1, a, w1, hap, ⟨o, u, ho, hy, h⟩ => by
    obtain ⟨v, hv, h2⟩ := HA.take hsel hq (fun p hp => hap p (List.mem_cons_of_mem _ hp)) h
    obtain ⟨k1, k2, k3⟩ := Oper.apart_spec (hap p (by simp) o ho)
    refine ⟨v, hv.same (execOp_put oq (fun cs b => hsel q oq cs b hq) a o.dst u k1).symm (wanted_put oq a o.dst u k1).symm, o, u, ho, hy.same (execOp_put o (fun cs b => hsel p o cs b ho) a oq.dst v k3) (wanted_put o a oq.dst v k3), ?_⟩
    rw [← Act.put_comm a u v k2]
    exact h2
/-- Where the walk stands. -/
structure InvA (ops : Array Oper) (ql cl ql0 cl0 : List Nat) (listed : Array Bool) : Prop where
  size : listed.size = ops.size
  left : ∀ i, i < ops.size → (listed.getD i true = false ↔ i ∈ ql ∨ i ∈ cl)
  inq : ∀ i ∈ ql, i ∈ ql0 ∧ i < ops.size
  inc : ∀ i ∈ cl, i ∈ cl0 ∧ i < ops.size
  sq : ql.Pairwise (· < ·)
  dis : ∀ i ∈ ql, i ∉ cl
  nodup : cl.Nodup
  last : cl ≠ [] → ops.size - 1 ∈ cl
  shut : ∀ j o, ops[j]? = some o → listed.getD j true = true → ∀ e ∈ o.after, Region.binds .any e = true → listed.getD e.on false = true
theorem InvA.step {ql cl ql0 cl0 ql' cl' : List Nat} {listed : Array Bool} {i : Nat} (h : InvA ops ql cl ql0 cl0 listed) (hi : i ∈ Region.ready .any ops listed)
    (hmem : ∀ j, (j ∈ ql' ∨ j ∈ cl') ↔ (j ∈ ql ∨ j ∈ cl) ∧ j ≠ i) (hq : ql'.Sublist ql) (hc : cl'.Sublist cl) (hl : cl' ≠ [] → ops.size - 1 ∈ cl') : InvA ops ql' cl' ql0 cl0 (listed.setIfInBounds i true) where
  size := by simpa using h.size
  left j hj := by
    rw [hmem j, ← h.left j hj]
    by_cases e : i = j
    · subst e; simp [h.size, hj]
    · rw [getD_set_ne true e]; simp [Ne.symm e]
  inq j hj := h.inq j (hq.subset hj)
  inc j hj := h.inc j (hc.subset hj)
  sq := h.sq.sublist hq
  dis j hj hj2 := h.dis j (hq.subset hj) (hc.subset hj2)
  nodup := h.nodup.sublist hc
  last := hl
  shut j o ho hj e he hb := by
    by_cases hji : i = j
    · subst hji
      obtain ⟨_, o', ho', hall⟩ := mem_ready.1 hi
      rw [ho] at ho'
      injection ho' with ho'
      subst ho'
      exact getD_set_true (hall e he hb)
    · rw [getD_set_ne true hji] at hj
      exact getD_set_true (h.shut j o ho hj e he hb)
theorem mainA {ql0 cl0 : List Nat} (hsel : ∀ (j : Nat) (o : Oper) cs b, ops[j]? = some o → o.op ≠ .select cs b)
    (hdown : ∀ i o, ops[i]? = some o → ∀ e ∈ o.after, Region.binds .any e = true → e.on < i)
    (hfree : ∀ q ∈ ql0, ∀ j, j < ops.size → j ≠ q → ¬ (j ∈ ql0 ∧ j < q) → waits ops j q = true ∨ apartB ops q j = true) (hcq : ∀ i ∈ cl0, i ∉ ql0)
    (hlast : cl0 ≠ [] → ∀ q, q < ops.size - 1 → ∃ j, q < j ∧ j < ops.size ∧ waits ops j q = true) :
    ∀ (fuel : Nat) (ql cl : List Nat) (listed : Array Bool) (a : Act) (w : World), InvA ops ql cl ql0 cl0 listed → ql.length + cl.length ≤ fuel → HA T P ops (wpAll T P ops K cl.length cl) ql a w → wpAny P .any ops (fun e a w => e = .normal ∧ K a w) fuel listed a w := by
  have done : ∀ (ql cl : List Nat) (listed : Array Bool) (a : Act) (w : World), InvA ops ql cl ql0 cl0 listed → HA T P ops (wpAll T P ops K cl.length cl) ql a w → Region.ready .any ops listed = [] → K a w := by
    intro ql cl listed a w hv h hr
    have hall : ∀ n i, i < n → i < ops.size → listed.getD i true = true := by
      intro n
      induction n with
      | zero => intro i hi; omega
      | succ n ih =>
        intro i hi hlt
        refine Classical.byContradiction fun hno => ?_
        have hno : listed.getD i true = false := by simpa using hno
        have : i ∈ Region.ready .any ops listed := mem_ready.2 ⟨hno, ops[i], Array.getElem?_eq_getElem hlt, fun e he hb => by
          have h1 := hdown i _ (Array.getElem?_eq_getElem hlt) e he hb
          have h2 := ih e.on (by omega) (by omega)
          rwa [getD_flip (by rw [hv.size]; omega)] at h2⟩
        rw [hr] at this
        cases this
    have hq : ql = [] := by
      cases ql with
      | nil => rfl
      | cons q ql =>
        have h1 := hv.inq q (by simp)
        have h2 := (hv.left q h1.2).2 (.inl (by simp))
        rw [hall _ q (Nat.lt_succ_self q) h1.2] at h2
        cases h2
    have hc : cl = [] := by
      cases cl with
      | nil => rfl
      | cons q ql =>
        have h1 := hv.inc q (by simp)
        have h2 := (hv.left q h1.2).2 (.inr (by simp))
        rw [hall _ q (Nat.lt_succ_self q) h1.2] at h2
        cases h2
    subst hq; subst hc
    exact h w (T.refl _)
  have fin : ∀ (fuel : Nat) (listed : Array Bool) (a : Act) (w : World), InvA ops [] [] ql0 cl0 listed → K a w → wpAny P .any ops (fun e a w => e = .normal ∧ K a w) fuel listed a w := by
    intro fuel listed a w hv hk
    have hr : Region.ready .any ops listed = [] := by
      cases hr : Region.ready .any ops listed with
      | nil => rfl
      | cons i l =>
        have hi : i ∈ Region.ready .any ops listed := by rw [hr]; simp
        obtain ⟨hun, o, ho, _⟩ := mem_ready.1 hi
        rcases (hv.left i (Array.getElem?_eq_some_iff.1 ho).1).1 hun with h | h <;> cases h
    cases fuel with
    | zero => exact ⟨hr, rfl, hk⟩
    | succ fuel => exact ⟨fun _ => ⟨rfl, hk⟩, fun i hi => by rw [hr] at hi; cases hi⟩
  intro fuel
  induction fuel with
  | zero =>
    intro ql cl listed a w hv hf h
    have h1 : ql = [] := List.eq_nil_of_length_eq_zero (by omega)
    have h2 : cl = [] := List.eq_nil_of_length_eq_zero (by omega)
    subst h1; subst h2
    have hr : Region.ready .any ops listed = [] := by
      cases hr : Region.ready .any ops listed with
      | nil => rfl
      | cons i l =>
        have hi : i ∈ Region.ready .any ops listed := by rw [hr]; simp
        obtain ⟨hun, o, ho, _⟩ := mem_ready.1 hi
        rcases (hv.left i (Array.getElem?_eq_some_iff.1 ho).1).1 hun with h | h <;> cases h
    exact ⟨hr, rfl, done _ _ _ _ _ hv h hr⟩
  | succ fuel ih =>
    intro ql cl listed a w hv hf h
    refine ⟨fun hr => ⟨rfl, done _ _ _ _ _ hv h hr⟩, fun i hi => ?_⟩
    obtain ⟨hun, oi, hoi, hall⟩ := mem_ready.1 hi
    have hlt : i < ops.size := (Array.getElem?_eq_some_iff.1 hoi).1
    have hunl : ∀ j, (j ∈ ql ∨ j ∈ cl) → listed.getD j false = false := fun j hj => by
      have hj2 : j < ops.size := hj.elim (fun h => (hv.inq j h).2) (fun h => (hv.inc j h).2)
      rw [← getD_flip (by rw [hv.size]; exact hj2)]
      exact (hv.left j hj2).2 hj
    have hnw : ∀ j, (j ∈ ql ∨ j ∈ cl) → waits ops i j = false := fun j hj => by
      cases hw : waits ops i j with
      | false => rfl
      | true => have := waits_ready hw hi; rw [hunl j hj] at this; cases this
    rcases (hv.left i hlt).1 hun with hq | hc
    · obtain ⟨l1, l2, rfl⟩ := List.append_of_mem hq
      have hsq := hv.sq
      rw [List.pairwise_append] at hsq
      have hap : ∀ p ∈ l1, ∀ op, ops[p]? = some op → op.apart ops oi = true := fun p hp op hop => by
        have h1 : p < i := hsq.2.2 p hp i (by simp)
        have h2 := hv.inq p (by simp [hp])
        rcases hfree p h2.1 i hlt (by omega) (by omega) with h3 | h3
        · rw [hnw p (.inl (by simp [hp]))] at h3; cases h3
        · exact apartB_spec hop hoi h3
      obtain ⟨v, hy, h2⟩ := HA.take hsel hoi hap h
      have hni1 : i ∉ l1 := fun hm => by have := hsq.2.2 i hm i (by simp); omega
      have hni2 : i ∉ l2 := fun hm => by have := (List.pairwise_cons.1 hsq.2.1).1 i hm; omega
      have hv2 : InvA ops (l1 ++ l2) cl ql0 cl0 (listed.setIfInBounds i true) := hv.step hi (fun j => by
          have hnc : i ∉ cl := hv.dis i hq
          simp only [List.mem_append, List.mem_cons]
          constructor
          · rintro ((h | h) | h)
            · exact ⟨.inl (.inl h), fun e => hni1 (e ▸ h)⟩
            · exact ⟨.inl (.inr (.inr h)), fun e => hni2 (e ▸ h)⟩
            · exact ⟨.inr h, fun e => hnc (e ▸ h)⟩
          · rintro ⟨(h | h | h) | h, hne⟩
            · exact .inl (.inl h)
            · exact absurd h hne
            · exact .inl (.inr h)
            · exact .inr h)
        (List.Sublist.append_left (List.sublist_cons_self i l2) l1) (List.Sublist.refl _) hv.last
      have hf2 : (l1 ++ l2).length + cl.length ≤ fuel := by simp at hf ⊢; omega
      unfold wpOp
      rw [hoi]
      simp only
      rcases hy with ⟨hw, hy⟩ | ⟨hw, rfl⟩
      · rw [if_pos hw]
        refine .inl ?_
        have h3 := hy w (T.sub (T.refl _))
        unfold Oper.quietAt at h3
        unfold Oper.wp
        generalize (execOp a.eval oi).run P w = r at *
        cases r with
        | ok n w' =>
          cases n <;> simp only [Oper.quietUpon] at h3 <;> simp only [Oper.upon]
          case value u =>
            obtain ⟨e1, e2⟩ := h3
            rw [e1, e2]
            exact ih _ _ _ _ _ hv2 hf2 h2
          case skip =>
            obtain ⟨e1, e2⟩ := h3
            rw [e1, ← e2]
            exact ih _ _ _ _ _ hv2 hf2 h2
          case enter f args =>
            obtain ⟨e1, hcl⟩ := h3
            rw [e1]
            exact hcl.mono fun e w'' ⟨he, hw''⟩ => by subst he; exact ih _ _ _ _ _ hv2 hf2 (h2.mono hw'')
        | halt x w' => simp only [Oper.quietUpon] at h3
      · rw [if_neg (by rw [hw]; exact Bool.false_ne_true)]
        exact ih _ _ _ _ _ hv2 hf2 h2
    · have hap : ∀ q ∈ ql, ∀ oq, ops[q]? = some oq → oq.apart ops oi = true := fun q hq2 oq hoq => by
        have h2 := hv.inq q hq2
        have hne : i ≠ q := fun e => hv.dis q hq2 (e ▸ hc)
        rcases hfree q h2.1 i hlt hne (fun h => hcq i (hv.inc i hc).1 h.1) with h3 | h3
        · rw [hnw q (.inl hq2)] at h3; cases h3
        · exact apartB_spec hoq hoi h3
      have hch : i ∈ choices ops cl := List.mem_filter.2 ⟨hc, by
        rw [List.all_eq_true]
        intro d hd
        rw [hnw d (.inr hd)]
        rfl⟩
      have hcl0 : cl0 ≠ [] := fun e => by have := (hv.inc i hc).1; rw [e] at this; cases this
      have hallb : i = ops.size - 1 → ∀ k q, q + k = ops.size - 1 → 0 < k → listed.getD q false = true := by
        intro hce k
        induction k using Nat.strongRecOn with
        | ind k ihk =>
          intro q hq0 hk
          obtain ⟨j, hj1, hj2, hj3⟩ := hlast hcl0 q (by omega)
          by_cases hjc : j = i
          · subst hjc; exact waits_ready hj3 hi
          · have h5 := ihk (ops.size - 1 - j) (by omega) j (by omega) (by omega)
            obtain ⟨o, e, ho, he, hb, rfl⟩ := waits_spec hj3
            rw [← getD_flip (by rw [hv.size]; exact hj2)] at h5
            exact hv.shut j o ho h5 e he hb
      have honly : i = ops.size - 1 → ql = [] ∧ ∀ j ∈ cl, j = i := fun hce => by
        refine ⟨?_, fun j hj => Classical.byContradiction fun hne => ?_⟩
        · cases ql with
          | nil => rfl
          | cons q ql =>
            have h1 := hv.inq q (by simp)
            have h3 := hunl q (.inl (by simp))
            have hne : q ≠ i := fun e => hv.dis q (by simp) (e ▸ hc)
            rw [hallb hce (ops.size - 1 - q) q (by omega) (by omega)] at h3
            cases h3
        · have h1 := hv.inc j hj
          have h3 := hunl j (.inr hj)
          rw [hallb hce (ops.size - 1 - j) j (by omega) (by omega)] at h3
          cases h3
      have hlen : (cl.erase i).length = cl.length - 1 := List.length_erase_of_mem hc
      have hpos : 0 < cl.length := List.length_pos_of_mem hc
      have hmemE : ∀ j, (j ∈ ql ∨ j ∈ cl.erase i) ↔ (j ∈ ql ∨ j ∈ cl) ∧ j ≠ i := fun j => by
        rw [hv.nodup.mem_erase_iff]
        constructor
        · rintro (h | ⟨h1, h2⟩)
          · exact ⟨.inl h, fun e => hv.dis j h (e ▸ hc)⟩
          · exact ⟨.inr h2, h1⟩
        · rintro ⟨h | h, hne⟩
          · exact .inl h
          · exact .inr ⟨hne, h⟩
      have hlastE : cl.erase i ≠ [] → ops.size - 1 ∈ cl.erase i := fun hne => by
        have h1 := hv.last (fun e => by rw [e] at hc; cases hc)
        rw [hv.nodup.mem_erase_iff]
        refine ⟨fun e => hne ?_, h1⟩
        have h2 := (honly e.symm).2
        apply List.eq_nil_of_length_eq_zero
        rw [hlen]
        have hnd := hv.nodup
        match cl, hc, h2, hnd with
        | [x], _, _, _ => rfl
        | x :: y :: t, _, h2, hnd =>
          have e1 := h2 x (by simp)
          have e2 := h2 y (by simp)
          subst e1
          exact absurd (by simp [e2]) (List.nodup_cons.1 hnd).1
      have hv2 : InvA ops ql (cl.erase i) ql0 cl0 (listed.setIfInBounds i true) := hv.step hi hmemE (List.Sublist.refl _) List.erase_sublist hlastE
      rcases Nat.lt_or_ge 1 cl.length with h1 | h1
      · obtain ⟨n, hn⟩ : ∃ n, cl.length = n + 2 := ⟨cl.length - 2, by omega⟩
        have hnE : (cl.erase i).length = n + 1 := by omega
        have hf2 : ql.length + (cl.erase i).length ≤ fuel := by omega
        rw [hn] at h
        refine wpOp_free (wpOp_mono (fun a' w' ⟨_, h3⟩ => ih _ _ _ _ _ hv2 hf2 (by rw [hnE]; exact h3)) (HA.chain hsel hoi (D := wpAll T P ops K (n + 1) (cl.erase i)) (fun a w hC => ?_) hap h (T.refl _)))
        exact hC i hch
      · have hn : cl.length = 1 := by omega
        have hil : i = ops.size - 1 := by
          have h2 := hv.last (fun e => by rw [e] at hc; cases hc)
          match cl, hn, hc, h2 with
          | [x], _, hc, h2 => simp at hc h2; omega
        have hq := (honly hil).1
        subst hq
        have hE : cl.erase i = [] := List.eq_nil_of_length_eq_zero (by omega)
        rw [hn] at h
        have h3 : wpOp P ops noExit i K a w := h w (T.refl _) i hch
        rw [hE] at hv2
        exact wpOp_free (wpOp_mono (fun a' w' hk => fin fuel _ a' w' hv2 hk) h3)
/-- What the theorem asks of a region: those that only read 'ql', the others 'cl'. -/
def allB (ops : Array Oper) (ql cl : List Nat) : Bool :=
  Region.noSelect ops && (ql ++ cl).all (fun i => decide (i < ops.size)) && (List.range ops.size).all (fun i => (ql ++ cl).contains i) && decide ((ql ++ cl).length = ops.size) && decide ((ql ++ cl).Pairwise (· ≠ ·)) &&
  (List.range ops.size).all (fun i => ((ops[i]?).map fun o => o.after.all fun e => !Region.binds .any e || decide (e.on < i)).getD true) &&
  ql.all (fun q => (List.range ops.size).all fun j => j == q || (ql.contains j && decide (j < q)) || waits ops j q || apartB ops q j) &&
  (cl.isEmpty || (cl.contains (ops.size - 1) && (List.range (ops.size - 1)).all fun q => (List.range ops.size).any fun j => decide (q < j) && waits ops j q))
theorem region_of_ha {id : Nat} {Q : Exit → Act → World → Prop} {a : Act} {w : World} {l : List Oper} (m : List Bool) (hm : P.follows .mixedOrders = true) (hB : allB l.toArray (pickIx 0 l m) (chainIx 0 m) = true)
    (h : HA T P l.toArray (wpAll T P l.toArray (fun a w => Q .normal a w) (chainIx 0 m).length (chainIx 0 m)) (pickIx 0 l m) a w.drew) : (Code.region id l.toArray true).wp P Q a w := by
  simp only [allB, Bool.and_eq_true, List.all_eq_true, List.mem_range, decide_eq_true_eq, Bool.or_eq_true, beq_iff_eq] at hB
  obtain ⟨⟨⟨⟨⟨⟨⟨hs, hin⟩, hall⟩, hlen⟩, hnd⟩, hdown⟩, hfree⟩, hlast⟩ := hB
  have hsel := Region.noSelect_spec hs
  have hnd : (pickIx 0 l m ++ chainIx 0 m).Nodup := hnd
  rw [List.nodup_append] at hnd
  refine wp_region_any hm (any_mono (Q := fun e a w => e = .normal ∧ Q .normal a w) (fun e a w h => by obtain ⟨rfl, h⟩ := h; exact h) (fun ⟨a, w, h, _⟩ => by cases h) _ _ _ _ ?_)
  refine mainA (K := fun a w => Q .normal a w) (ql0 := pickIx 0 l m) (cl0 := chainIx 0 m) hsel ?_ ?_ (fun i hi hi2 => hnd.2.2 i hi2 i hi rfl) ?_ _ _ _ _ _ _ ⟨by simp, ?_, ?_, ?_, ?_, ?_, hnd.2.1, ?_, ?_⟩ (by rw [← hlen]; simp) h
  · intro i o ho e he hb
    have h1 := hdown i (Array.getElem?_eq_some_iff.1 ho).1
    rw [ho] at h1
    simp only [Option.map_some, Option.getD_some, Array.all_eq_true_iff_forall_mem] at h1
    have h2 := h1 e he
    rw [hb] at h2
    simpa using h2
  · intro q hq j hj hne hno
    rcases hfree q hq j hj with ((h1 | h1) | h1) | h1
    · exact absurd h1 hne
    · exact absurd ⟨List.mem_of_elem_eq_true h1.1, h1.2⟩ hno
    · exact .inl h1
    · exact .inr h1
  · intro hne q hq
    rcases hlast with h1 | h1
    · exact absurd (List.isEmpty_iff.1 h1) hne
    · have h2 := h1.2 q hq
      simp only [List.any_eq_true, List.mem_range, Bool.and_eq_true, decide_eq_true_eq] at h2
      obtain ⟨j, h3, h4, h5⟩ := h2
      exact ⟨j, h4, h3, h5⟩
  · intro i hi
    have := hall i hi
    have := List.mem_of_elem_eq_true this
    simp only [List.mem_append] at this
    simp at hi
    simp [hi, this]
  · intro i hi; exact ⟨hi, hin i (List.mem_append_left _ hi)⟩
  · intro i hi; exact ⟨hi, hin i (List.mem_append_right _ hi)⟩
  · exact pickIx_sorted _ _ _
  · intro i hi hi2; exact hnd.2.2 i hi i hi2 rfl
  · intro hne
    rcases hlast with h1 | h1
    · exact absurd (List.isEmpty_iff.1 h1) hne
    · exact List.mem_of_elem_eq_true h1.1
  · intro j o ho hj
    have hlt := (Array.getElem?_eq_some_iff.1 ho).1
    have e : (Array.replicate l.toArray.size false).getD j true = false := by simp only [Array.getD, Array.size_replicate, hlt, dite_true]; simp
    rw [e] at hj
    cases hj
theorem HA.of_plain {C : Act → World → Prop} {w0 w1 : World} {N : List As} (hs : St w0 N w1) : ∀ (l : List Oper) (ql : List Nat) (a : Act), l.map some = ql.map (ops[·]?) → l.all plainOp = true →
    wpQuiet P ops (fun w' => St w0 N w') (fun a' => C a' w1) l a → HA (relP w0 N) P ops C ql a w1
  | [], [], _, _, _, h => fun w hw => by have hw : w1 = w := hw; subst hw; exact h
  | [], _ :: _, _, e, _, _ => by simp at e
  | _ :: _, [], _, e, _, _ => by simp at e
  | o :: l, q :: ql, a, e, hp, h => by
    simp only [List.map_cons, List.cons.injEq] at e
    simp only [List.all_cons, Bool.and_eq_true] at hp
    unfold wpQuiet at h
    by_cases hw : Region.wanted o (yielded ops a.tmps) = true
    · rw [if_pos hw] at h
      obtain ⟨v, h1, h2⟩ := h
      exact ⟨o, v, e.1.symm, .inl ⟨hw, fun w hw => plain_eq hp.1 (hw hs) h1⟩, HA.of_plain hs l ql _ e.2 hp.2 h2⟩
    · rw [if_neg hw] at h
      exact ⟨o, undef, e.1.symm, .inr ⟨by simpa using hw, rfl⟩, HA.of_plain hs l ql _ e.2 hp.2 h⟩
/-- **A region that draws its order**, whose operations that only read call nothing and read of N; the others keep N, and come in any order that there may be. -/
theorem wp_all_plain {id n : Nat} {Q : Exit → Act → World → Prop} {a : Act} {w w0 : World} {N : List As} {l : List Oper} (m : List Bool) (hs : St w0 N w) (hm : P.follows .mixedOrders = true) (hB : (allB l.toArray (pickIx 0 l m) (chainIx 0 m) && (pickOps l m).all plainOp) = true) (hn : (chainIx 0 m).length = n)
    (h : Nonempty (StN w0 N) → wpQuiet P l.toArray (fun w' => ∃ p : StN w0 N, w' = p.w) (fun a' => wpAll (relP w0 N) P l.toArray (fun a' w' => Q .normal a' w') n (chainIx 0 m) a' w.drew) (pickOps l m) a) : (Code.region id l.toArray true).wp P Q a w := by
  subst hn
  rw [Bool.and_eq_true] at hB
  have hcls : (fun w' => ∃ p : StN w0 N, w' = p.w) = fun w' => St w0 N w' := funext fun w' => propext ⟨fun ⟨p, h⟩ => h ▸ p.st, fun h => ⟨⟨w', h⟩, rfl⟩⟩
  have h2 := h ⟨⟨_, hs⟩⟩
  rw [hcls] at h2
  exact region_of_ha m hm hB.1 (HA.of_plain hs.drew _ _ _ (pick_ix l m 0 (fun j => by simp)) hB.2 h2)
theorem wpAllP_next {w0 : World} {N : List As} {n : Nat} {cl : List Nat} {a : Act} {w : World} (cs : List Nat) (hc : choices ops cl = cs)
    (h : ∀ c ∈ cs, ∃ o, ops[c]? = some o ∧ wpList P ops (fun e a' w' => e = .normal ∧ St w0 N w' ∧ wpAll (relP w0 N) P ops K (n + 1) (cl.erase c) a' w') [o] a w) : wpAll (relP w0 N) P ops K (n + 2) cl a w := by
  intro c hcm
  rw [hc] at hcm
  obtain ⟨o, ho, hl⟩ := h c hcm
  exact wpOp_of_list ho (wpList_post (fun a' w' ⟨h1, h2⟩ => ⟨fun _ => h1, fun w'' hw => by have hw : w' = w'' := hw; subst hw; exact h2⟩) hl)
theorem wpAll_last {cl : List Nat} {a : Act} {w : World} (cs : List Nat) (hc : choices ops cl = cs)
    (h : ∀ c ∈ cs, ∃ o, ops[c]? = some o ∧ wpList P ops (fun e a' w' => e = .normal ∧ K a' w') [o] a w) : wpAll T P ops K 1 cl a w := by
  intro c hcm
  rw [hc] at hcm
  obtain ⟨o, ho, hl⟩ := h c hcm
  exact wpOp_of_list ho hl
/-! ### .. where those that only read may call -/
theorem HA.of_quiet {C : Act → World → Prop} {w1 : World} : ∀ (l : List Oper) (ql : List Nat) (a : Act), l.map some = ql.map (ops[·]?) →
    (∀ wb, Grew w1 wb → wpQuiet P ops (Grew wb) (fun a' => ∀ w', Grew wb w' → C a' w') l a) → HA relG P ops C ql a w1
  | [], [], _, _, h => fun w hw => h w1 (Grew.refl _) w hw
  | [], _ :: _, _, e, _ => by simp at e
  | _ :: _, [], _, e, _ => by simp at e
  | o :: l, q :: ql, a, e, h => by
    simp only [List.map_cons, List.cons.injEq] at e
    by_cases hw : Region.wanted o (yielded ops a.tmps) = true
    · obtain ⟨v, h1, h2⟩ := quiet_uniform (K := fun wb => wpQuiet P ops (Grew wb) (fun a' => ∀ w', Grew wb w' → C a' w') l) (fun wb hb => by
        have := h wb hb
        unfold wpQuiet at this
        rwa [if_pos hw] at this)
      exact ⟨o, v, e.1.symm, .inl ⟨hw, h1⟩, HA.of_quiet l ql _ e.2 h2⟩
    · refine ⟨o, undef, e.1.symm, .inr ⟨by simpa using hw, rfl⟩, HA.of_quiet l ql _ e.2 fun wb hb => ?_⟩
      have := h wb hb
      unfold wpQuiet at this
      rwa [if_neg hw] at this
theorem wp_all_chain {id n : Nat} {Q : Exit → Act → World → Prop} {a : Act} {w : World} {l : List Oper} (m : List Bool) (hm : P.follows .mixedOrders = true) (hB : allB l.toArray (pickIx 0 l m) (chainIx 0 m) = true) (hn : (chainIx 0 m).length = n)
    (h : ∀ wb, Grew w wb → wpQuiet P l.toArray (fun w' => ∃ p : GW wb, w' = p.w) (fun a' => ∀ w', Grew wb w' → wpAll relG P l.toArray (fun a' w' => Q .normal a' w') n (chainIx 0 m) a' w') (pickOps l m) a) : (Code.region id l.toArray true).wp P Q a w := by
  subst hn
  have hcls : ∀ wb, (fun w' => ∃ p : GW wb, w' = p.w) = Grew wb := fun wb => funext fun w' => propext ⟨fun ⟨p, h⟩ => h ▸ p.grew, fun h => ⟨⟨w', h⟩, rfl⟩⟩
  refine region_of_ha m hm hB (HA.of_quiet _ _ _ (pick_ix l m 0 (fun j => by simp)) fun wb hb => ?_)
  have := h wb ⟨hb.os, hb.tape, hb.output, hb.size, hb.block⟩
  rw [hcls] at this
  exact this
theorem wpAll_next {n : Nat} {cl : List Nat} {a : Act} {w : World} (cs : List Nat) (hc : choices ops cl = cs)
    (h : ∀ c ∈ cs, ∃ o, ops[c]? = some o ∧ wpList P ops (fun e a' w' => e = .normal ∧ Grew w w' ∧ ∀ w'', Grew w' w'' → wpAll relG P ops K (n + 1) (cl.erase c) a' w'') [o] a w) : wpAll relG P ops K (n + 2) cl a w := by
  intro c hcm
  rw [hc] at hcm
  obtain ⟨o, ho, hl⟩ := h c hcm
  exact wpOp_of_list ho hl
end
end Go.Proofs.Ytkcbjkadalebjaa
