/-
  Operations of the walk over the state of XSl: loads, stores, new blocks, slices that are built, made and appended to. No program stands here.
-/
import Derived.Test.YtkcbjkadalebjaaSl
namespace Go.Proofs.Ytkcbjkadalebjaa
open Go Go.RowKit
section
variable {P : Program} {ops : Array Oper} {Q : Exit → Act → World → Prop} {a : Act} {w w0 : World} {rest : List Oper} {dst : Option Tmp} {ty : TypeId} {pos : String} {after : Array Edge} {L : List As}

/-- A type whose value is one cell. -/
def one1 (P : Program) (t : TypeId) : Bool := match P.underlying t with
  | some (.struct _) | some (.array _ _) | none => false
  | _ => true
theorem one1_agg {t : TypeId} (h : one1 P t = true) (w : World) : (isAgg t).run P w = .ok false w := by
  unfold one1 at h
  cases hu : P.underlying t with
  | none => rw [hu] at h; cases h
  | some d =>
    rw [hu] at h
    unfold isAgg
    rw [Sem.run_bind, run_underlying hu w]
    cases d <;> first | rfl | cases h

theorem wpl_load {t : TypeId} {x : Operand} {ad : Addr} {v : Value} (hx : a.eval x = .pointer (some ad)) (h1 : one1 P t = true) (hs : St w0 L w) (hr : Rd w0 L ad v)
    (next : wpList P ops Q rest (a.put dst v) w) : wpList P ops Q (⟨dst, .load t x, ty, pos, after, none⟩ :: rest) a w :=
  wpList_plain rfl fun K hK => by
    unfold Oper.wp execOp
    simp only [hx, Instr.loadAt, Instr.sureAddr, Sem.run_bind, Sem.run_pure, Result.andThen_ok, loadVar, one1_agg h1 w, Bool.false_eq_true, if_false, run_load, hr w hs]
    exact hK _ _ next

/-- A value of several cells out of a block. -/
theorem wpl_load_agg {t : TypeId} {x : Operand} {b o : Nat} {cs : List Value} (hx : a.eval x = .pointer (some ⟨b, o, none⟩)) (h1 : (match P.underlying t with | some (.struct _) | some (.array _ _) => true | _ => false) = true) (hsz : (P.info? t).map (·.size) = some cs.length) (hs : St w0 L w)
    (hr : ∀ j u, cs[j]? = some u → Rd w0 L ⟨b, o + j, none⟩ u) (next : wpList P ops Q rest (a.put dst (.agg cs.toArray)) w) : wpList P ops Q (⟨dst, .load t x, ty, pos, after, none⟩ :: rest) a w :=
  wpList_plain rfl fun K hK => by
    have hagg : (isAgg t).run P w = .ok true w := by
      cases hu : P.underlying t with
      | none => rw [hu] at h1; cases h1
      | some d =>
        rw [hu] at h1
        unfold isAgg
        rw [Sem.run_bind, run_underlying hu w]
        cases d <;> first | rfl | cases h1
    have hl : (loadCells ⟨b, o, none⟩ cs.length).run P w = .ok cs.toArray w := run_loadCells_list (P := P) w ⟨b, o, none⟩ cs fun j u hu => by
      rw [Addr.add_lit]; exact hr j u hu w hs
    cases hq : P.info? t with
    | none => rw [hq] at hsz; cases hsz
    | some i =>
      have hsz' : i.size = cs.length := by rw [hq] at hsz; simpa using hsz
      unfold Oper.wp execOp
      simp only [hx, Instr.loadAt, Instr.sureAddr, Sem.run_bind, Sem.run_pure, Result.andThen_ok, loadVar, hagg, if_true, sizeOf, typeInfo, run_program, hq, hsz', hl]
      exact hK _ _ next

theorem wpl_store {t : TypeId} {p x : Operand} {ad : Addr} {v : Value} {M : List As} (hp : a.eval p = .pointer (some ad)) (hx : a.eval x = v) (h1 : v.oneCell' = true) (hsz : (P.info? t).map (·.size) = some 1) (hs : St w0 L w) (hw : Wr w0 L ad v M)
    (next : ∀ w', St w0 M w' → wpList P ops Q rest a w') : wpList P ops Q (⟨none, .store t p x, ty, pos, after, none⟩ :: rest) a w :=
  wpList_plain rfl fun K hK => by
    obtain ⟨⟨u, hu⟩, hf, hs'⟩ := hw.use hs
    have hst : (store ad v).run P w = .ok () (w.setCell ad v) := by rw [run_store P w ad v .plain h1]; simp [hu, hf]
    have hc : v.cells = #[v] := by cases v <;> first | rfl | cases h1
    cases hq : P.info? t with
    | none => rw [hq] at hsz; cases hsz
    | some i =>
      have hsz' : i.size = 1 := by rw [hq] at hsz; simpa using hsz
      unfold Oper.wp execOp
      simp [hp, hx, Instr.storeAt, Instr.sureAddr, storeVar, hc, sizeOf, typeInfo, hq, hsz', storeCells, hst, Addr.add_zero']
      exact hK _ _ (next _ hs')

theorem wpl_box {t : TypeId} {x : Operand} (hs : St w0 L w)
    (next : ∀ g w', St w0 (blk g (a.eval x).cells t :: L) w' → wpList P ops Q rest (a.put dst (.pointer (some ⟨g, 0, none⟩))) w') : wpList P ops Q (⟨dst, .box t x, ty, pos, after, none⟩ :: rest) a w :=
  wpList_plain rfl fun K hK => by
    unfold Oper.wp execOp
    simp [Instr.box, newVar, newRow]
    exact hK _ _ (next _ _ (hs.alloc _ _))

theorem wpl_alloc {t : TypeId} {z : Value} (hz : (P.info? t).bind (·.zero) = some z) (hs : St w0 L w)
    (next : ∀ g w', St w0 (blk g z.cells t :: L) w' → wpList P ops Q rest (a.put dst (.pointer (some ⟨g, 0, none⟩))) w') : wpList P ops Q (⟨dst, .alloc t, ty, pos, after, none⟩ :: rest) a w :=
  wpList_plain rfl fun K hK => by
    cases hq : P.info? t with
    | none => rw [hq] at hz; cases hz
    | some i =>
      have hz' : i.zero = some z := by rw [hq] at hz; simpa using hz
      unfold Oper.wp execOp
      simp [Instr.alloc, zeroValue, typeInfo, hq, hz', newVar, newRow]
      exact hK _ _ (next _ _ (hs.alloc _ _))

/-- What an append must know of the slice's type t, the element's type e. -/
def ElemOk (P : Program) (t e : TypeId) (size bytes : Nat) : Prop := P.underlying t = some (.slice e) ∧ ∃ i z, P.info? e = some i ∧ i.zero = some z ∧ i.size = size ∧ i.bytes = bytes ∧ z.cells.size = size ∧ 0 < size
theorem ElemOk.of {t e : TypeId} {z : Value} {size bytes : Nat} (h1 : P.underlying t = some (.slice e)) (h2 : (P.info? e).map (fun i => (i.zero, i.size, i.bytes)) = some (some z, size, bytes)) (h3 : z.cells.size = size) (h4 : 0 < size) : ElemOk P t e size bytes := by
  refine ⟨h1, ?_⟩
  cases hq : P.info? e with
  | none => rw [hq] at h2; cases h2
  | some i =>
    rw [hq] at h2
    simp at h2
    exact ⟨i, z, rfl, h2.1, h2.2.1, h2.2.2, h3, h4⟩

theorem fill_one (l : List Value) : ∀ (k : Nat) (cs : Array Value), k + l.length = cs.size → ((l.zipIdx k).foldl (fun (cs : Array Value) (x : Value × Nat) => cs.setIfInBounds x.2 x.1) cs).toList = cs.toList.take k ++ l := by
  induction l with
  | nil => intro k cs h; simp at h; simp [h, List.take_of_length_le]
  | cons v l ih =>
    intro k cs h
    rw [List.zipIdx_cons, List.foldl_cons, ih (k + 1) _ (by simp at h ⊢; omega)]
    simp only [List.length_cons] at h
    have hk : k < cs.toList.length := by simp; omega
    rw [Array.toList_setIfInBounds, List.take_succ_eq_append_getElem (by simpa using hk), List.take_set_of_le (Nat.le_refl _)]
    simp
theorem run_build1 {t e : TypeId} {size bytes : Nat} (he : ElemOk P t e size bytes) (hb : size ≤ 16777216) (v : Value) (hv : v.cells.size = size) (w : World) :
    (Instr.buildSlice t 1 #[(0, v)]).run P w = .ok (.slice (some ⟨w.heap.size, 0, none⟩) 1 1) (w.alloc (.cells v.cells e)) := by
  obtain ⟨ht, i, z, hi, hz, hsize, hby, hzs, hsz⟩ := he
  have hf : ∀ cs : Array Value, cs.size = size → Instr.fill (fun i => some (i * size, size)) cs [(0, v)] = some v.cells := by
    intro cs hcs
    have h1 : ¬ ((decide (v.cells.size ≠ size) || decide (0 * size + v.cells.size > cs.size)) = true) := by simp; omega
    simp only [Instr.fill]
    rw [if_neg h1]
    congr 1
    have := fill_one v.cells.toList 0 cs (by simp; omega)
    simp only [Nat.zero_mul, Nat.zero_add]
    apply Array.toList_inj.1
    rw [← Array.foldl_toList, Array.toList_zipIdx]
    simpa using this
  have hlt : ¬ (1 * size > 2 ^ 24) := by omega
  have h0 : ¬ (1 * size = 0) := by omega
  simp only [Instr.buildSlice, Sem.run_bind, run_underlying ht w, Result.andThen_ok, sizeOf, typeInfo, run_program, hi, hsize, Sem.run_pure, if_neg hlt, if_neg h0, zeroValue, hz]
  rw [hf _ (by simp)]
  simp [newRow]
theorem wpl_build1 {t e : TypeId} {size bytes : Nat} {x : Operand} {v : Value} (he : ElemOk P t e size bytes) (hb : size ≤ 16777216) (hx : a.eval x = v) (hv : v.cells.size = size) (hs : St w0 L w)
    (next : ∀ g w', St w0 (blk g v.cells e :: L) w' → wpList P ops Q rest (a.put dst (.slice (some ⟨g, 0, none⟩) 1 1)) w') : wpList P ops Q (⟨dst, .buildSlice t 1 #[(0, x)], ty, pos, after, none⟩ :: rest) a w :=
  wpList_plain rfl fun K hK => by
    unfold Oper.wp execOp
    simp only [Sem.run_bind, List.map_toArray, List.map_cons, List.map_nil, hx, run_build1 he hb v hv w, Result.andThen_ok, Sem.run_pure]
    exact hK _ _ (next _ _ (hs.alloc _ _))
theorem fill_ones {size : Nat} (hsz : size = 1) : ∀ (l : List Value) (k : Nat) (cs : Array Value), k + l.length ≤ cs.size → (∀ v ∈ l, v.cells = #[v]) →
    Instr.fill (fun i => some (i * size, size)) cs ((l.zipIdx k).map fun x => (x.2, x.1)) = some (cs.toList.take k ++ l ++ cs.toList.drop (k + l.length)).toArray
  | [], k, cs, _, _ => by simp [Instr.fill]
  | v :: l, k, cs, h, hc => by
    subst hsz
    simp only [List.length_cons] at h
    have hv := hc v (by simp)
    have h1 : ¬ ((decide (v.cells.size ≠ 1) || decide (k * 1 + v.cells.size > cs.size)) = true) := by rw [hv]; simp; omega
    rw [List.zipIdx_cons, List.map_cons, Instr.fill]
    simp only
    rw [if_neg h1, hv]
    have e : (#[v].zipIdx.foldl (fun (cs : Array Value) (x : Value × Nat) => cs.setIfInBounds (k * 1 + x.2) x.1) cs) = cs.setIfInBounds k v := by simp
    rw [e, fill_ones rfl l (k + 1) _ (by simp; omega) fun u hu => hc u (by simp [hu])]
    congr 2
    rw [Array.toList_setIfInBounds, List.take_succ_eq_append_getElem (by simp only [List.length_set, Array.length_toList]; omega), List.take_set_of_le (Nat.le_refl _), List.drop_set_of_lt (by omega)]
    simp [Nat.add_comm, Nat.add_left_comm]
theorem run_buildN {t e : TypeId} {bytes : Nat} (he : ElemOk P t e 1 bytes) (vs : List Value) (hn : vs.length ≤ 16777216) (hn0 : 0 < vs.length) (hv : ∀ v ∈ vs, v.cells = #[v]) (w : World) :
    (Instr.buildSlice t vs.length ((vs.zipIdx 0).map fun x => (x.2, x.1)).toArray).run P w = .ok (.slice (some ⟨w.heap.size, 0, none⟩) vs.length vs.length) (w.alloc (.cells vs.toArray e)) := by
  obtain ⟨ht, i, z, hi, hz, hsize, hby, hzs, hsz⟩ := he
  have hlt : ¬ (vs.length * 1 > 2 ^ 24) := by omega
  have h0 : ¬ (vs.length * 1 = 0) := by omega
  simp only [Instr.buildSlice, Sem.run_bind, run_underlying ht w, Result.andThen_ok, sizeOf, typeInfo, run_program, hi, hsize, Sem.run_pure, if_neg hlt, if_neg h0, zeroValue, hz]
  rw [fill_ones rfl vs 0 _ (by simp) hv]
  simp only [Nat.zero_add, List.take_zero, List.nil_append]
  rw [List.drop_of_length_le (by simp)]
  simp [newRow]
/-- A slice of one-cell elements, written out. -/
theorem wpl_buildN {t e : TypeId} {bytes n : Nat} {parts : List (Nat × Operand)} {vs : List Value} (he : ElemOk P t e 1 bytes) (hp : parts.map (fun x => (x.1, a.eval x.2)) = (vs.zipIdx 0).map fun x => (x.2, x.1)) (hn : n = vs.length) (hb : vs.length ≤ 16777216) (hn0 : 0 < vs.length) (hv : ∀ v ∈ vs, v.cells = #[v]) (hs : St w0 L w)
    (next : ∀ g w', St w0 (blk g vs.toArray e :: L) w' → wpList P ops Q rest (a.put dst (.slice (some ⟨g, 0, none⟩) n n)) w') : wpList P ops Q (⟨dst, .buildSlice t n parts.toArray, ty, pos, after, none⟩ :: rest) a w :=
  wpList_plain rfl fun K hK => by
    subst hn
    unfold Oper.wp execOp
    simp only [Sem.run_bind, List.map_toArray, hp, run_buildN he vs hb hn0 hv w, Result.andThen_ok, Sem.run_pure]
    exact hK _ _ (next _ _ (hs.alloc _ _))

theorem run_append_own_st {t e ty : TypeId} {size bytes : Nat} {L' : List As} (he : ElemOk P t e size bytes) {A B : Option Addr} {n cap m c : Nat} {xs news : List Value} (hs : St w0 L w) (hsel : Ent L (own A n cap e size xs :: L'))
    (hr : RdS w0 L B news) (hl : news.length = m * size) (h1 : ∀ u ∈ news, u.oneCell' = true) (h63 : n + m ≤ maxLen) (hbytes : (n + m) * bytes ≤ 140737488355328) :
    ∃ A' cap' w', (Builtin.append_ #[t, t] ty #[.slice A n cap, .slice B m c]).run P w = .ok (.slice A' (n + m) cap') w' ∧ St w0 (own A' (n + m) cap' e size (xs ++ news) :: L') w' := by
  obtain ⟨ht, i, z, hi, hz, hsize, hby, hzs, hsz⟩ := he
  have hs' := hs.ent hsel
  have hrow := hs'.own_row
  by_cases hm : m = 0
  · subst hm
    have hn : news = [] := List.eq_nil_of_length_eq_zero (by simpa using hl)
    subst hn
    have hcap := hs'.own_len
    refine ⟨A, cap, w, ?_, by simpa using hs'⟩
    have hsc : ∀ g : Addr, (storeCells (g) [] 0).run P w = .ok () w := fun _ => rfl
    have hzero : (Builtin.firstCells size 0 (.slice B 0 c)).run P w = .ok #[] w := by
      cases B <;> simp [Builtin.firstCells, loadCells, loadCellsFrom]
    cases A with
    | none =>
      have : n = 0 ∧ cap = 0 := by
        obtain ⟨x, ⟨_, h⟩, _⟩ := hs'.heap
        rcases h with ⟨_, h1, h2, _⟩ | ⟨g, cur, h0, _⟩
        · exact ⟨h1, h2⟩
        · cases h0
      obtain ⟨rfl, rfl⟩ := this
      simp [Builtin.append_, run_underlying ht, sizeOf, typeInfo, hi, hsize, Builtin.lenOf, hzero]
    | some g => simp [Builtin.append_, run_underlying ht, sizeOf, typeInfo, hi, hsize, Builtin.lenOf, hzero, hcap.2.1, storeCells]
  · have hpos : 0 < news.length := by rw [hl]; exact Nat.mul_pos (by omega) hsz
    obtain ⟨b, o, rfl, _⟩ := hr.at_ hpos
    have hnews : ∀ j u, news[j]? = some u → w.cell? ((⟨b, o, none⟩ : Addr).add j) = some u := by
      intro j u hu
      obtain ⟨ad, he1, _, hrd⟩ := hr j u hu
      injection he1 with he1
      subst he1
      rw [Addr.add_lit]
      exact hrd w hs
    obtain ⟨v', w', hrun, h2, h3, h4, h5⟩ := run_append_own_at (P := P) w w0.heap.size t ty e i z size bytes ht hi hz hsize hby hzs hsz (.slice A n cap) n xs hrow ⟨b, o, none⟩ m c news hl hnews h1 h63 hbytes hs.below.size
    have hv : ∃ A' cap', v' = .slice A' (n + m) cap' := by
      rcases h2.2 with ⟨rfl, h0⟩ | ⟨g, cap', cur, rfl, _⟩
      · exact ⟨none, 0, by rw [h0]⟩
      · exact ⟨_, _, rfl⟩
    obtain ⟨A', cap', rfl⟩ := hv
    exact ⟨A', cap', w', hrun, hs'.own_grown h2 h3 h5⟩

theorem wpl_append {t e : TypeId} {size bytes : Nat} {L' : List As} {s x : Operand} (he : ElemOk P t e size bytes) {A B : Option Addr} {n cap m c : Nat} {xs news : List Value} (hsv : a.eval s = .slice A n cap) (hxv : a.eval x = .slice B m c)
    (hs : St w0 L w) (hsel : Ent L (own A n cap e size xs :: L'))
    (hr : RdS w0 L B news) (hl : news.length = m * size) (h1 : ∀ u ∈ news, u.oneCell' = true) (h63 : n + m ≤ maxLen) (hbytes : (n + m) * bytes ≤ 140737488355328)
    (next : ∀ A' cap' w', St w0 (own A' (n + m) cap' e size (xs ++ news) :: L') w' → wpList P ops Q rest (a.put dst (.slice A' (n + m) cap')) w') :
    wpList P ops Q (⟨dst, .call { callee := .builtin .append, args := #[s, x], argTypes := #[t, t] }, ty, pos, after, none⟩ :: rest) a w :=
  wpList_plain rfl fun K hK => by
    obtain ⟨A', cap', w', hrun, hs'⟩ := run_append_own_st (ty := ty) (c := c) he hs hsel hr hl h1 h63 hbytes
    unfold Oper.wp execOp
    simp only [resolve, invoke, builtin, Sem.run_bind, Sem.run_pure, Result.andThen_ok, List.map_toArray, List.map_cons, List.map_nil, hsv, hxv, hrun]
    exact hK _ _ (next A' cap' w' hs')

/-- append of nothing given: 'append(out)' does not come up; a nil source. -/
theorem wpl_make {t e : TypeId} {size bytes : Nat} {z : Value} {l c : Operand} {kl kc : IntKind} {n : Nat} (ht : P.underlying t = some (.slice e)) (hi : (P.info? e).map (fun i => (i.zero, i.size, i.bytes)) = some (some z, size, bytes)) (_hzs : z.cells.size = size)
    (hl : a.eval l = .int kl (n : Int)) (hc : a.eval c = .int kc (n : Int)) (hb : bytes * n ≤ 281474976710656) (h63 : n ≤ maxLen) (hs : St w0 L w)
    (next : ∀ g w', St w0 (own (some ⟨g, 0, none⟩) n n e size (madeCells z.cells (n * size)).toList :: L) w' → wpList P ops Q rest (a.put dst (.slice (some ⟨g, 0, none⟩) n n)) w') :
    wpList P ops Q (⟨dst, .makeSlice t l c, ty, pos, after, none⟩ :: rest) a w :=
  wpList_plain rfl fun K hK => by
    cases hq : P.info? e with
    | none => rw [hq] at hi; cases hi
    | some i =>
      rw [hq] at hi
      simp at hi
      obtain ⟨hz, hsz, hby⟩ := hi
      have hb' : (i.bytes : Int) * (n : Int) ≤ 281474976710656 := by
        have h : ((i.bytes * n : Nat) : Int) ≤ 281474976710656 := by rw [hby]; omega
        rwa [Int.natCast_mul] at h
      have hr := run_make (P := P) w t e i z ht hq hz kl kc n n (by omega) (by omega) hb' (by simp only [maxLen] at h63; omega)
      simp only [Int.toNat_natCast, hsz] at hr
      unfold Oper.wp execOp
      simp only [hl, hc, Sem.run_bind, hr, Result.andThen_ok, Sem.run_pure]
      refine hK _ _ (next _ _ ((hs.alloc _ _).conv fun h hx => ?_))
      have hsize : (madeCells z.cells (n * size)).size = n * size := by simp [madeCells]
      exact ⟨by rw [Array.length_toList, hsize], .inr ⟨_, _, rfl, Nat.le_refl _, h63, hsize, List.take_of_length_le (by rw [Array.length_toList, hsize]; exact Nat.le_refl _), hx⟩⟩

/-- An operation whose guard says yes. -/
theorem wpl_guard {o : Op} {gd : Option (Nat × Bool)} (hw : Region.wanted ⟨dst, o, ty, pos, after, gd⟩ (yielded ops a.tmps) = true) (next : wpList P ops Q (⟨dst, o, ty, pos, after, none⟩ :: rest) a w) : wpList P ops Q (⟨dst, o, ty, pos, after, gd⟩ :: rest) a w := by
  unfold wpList at next ⊢
  rw [if_pos hw]
  rw [if_pos (by simp [Region.wanted])] at next
  exact next
end

/-! ### Stores of several cells -/
def splice (xs : List Value) (o : Nat) (vs : List Value) : List Value := xs.take o ++ vs ++ xs.drop (o + vs.length)
theorem splice_length {xs : List Value} {o : Nat} {vs : List Value} (h : o + vs.length ≤ xs.length) : (splice xs o vs).length = xs.length := by
  simp [splice]; omega
/-- A store of some cells at a turns the assertions L into M. -/
def WrA (w0 : World) (L : List As) (a : Addr) (vs : List Value) (M : List As) : Prop := ∀ (P : Program) (K : List As) (w : World), St w0 (L ++ K) w → ∃ w', (storeCells a vs).run P w = .ok () w' ∧ St w0 (M ++ K) w'
theorem WrA.tail {w0 : World} {p : As} {L M : List As} {a : Addr} {vs : List Value} (h : WrA w0 L a vs M) : WrA w0 (p :: L) a vs (p :: M) := fun P K w hs => by
  obtain ⟨w', h1, h2⟩ := h P (p :: K) w (St.ent hs (Ent.push p L K))
  exact ⟨w', h1, h2.ent (Ent.pull p M K)⟩
theorem WrA.ent {w0 : World} {a : Addr} {vs : List Value} {L L' M M' : List As} (h : WrA w0 L' a vs M') (h1 : ∀ K, Ent (L ++ K) (L' ++ K)) (h2 : ∀ K, Ent (M' ++ K) (M ++ K)) : WrA w0 L a vs M := fun P K w hs => let ⟨w', x, y⟩ := h P K w (hs.ent (h1 K)); ⟨w', x, y.ent (h2 K)⟩
theorem WrA.conv {w0 : World} {a : Addr} {vs : List Value} {p q p' q' : As} {L : List As} (h : WrA w0 (p' :: L) a vs (q' :: L)) (h1 : ∀ x, p x → p' x) (h2 : ∀ x, q' x → q x) : WrA w0 (p :: L) a vs (q :: L) := h.ent (fun _ => Ent.head h1) (fun _ => Ent.head h2)
theorem WrA.use {w0 : World} {a : Addr} {vs : List Value} {L M : List As} {w : World} (h : WrA w0 L a vs M) (hs : St w0 L w) (P : Program) : ∃ w', (storeCells a vs).run P w = .ok () w' ∧ St w0 M w' := by
  have := h P [] w (by simpa using hs)
  simpa using this
theorem setRow_at (w : World) (g : Nat) (cs cs' : Array Value) (t : TypeId) (h : w.heap[g]? = some (.cells cs t (0, 0))) : (w.setRow g cs').heap[g]? = some (.cells cs' t (0, 0)) := setRow_heap w g cs cs' t _ h
theorem setRow_else (w : World) (g k : Nat) (cs' : Array Value) (h : k ≠ g) : (w.setRow g cs').heap[k]? = w.heap[k]? := by
  simp only [World.setRow, Array.getElem?_modify]
  rw [if_neg (by omega)]
theorem WrA.blk {w0 : World} {g o : Nat} {cs : List Value} {t : TypeId} {vs : List Value} {L : List As} (h : o + vs.length ≤ cs.length) (h1 : ∀ v ∈ vs, v.oneCell' = true) :
    WrA w0 (Ytkcbjkadalebjaa.blk g cs.toArray t :: L) ⟨g, o, none⟩ vs (Ytkcbjkadalebjaa.blk g (splice cs o vs).toArray t :: L) := fun P K w hs => by
  have hs' : St _ (Ytkcbjkadalebjaa.blk g cs.toArray t :: (L ++ K)) w := hs
  have hb := hs'.blk
  have hr := run_storeCells_at (P := P) g o t vs 0 cs.toArray w hb.2 (by simpa using h) h1
  refine ⟨_, hr, ?_⟩
  simp only [Nat.add_zero] at hr ⊢
  refine hs'.turn fun a ha _ => ⟨_, rfl, rfl, rfl, rfl, by simp [World.setRow], fun k hk hlt => ?_, fun k o' hk => ?_⟩
  · have hne : k ≠ g := by
      rintro rfl
      rw [show a = _ from ha] at hk
      simp at hk
    exact ⟨by simp [hne], setRow_else w g k _ hne⟩
  · split at hk
    · rename_i e
      subst e
      injection hk with hk
      subst hk
      exact ⟨hb.1, setRow_at w k _ _ t hb.2⟩
    · cases hk
theorem take_splice {xs ys : List Value} {n o : Nat} {vs : List Value} (h : ys.take n = xs) (hx : xs.length = n) (ho : o + vs.length ≤ n) : (splice ys o vs).take n = splice xs o vs := by
  subst h
  have hn : n ≤ ys.length := by rw [List.length_take] at hx; omega
  unfold splice
  apply List.ext_getElem?
  intro j
  simp only [List.getElem?_take, List.getElem?_append, List.length_append, List.length_take, List.getElem?_drop]
  by_cases hj : j < n
  · rw [if_pos hj]
    by_cases h1 : j < o
    · have e1 : j < min o ys.length := by omega
      have e2 : j < min o ys.length + vs.length := by omega
      have e3 : j < min o (min n ys.length) := by omega
      have e4 : j < min o (min n ys.length) + vs.length := by omega
      rw [if_pos e2, if_pos e1, if_pos e4, if_pos e3, if_pos h1, if_pos h1, if_pos hj]
    · have e1 : ¬ j < min o ys.length := by omega
      have e3 : ¬ j < min o (min n ys.length) := by omega
      have e5 : min o ys.length = o := by omega
      have e6 : min o (min n ys.length) = o := by omega
      rw [e5, e6]
      by_cases h2 : j < o + vs.length
      · rw [if_pos h2, if_pos h2, if_neg h1, if_neg h1]
      · rw [if_neg h2, if_neg h2]
        have e7 : o + vs.length + (j - (o + vs.length)) < n := by omega
        rw [if_pos e7]
  · rw [if_neg hj]
    have e6 : min o (min n ys.length) = o := by omega
    rw [e6, if_neg (by omega)]
    rw [if_neg (by omega)]
theorem WrA.own {w0 : World} {g n cap o : Nat} {e : TypeId} {size : Nat} {xs vs : List Value} {L : List As} (h : o + vs.length ≤ xs.length) (h1 : ∀ v ∈ vs, v.oneCell' = true) :
    WrA w0 (Ytkcbjkadalebjaa.own (some ⟨g, 0, none⟩) n cap e size xs :: L) ⟨g, o, none⟩ vs (Ytkcbjkadalebjaa.own (some ⟨g, 0, none⟩) n cap e size (splice xs o vs) :: L) := fun P K w hs => by
  have hs' : St _ (Ytkcbjkadalebjaa.own (some ⟨g, 0, none⟩) n cap e size xs :: (L ++ K)) w := hs
  obtain ⟨a, ⟨hl, hx⟩, hh⟩ := hs'.heap
  rcases hx with ⟨h0, _⟩ | ⟨g', cur, hg, h2, h3, h4, h5, h6⟩
  · cases h0
  injection hg with hg
  injection hg with hg
  subst hg
  have hc := hh g (.cells cur e (0, 0)) (by rw [show a = _ from h6]; simp)
  have hcur : n * size ≤ cur.size := by rw [h4]; exact Nat.mul_le_mul_right _ h2
  have hr := run_storeCells_at (P := P) g o e vs 0 cur w hc.2 (by omega) h1
  refine ⟨_, hr, ?_⟩
  simp only [Nat.add_zero] at hr ⊢
  refine hs'.turn fun b hb _ => ⟨fun j => if j = g then some (.cells (splice cur.toList o vs).toArray e (0, 0)) else none, ?_, rfl, rfl, rfl, by simp [World.setRow], fun j hj hlt => ?_, fun j o' hj => ?_⟩
  · refine ⟨by rw [splice_length h]; exact hl, .inr ⟨g, _, rfl, h2, h3, ?_, ?_, rfl⟩⟩
    · rw [← h4]
      have : (splice cur.toList o vs).length = cur.toList.length := splice_length (by simp; omega)
      simpa using this
    · exact take_splice h5 hl (by omega)
  · rcases hb.2 with ⟨h0, _⟩ | ⟨g', cur', hg', _, _, _, _, h6'⟩
    · cases h0
    injection hg' with hg'
    injection hg' with hg'
    subst hg'
    have hne : j ≠ g := by
      rintro rfl
      rw [show b = _ from h6'] at hj
      simp at hj
    exact ⟨by simp [hne], setRow_else w g j _ hne⟩
  · have hj' : (if j = g then some (Obj.cells (splice cur.toList o vs).toArray e) else none) = some o' := hj
    clear hj
    split at hj'
    · rename_i e'
      subst e'
      injection hj' with hj'
      subst hj'
      exact ⟨hc.1, setRow_at w j _ _ e hc.2⟩
    · cases hj'
section
variable {P : Program} {ops : Array Oper} {Q : Exit → Act → World → Prop} {a : Act} {w w0 : World} {rest : List Oper} {ty : TypeId} {pos : String} {after : Array Edge} {L : List As}
theorem wpl_store_agg {t : TypeId} {p x : Operand} {ad : Addr} {v : Value} {M : List As} (hp : a.eval p = .pointer (some ad)) (hx : a.eval x = v) (hsz : (P.info? t).map (·.size) = some v.cells.size) (hs : St w0 L w) (hw : WrA w0 L ad v.cells.toList M)
    (next : ∀ w', St w0 M w' → wpList P ops Q rest a w') : wpList P ops Q (⟨none, .store t p x, ty, pos, after, none⟩ :: rest) a w :=
  wpList_plain rfl fun K hK => by
    obtain ⟨w', hst, hs'⟩ := hw.use hs P
    cases hq : P.info? t with
    | none => rw [hq] at hsz; cases hsz
    | some i =>
      have hsz' : v.cells.size = i.size := by rw [hq] at hsz; simp at hsz; omega
      unfold Oper.wp execOp
      simp [hp, hx, Instr.storeAt, Instr.sureAddr, storeVar, sizeOf, typeInfo, hq, hsz', hst]
      exact hK _ _ (next _ hs')
end
end Go.Proofs.Ytkcbjkadalebjaa
