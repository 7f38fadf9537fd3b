/-
  More operations of the walk over the state of XSl: results that lie in slots in memory. No program stands here.
-/
import Derived.Test.YtkcbjkadalebjaaOps
import Derived.Test.YtkcbjkadalebjaaRegion
import Derived.Lib.AppendZerosOnto
namespace Go.Proofs.Ytkcbjkadalebjaa
open Go Go.RowKit

theorem wp_gen {P : Program} {c : Code} {Q : Exit → Act → World → Prop} {a : Act} {w : World} {R : World → Prop} (hr : R w) (h : ∀ w, R w → c.wp P Q a w) : c.wp P Q a w := h w hr
theorem splice_all {cs vs : List Value} (h : cs.length = vs.length) : splice cs 0 vs = vs := by simp [splice, ← h]
def aggB (P : Program) (t : TypeId) : Bool := match P.underlying t with
  | some (.struct _) | some (.array _ _) => true
  | _ => false
theorem run_loadVar_agg {P : Program} {t : TypeId} {b o : Nat} {cs : List Value} {w : World} (h1 : aggB P t = true) (hsz : (P.info? t).map (·.size) = some cs.length) (hr : ∀ j u, cs[j]? = some u → w.cell? ⟨b, o + j, none⟩ = some u) :
    (loadVar t ⟨b, o, none⟩).run P w = .ok (.agg cs.toArray) w := by
  have hagg : (isAgg t).run P w = .ok true w := by
    unfold aggB at h1
    cases hu : P.underlying t with
    | none => rw [hu] at h1; cases h1
    | some d =>
      rw [hu] at h1
      unfold isAgg
      rw [Sem.run_bind, run_underlying hu w]
      cases d <;> first | rfl | cases h1
  have hl : (loadCells ⟨b, o, none⟩ cs.length).run P w = .ok cs.toArray w := run_loadCells_list (P := P) w ⟨b, o, none⟩ cs fun j u hu => by rw [Addr.add_lit]; exact hr j u hu
  cases hq : P.info? t with
  | none => rw [hq] at hsz; cases hsz
  | some i =>
    have hsz' : i.size = cs.length := by rw [hq] at hsz; simpa using hsz
    simp only [loadVar, Sem.run_bind, hagg, Result.andThen_ok, if_true, sizeOf, typeInfo, run_program, hq, hsz', hl, Sem.run_pure]
/-- A slot of one's own, known whole. -/
theorem St.slot_run {P : Program} {w0 w : World} {t : TypeId} {g : Nat} {cs : List Value} {L : List As} (h1 : aggB P t = true) (hsz : (P.info? t).map (·.size) = some cs.length) (hs : St w0 (Ytkcbjkadalebjaa.blk g cs.toArray t :: L) w) : (loadVar t ⟨g, 0, none⟩).run P w = .ok (.agg cs.toArray) w :=
  run_loadVar_agg h1 hsz fun j u hu => by
    have := Rd.blk (w0 := w0) (g := g) (k := j) (cs := cs.toArray) (t := t) (v := u) (L := L) (by simpa using hu) w hs
    rwa [Nat.zero_add]
theorem results_cell1 {fn : Func} {s : Tmp} {t : TypeId} (h : fn.results = #[.cell s t]) {tmps : Array Value} {P : Program} {w : World} {g : Nat} {v : Value} (hp : tmps.getD s undef = .pointer (some ⟨g, 0, none⟩)) (hr : (loadVar t ⟨g, 0, none⟩).run P w = .ok v w) :
    (results fn tmps).run P w = .ok v w := by
  rw [Array.getD_eq_getD_getElem?] at hp
  simp [results, h, hp, asAddr, hr]
theorem results_cell_tmp {fn : Func} {s u : Tmp} {t : TypeId} (h : fn.results = #[.cell s t, .tmp u]) {tmps : Array Value} {P : Program} {w : World} {g : Nat} {v : Value} (hp : tmps.getD s undef = .pointer (some ⟨g, 0, none⟩)) (hr : (loadVar t ⟨g, 0, none⟩).run P w = .ok v w) :
    (results fn tmps).run P w = .ok (.tuple #[v, tmps.getD u undef]) w := by
  rw [Array.getD_eq_getD_getElem?] at hp
  simp [results, h, hp, asAddr, hr]
theorem results_cell_tmp2 {fn : Func} {s u u' : Tmp} {t : TypeId} (h : fn.results = #[.cell s t, .tmp u, .tmp u']) {tmps : Array Value} {P : Program} {w : World} {g : Nat} {v : Value} (hp : tmps.getD s undef = .pointer (some ⟨g, 0, none⟩)) (hr : (loadVar t ⟨g, 0, none⟩).run P w = .ok v w) :
    (results fn tmps).run P w = .ok (.tuple #[v, tmps.getD u undef, tmps.getD u' undef]) w := by
  rw [Array.getD_eq_getD_getElem?] at hp
  simp [results, h, hp, asAddr, hr]
theorem bodyPost_at {P : Program} {fn : Func} {R : Ending → World → Prop} {a : Act} {w : World} {v : Value} (hr : (results fn a.tmps).run P w = .ok v w) (hd : a.defers = []) (h : R (.returned v) w) : bodyPost P fn R .ret a w := ⟨hd, v, hr, h⟩
theorem wpl_box_v {P : Program} {ops : Array Oper} {Q : Exit → Act → World → Prop} {a : Act} {w w0 : World} {rest : List Oper} {dst : Option Tmp} {ty : TypeId} {pos : String} {after : Array Edge} {L : List As} {t : TypeId} {x : Operand} {v : Value} (hx : a.eval x = v) (hs : St w0 L w)
    (next : ∀ g w', St w0 (Ytkcbjkadalebjaa.blk g v.cells t :: L) w' → wpList P ops Q rest (a.put dst (.pointer (some ⟨g, 0, none⟩))) w') : wpList P ops Q (⟨dst, .box t x, ty, pos, after, none⟩ :: rest) a w := by
  subst hx; exact wpl_box hs next

/-! ### 'append(s, make([]T, m)...)' -/
theorem run_append_zeros_st {P : Program} {w0 w : World} {t tn e ty : TypeId} {size bytes : Nat} {z : Value} {kn kq : IntKind} {L : List As} (he : ElemOk P t e size bytes) (hz : (P.info? e).bind (·.zero) = some z) (htn : P.underlying tn = some (.int kn))
    {A : Option Addr} {n cap m : Nat} {xs : List Value} (hs : St w0 (own A n cap e size xs :: L) w) (hm : 0 < m) (h1 : ∀ u ∈ (Builtin.zeroCells z.cells m).toList, u.oneCell' = true) (h63 : n + m ≤ maxLen) (hbytes : (n + m) * bytes ≤ 140737488355328) :
    ∃ A' cap' w', (Builtin.append_ #[t, tn] ty #[.slice A n cap, .int kq (m : Nat)]).run P w = .ok (.slice A' (n + m) cap') w' ∧ St w0 (own A' (n + m) cap' e size (xs ++ (Builtin.zeroCells z.cells m).toList) :: L) w' := by
  obtain ⟨ht, i, z', hi, hz', hsize, hby, hzs, hsz⟩ := he
  obtain rfl : z' = z := by rw [hi] at hz; simpa [hz'] using hz
  have hrow := hs.own_row
  have hbase := hs.below.size
  subst hsize
  subst hby
  have hsmall : n + m ≤ 9223372036854775807 := by simp only [maxLen] at h63; omega
  have hl : (Builtin.zeroCells z'.cells m).toList.length = m * i.size := by rw [Array.length_toList, size_zeroCells, hzs]
  have hlen : (xs ++ (Builtin.zeroCells z'.cells m).toList).length = (n + m) * i.size := by rw [List.length_append, hrow.1, hl, Nat.add_mul]
  have grown : ∀ (old : Nat), old < n + m → ∀ (row : Option Nat),
      (w.drew.alloc (.cells (xs.toArray ++ Builtin.zeroCells z'.cells m ++ Builtin.zeroCells z'.cells (grownCap w (n + m) old e - (n + m))) e)).ownsRow w0.heap.size e i.size
        (.slice (some ⟨w.heap.size, 0, none⟩) (n + m) (grownCap w (n + m) old e)) (n + m) (xs ++ (Builtin.zeroCells z'.cells m).toList) ∧
      w.grownBy (w.drew.alloc (.cells (xs.toArray ++ Builtin.zeroCells z'.cells m ++ Builtin.zeroCells z'.cells (grownCap w (n + m) old e - (n + m))) e)) row := by
    intro old ho row
    have hge := grownCap_ge w (n + m) old e
    have hcm : grownCap w (n + m) old e ≤ maxLen := grownCap_le_maxLen w (n + m) old e h63
    refine ⟨⟨hlen, .inr ⟨w.heap.size, _, _, rfl, hbase, heap_alloc_new w.drew _, hge, hcm, ?_, ?_⟩⟩, ⟨rfl, rfl, rfl, by simp, fun k hk _ => Below.heap_alloc w.drew _ k hk⟩⟩
    · simp only [Array.size_append, List.size_toArray, size_zeroCells, hzs, hrow.1, ← Nat.add_mul]
      congr 1
      omega
    · simp only [Array.toList_append]
      rw [← hlen]
      exact List.take_left
  rcases hrow.2 with ⟨hv, hn0⟩ | ⟨g, cap0, cur, hv, hbg, hg, hnc, hcm, hcs, htake⟩
  · injection hv with hA hn' hc'
    subst hA; subst hc'; subst hn0
    have hx : xs = [] := List.eq_nil_of_length_eq_zero (by simpa using hrow.1)
    subst hx
    have hr := Lib.run_append_nil_zeros (P := P) w t tn ty e i z' kq kn ht htn hi hz' m hm hsz (by omega) (by simp only [Nat.zero_add] at hbytes; omega)
    have hgr := grown 0 (by omega) (Value.ownBlock (.slice none 0 0))
    simp only [Nat.zero_add, List.nil_append, Array.empty_append] at hgr ⊢
    exact ⟨_, _, _, hr, hs.own_grown hgr.1 hgr.2 (.inr rfl)⟩
  · injection hv with hA _ hcap
    subst hA; subst hcap
    by_cases hroom : n + m ≤ cap
    · have hfit : n * i.size + (Builtin.zeroCells z'.cells m).toList.length ≤ cur.size := by rw [hl, hcs, ← Nat.add_mul]; exact Nat.mul_le_mul_right _ hroom
      have hst := run_storeCells_at P g (n * i.size) e (Builtin.zeroCells z'.cells m).toList 0 cur w hg (by simpa using hfit) h1
      simp only [Nat.add_zero] at hst
      have hk : m ≠ 0 := by omega
      have hw : IntKind.i64.wrap (m : Int) = m := by rw [IntKind.wrap_i64]; omega
      have h48i : ¬ (281474976710656 < (m : Int) * (i.bytes : Int)) := by
        rw [← Int.natCast_mul]
        have : m * i.bytes ≤ (n + m) * i.bytes := Nat.mul_le_mul_right _ (by omega)
        omega
      have hneg : ¬ ((m : Int) < 0) := by omega
      have hns : ¬ (m * i.size = 0) := Nat.mul_ne_zero hk (by omega)
      have hr : (Builtin.append_ #[t, tn] ty #[.slice (some ⟨g, 0, none⟩) n cap, .int kq (m : Nat)]).run P w = .ok (.slice (some ⟨g, 0, none⟩) (n + m) cap) (w.setRow g (cur.toList.take (n * i.size) ++ (Builtin.zeroCells z'.cells m).toList ++ cur.toList.drop (n * i.size + (Builtin.zeroCells z'.cells m).toList.length)).toArray) := by
        simp [Builtin.append_, run_underlying ht, run_underlying htn, sizeOf, typeInfo, zeroValue, hi, hz', asInt, asIntOf, hw, hneg, hns, h48i, hroom, Addr.add_lit, hst]
      refine ⟨_, _, _, hr, hs.own_grown ⟨hlen, .inr ⟨g, cap, _, rfl, hbg, setRow_heap w g cur _ e _ hg, hroom, hcm, ?_, ?_⟩⟩ ⟨rfl, rfl, rfl, by simp, fun k _ hk => setRow_other w g k _ (fun e => hk (by simp [Value.ownBlock, e]))⟩ (.inl rfl)⟩
      · simp only [List.size_toArray, List.length_append, List.length_take, List.length_drop, Array.length_toList]
        simp only [Array.length_toList] at hl hfit
        omega
      · rw [htake, ← hlen]
        exact List.take_left
    · have holds : ∀ j u, xs[j]? = some u → w.cell? ((⟨g, 0, none⟩ : Addr).add j) = some u := hrow.cells (g := g) rfl
      have hf := run_firstCells_some (P := P) w.drew i.size n ⟨g, 0, none⟩ n cap xs hrow.1 holds
      have hr := Lib.run_append_grow_zeros (P := P) w t tn ty e i z' kq kn ht htn hi hz' (some ⟨g, 0, none⟩) n cap xs hf m hm hsz (by omega) (by omega)
        (by have : m * i.bytes ≤ (n + m) * i.bytes := Nat.mul_le_mul_right _ (by omega)
            omega) (growslice_fits (by omega) hbytes)
      have hgr := grown cap (by omega) (Value.ownBlock (.slice (some ⟨g, 0, none⟩) n cap))
      exact ⟨_, _, _, hr, hs.own_grown hgr.1 hgr.2 (.inr rfl)⟩
section
variable {P : Program} {ops : Array Oper} {Q : Exit → Act → World → Prop} {a : Act} {w w0 : World} {rest : List Oper} {dst : Option Tmp} {ty : TypeId} {pos : String} {after : Array Edge} {L : List As}
theorem wpl_append_zeros {t tn e : TypeId} {size bytes : Nat} {z : Value} {kn kq : IntKind} {s x : Operand} (he : ElemOk P t e size bytes) (hz : (P.info? e).bind (·.zero) = some z) (htn : P.underlying tn = some (.int kn))
    {A : Option Addr} {n cap m : Nat} {xs : List Value} (hsv : a.eval s = .slice A n cap) (hxv : a.eval x = .int kq (m : Nat)) (hs : St w0 (own A n cap e size xs :: L) w) (hm : 0 < m) (h1 : ∀ u ∈ (Builtin.zeroCells z.cells m).toList, u.oneCell' = true) (h63 : n + m ≤ maxLen) (hbytes : (n + m) * bytes ≤ 140737488355328)
    (next : ∀ A' cap' w', St w0 (own A' (n + m) cap' e size (xs ++ (Builtin.zeroCells z.cells m).toList) :: L) w' → wpList P ops Q rest (a.put dst (.slice A' (n + m) cap')) w') :
    wpList P ops Q (⟨dst, .call { callee := .builtin .append, args := #[s, x], argTypes := #[t, tn] }, ty, pos, after, none⟩ :: rest) a w :=
  wpList_plain rfl fun K hK => by
    obtain ⟨A', cap', w', hrun, hs'⟩ := run_append_zeros_st (ty := ty) (kq := kq) he hz htn hs hm h1 h63 hbytes
    unfold Oper.wp execOp
    simp only [resolve, invoke, builtin, Sem.run_bind, Sem.run_pure, Result.andThen_ok, List.map_toArray, List.map_cons, List.map_nil, hsv, hxv, hrun]
    exact hK _ _ (next A' cap' w' hs')
end
end Go.Proofs.Ytkcbjkadalebjaa
