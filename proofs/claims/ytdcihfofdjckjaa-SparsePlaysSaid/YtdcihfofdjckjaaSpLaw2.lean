/-
  The statements of values at their places: SparseBack.
-/
import Derived.Test.YtdcihfofdjckjaaSpLaw
import Derived.Lib.SmallJoins
set_option maxRecDepth 100000
namespace Go.Proofs.Ytdcihfofdjckjaa
open Go Go.RowKit
attribute [local irreducible] wpList Calls Code.wp

/-! ### What is put, what is taken: as a map -/
theorem okI_nat {k : Nat} (hk : k < 65536) : okI (k : Int) = true := decide_eq_true (by omega)
theorem SpOk.put2 {S : List Nat} {vs : List V3} (h : SpOk S vs) {k : Nat} (hk : k < 65536) (v : V3) : SpOk (pS S (k : Int)) (pV vs (k : Int) v) := by
  unfold pS pV
  rw [okI_nat hk]
  simp only [if_true, Int.toNat_natCast]
  exact (h.room2 hk).put (by rw [roomV_len h hk]; exact (h.up hk).2.1) v
theorem SpOk.take2 {S : List Nat} {vs : List V3} (h : SpOk S vs) (k : Int) : SpOk (tS S k) (tV S vs k) := by
  unfold tS tV
  cases hm : memS S k with
  | false => exact h
  | true =>
    obtain ⟨j, rfl, _⟩ := memS_in hm
    exact h.take j
theorem mem_pS {S : List Nat} {k : Nat} (hk : k < 65536) (j : Int) : memS (pS S (k : Int)) j = (decide (j = k) || memS S j) := by
  rw [pS_in hk, Bool.eq_iff_iff]
  simp only [Bool.or_eq_true, decide_eq_true_eq, memS, List.any_eq_true, beq_iff_eq]
  constructor
  · rintro ⟨a, ha, rfl⟩
    rcases mem_insS.1 ha with rfl | ha
    · exact .inl rfl
    · exact .inr ⟨a, ha, rfl⟩
  · rintro (rfl | ⟨a, ha, rfl⟩)
    · exact ⟨k, mem_insS.2 (.inl rfl), rfl⟩
    · exact ⟨a, mem_insS.2 (.inr ha), rfl⟩
theorem mem_tS {S : List Nat} {k : Int} (j : Int) : memS (tS S k) j = (!decide (j = k) && memS S j) := by
  unfold tS
  cases hm : memS S k with
  | false =>
    by_cases e : j = k
    · subst e; simp [hm]
    · simp [e]
  | true =>
    obtain ⟨q, rfl, hq⟩ := memS_in hm
    rw [if_pos rfl, Bool.eq_iff_iff]
    simp only [Bool.and_eq_true, Bool.not_eq_true', decide_eq_false_iff_not, memS, List.any_eq_true, beq_iff_eq, Int.toNat_natCast]
    constructor
    · rintro ⟨a, ha, rfl⟩
      have := mem_delS.1 ha
      exact ⟨by omega, a, this.1, rfl⟩
    · rintro ⟨hne, a, ha, rfl⟩
      exact ⟨a, mem_delS.2 ⟨ha, by omega⟩, rfl⟩
theorem get_pV {S : List Nat} {vs : List V3} (h : SpOk S vs) {k : Nat} (hk : k < 65536) (v : V3) (j : Int) : getV (pS S (k : Int)) (pV vs (k : Int) v) j = if j = k then v else getV S vs j := by
  have hl : k < (roomV vs k).length := by rw [roomV_len h hk]; exact (h.up hk).2.1
  have e : pV vs (k : Int) v = (roomV vs k).set k v := by unfold pV; rw [okI_nat hk]; simp
  unfold getV
  rw [mem_pS hk, e]
  by_cases ej : j = k
  · subst ej
    simp [List.getD, hl]
  · rw [if_neg ej, decide_eq_false ej, Bool.false_or]
    cases hm : memS S j with
    | false => rfl
    | true =>
      obtain ⟨q, rfl, hq⟩ := memS_in hm
      have := h.room q hq
      have hne : k ≠ q := by omega
      simp only [if_true, Int.toNat_natCast, List.getD]
      rw [List.getElem?_set_ne hne, roomV, List.getElem?_append_left this]
theorem get_tV {S : List Nat} {vs : List V3} {k : Int} (j : Int) : getV (tS S k) (tV S vs k) j = if j = k then V3.z else getV S vs j := by
  unfold getV
  rw [mem_tS]
  by_cases ej : j = k
  · subst ej; simp
  · rw [if_neg ej, decide_eq_false ej, Bool.not_false, Bool.true_and]
    cases hm : memS S j with
    | false => rfl
    | true =>
      obtain ⟨q, rfl, hq⟩ := memS_in hm
      unfold tV
      cases hk : memS S k with
      | false => rfl
      | true =>
        obtain ⟨p, rfl, _⟩ := memS_in hk
        have hne : p ≠ q := by omega
        simp only [if_true, Int.toNat_natCast, List.getD]
        rw [List.getElem?_set_ne hne]
theorem open_v3 {H : Type} {enc : TypeId × Value → H} {w : World} {base b0 : Nat} {sp : Nat → Bool} {held : Bool} {r : Reach} {v : Value} {d : DataW H} {ps : List MemPlace} (hv : Value.okWide Try.prog w r b0 26 v) (h : DataW.Trod enc Try.prog w base sp held 26 v d ps) : ∃ x : V3, v = val3 x := by
  obtain ⟨c0, c1, c2, y0, y1, y2, m, rfl, _, _, h0, h1, h2⟩ := Joins.open_agg3 Try.underlying26 (by kernel_rfl) (by kernel_rfl) hv h
  obtain ⟨n0, e0, _⟩ := DataW.trod_int Try.underlying3 h0
  obtain ⟨n1, e1, _⟩ := DataW.trod_int Try.underlying2 h1
  obtain ⟨n2, e2, _⟩ := DataW.trod_int Try.underlying2 h2
  simp only [List.cons.injEq, and_true] at e0 e1 e2
  subst e0; subst e1; subst e2
  exact ⟨⟨n0, n1, n2⟩, rfl⟩
theorem xor_one {k : Nat} (hk : k < 65536) : bits .xor .i64 (k : Int) 1 = ((k ^^^ 1 : Nat) : Int) ∧ k ^^^ 1 < 65536 ∧ k ^^^ 1 ≠ k := by
  have hx : k ^^^ 1 < 2 ^ 16 := Nat.xor_lt_two_pow (by omega) (by decide)
  refine ⟨?_, hx, ?_⟩
  · show IntKind.i64.wrap ((BitVec.ofInt 64 (k : Int) ^^^ BitVec.ofInt 64 1).toNat : Int) = _
    rw [BitVec.toNat_xor, ofInt_u64 k (by omega), show (BitVec.ofInt 64 1).toNat = 1 by decide, IntKind.wrap_i64]
    omega
  · intro h
    have : (k ^^^ 1).testBit 0 = k.testBit 0 := by rw [h]
    rw [Nat.testBit_xor] at this
    simp at this
/-- A value of three numbers stands in a block. -/
def Has3 (w0 : World) (L : List As) (g : Nat) (v : V3) : Prop := ∀ j x, (c3 v)[j]? = some x → Rd w0 L ⟨g, 0 + j, none⟩ x
theorem has3_here {w0 : World} {L : List As} {g : Nat} {v : V3} {t : TypeId} : Has3 w0 (Ytdcihfofdjckjaa.blk g (val3 v).cells t :: L) g v := fun j x hx => by
  rw [Nat.zero_add]
  exact Rd.blk (show (c3 v).toArray[j]? = some x by simpa using hx)
theorem has3_slot {w0 : World} {L : List As} {g : Nat} {v : V3} {t : TypeId} : Has3 w0 (Ytdcihfofdjckjaa.blk g (c3 v).toArray t :: L) g v := has3_here
theorem has3_tail {w0 : World} {L : List As} {g : Nat} {v : V3} {p : As} (h : Has3 w0 L g v) : Has3 w0 (p :: L) g v := fun j x hx => (h j x hx).tail
theorem Has3.facts {w0 w : World} {L : List As} {g : Nat} {v : V3} (h : Has3 w0 L g v) (hs : St w0 L w) : w.cell? ⟨g, 0, none⟩ = some (.int .i64 v.k) ∧ w.cell? ⟨g, 1, none⟩ = some (.int .i64 v.a) ∧ w.cell? ⟨g, 2, none⟩ = some (.int .i64 v.b) :=
  ⟨h 0 _ rfl w hs, h 1 _ rfl w hs, h 2 _ rfl w hs⟩
theorem size3n : (Try.prog.info? 26).map (·.size) = some 3 := by kernel_rfl
theorem wpl_load3 {P : Program} {ops : Array Oper} {Q : Exit → Act → World → Prop} {a : Act} {w w0 : World} {rest : List Oper} {dst : Option Tmp} {ty : TypeId} {pos : String} {after : Array Edge} {L : List As} {t : TypeId} {x : Operand} {g : Nat} {v : V3} (hx : a.eval x = .pointer (some ⟨g, 0, none⟩)) (hh : Has3 w0 L g v) (h1 : aggB P t = true) (hsz : (P.info? t).map (·.size) = some 3) (hs : St w0 L w)
    (next : wpList P ops Q rest (a.put dst (val3 v)) w) : wpList P ops Q (⟨dst, .load t x, ty, pos, after, none⟩ :: rest) a w :=
  wpl_load_agg (cs := c3 v) hx h1 hsz hs hh next
theorem sp_take_v {w0 w : World} {L : List As} {D T : Nat} {S : List Nat} {vs : List V3} (hs : St w0 (SpB D T S vs :: L) w) {i : Int} {u : V3} {b : Bool} {S' : List Nat} {vs' : List V3} (hu : Hid (getV S vs i = u)) (hb : Hid (memS S i = b)) (hS : Hid (tS S i = S')) (hV : Hid (tV S vs i = vs')) :
    Calls Try.prog 16 #[.pointer (some ⟨D, 0, none⟩), .int .i64 i] w fun e w' => e = .returned (.tuple #[val3 u, .bool b]) ∧ St w0 (SpB D T S' vs' :: L) w' := by
  rw [← hu.out, ← hb.out, ← hS.out, ← hV.out]; exact sp_take hs i
theorem back_one {p q : Nat} (hp : p < 65536) (hq : q < 65536) (hne : p ≠ q) : tS (pS (pS (pS [] (p : Int)) (q : Int)) (p : Int)) (p : Int) = [q] := by
  rw [pS_in hp, pS_in hq, pS_in hp]
  have h1 : insS p ([] : List Nat) = [p] := rfl
  have h2 : (insS q [p]).Pairwise (· < ·) := sorted_insS (by simp)
  rw [h1, ins_id h2 (mem_insS.2 (.inr (by simp)))]
  have h3 : memS (insS q [p]) (p : Int) = true := memS_nat.2 (mem_insS.2 (.inr (by simp)))
  unfold tS
  rw [h3, if_pos rfl, Int.toNat_natCast]
  have hqp : ¬ q = p := fun h => hne h.symm
  unfold insS delS
  by_cases h : q < p
  · rw [if_pos h]; simp [hqp]
  · rw [if_neg h, if_neg hqp]; simp [insS, hqp]
structure Back (p q : Nat) (a b c : V3) (S1 S2 S3 : List Nat) (V1 V2 V3' V4 : List V3) (u7 : V3) : Prop where
  e1 : pS [] (p : Int) = S1
  f1 : pV [] (p : Int) a = V1
  g1 : getV [] [] (p : Int) = V3.z
  m1 : memS [] (p : Int) = false
  e2 : pS S1 (q : Int) = S2
  f2 : pV V1 (q : Int) b = V2
  g2 : getV S1 V1 (q : Int) = V3.z
  m2 : memS S1 (q : Int) = false
  e3 : pS S2 (p : Int) = S3
  f3 : pV V2 (p : Int) c = V3'
  g3 : getV S2 V2 (p : Int) = a
  m3 : memS S2 (p : Int) = true
  e4 : tS S3 (p : Int) = [q]
  f4 : tV S3 V3' (p : Int) = V4
  g4 : getV S3 V3' (p : Int) = c
  m4 : memS S3 (p : Int) = true
  g5 : getV [q] V4 (p : Int) = V3.z
  m5 : memS [q] (p : Int) = false
  g6 : getV [q] V4 (q : Int) = b
  m6 : memS [q] (q : Int) = true
  g7 : getV [q] V4 65536 = u7
  m7 : memS [q] 65536 = false
  e7 : pS [q] 65536 = [q]
  f7 : pV V4 65536 a = V4
theorem back_facts {p q : Nat} (hp : p < 65536) (hq : q < 65536) (hne : p ≠ q) (a b c : V3) : ∃ S1 S2 S3 V1 V2 V3' V4 u7, Back p q a b c S1 S2 S3 V1 V2 V3' V4 u7 := by
  have o1 := spOk_nil.put2 hp a
  have o2 := o1.put2 hq b
  have o3 := o2.put2 hp c
  have h0 : okI 65536 = false := by decide
  have hqp : ¬ ((q : Int) = (p : Int)) := by omega
  have hpq : ¬ ((p : Int) = (q : Int)) := by omega
  have h4 := back_one hp hq hne
  have m0 : ∀ j, memS [] j = false := fun _ => rfl
  have g0 : ∀ j, getV [] [] j = V3.z := fun _ => rfl
  refine ⟨_, _, _, _, _, _, _, _, rfl, rfl, rfl, rfl, rfl, rfl, ?_, ?_, rfl, rfl, ?_, ?_, h4, rfl, ?_, ?_, ?_, ?_, ?_, ?_, rfl, ?_, ?_, ?_⟩
  · rw [get_pV spOk_nil hp, if_neg hqp]; rfl
  · rw [mem_pS hp, decide_eq_false hqp]; rfl
  · rw [get_pV o1 hq, if_neg hpq, get_pV spOk_nil hp, if_pos rfl]
  · rw [mem_pS hq, mem_pS hp, decide_eq_true rfl]; simp
  · rw [get_pV o2 hp, if_pos rfl]
  · rw [mem_pS hp, decide_eq_true rfl]; rfl
  · rw [← h4, get_tV, if_pos rfl]
  · rw [← h4, mem_tS, decide_eq_true rfl]; rfl
  · rw [← h4, get_tV, if_neg hqp, get_pV o2 hp, if_neg hqp, get_pV o1 hq, if_pos rfl]
  · exact memS_nat.2 (by simp)
  · cases hm : memS [q] 65536 with
    | false => rfl
    | true =>
      obtain ⟨j, hj, h⟩ := memS_in hm
      have : j = q := by simpa using h
      omega
  · unfold pS; rw [h0]; simp only [Bool.false_eq_true, if_false]
  · unfold pV; rw [h0]; simp only [Bool.false_eq_true, if_false]
attribute [local irreducible] okI okN pS pV tS tV getV memS roomV
theorem St.nothing {w0 w : World} : ∀ {L : List As}, St w0 L w → St w0 [] w
  | [], hs => hs
  | _ :: _, hs => St.nothing hs.drop
set_option maxHeartbeats 4000000 in
/-- The walk of SparseBack from where the two indexes are known. -/
theorem sparseBack_c {w0 : World} (i k : Int) (a b c : V3) : Calls Try.prog 6 #[.int .i64 i, .int .i64 k, val3 a, val3 b, val3 c] w0 (LawPost8 w0) := by
  have hs := St.start w0
  have hi := and_ffff i
  have hk := and_ffff k
  have hxi := kx_lt i
  have hxk := kx_lt k
  generalize kx i = p at hi hxi
  generalize kx k = q at hk hxk
  by_cases hpq : p = q
  · subst hpq
    obtain ⟨hx, hxq, hxn⟩ := xor_one hxi
    generalize p ^^^ 1 = q at hx hxq hxn
    obtain ⟨S1, S2, S3, V1, V2, V3', V4, u7, HB⟩ := back_facts hxi hxq (Ne.symm hxn) a b c
    have HF := Lib.hid HB
    clear HB hxk hxn
    have H8 : Hid ([q].length = 1) := rfl
    go_enter Try.func6, Try.ntmps6
    go_upto_region 7 with (first
      | (refine wpl_box_v (v := val3 a) rfl hs ?_; clear hs; intro g7 w hs)
      | (refine wpl_box_v (v := val3 b) rfl hs ?_; clear hs; intro g8 w hs)
      | (refine wpl_box_v (v := val3 c) rfl hs ?_; clear hs; intro g9 w hs)
      | (go_at_call 7; refine (sp_new hs).mono ?_; clear hs; rintro e w1 ⟨D, T, rfl, hs⟩))
    clear hi hk
    go_wp2_with (first
      | (go_at_call 8; refine (sp_put_v (v := a) hs HF.out.g1 HF.out.m1 HF.out.e1 HF.out.f1).mono ?_; clear hs; rintro e w ⟨rfl, hs⟩)
      | (go_at_call 8; refine (sp_put_v (v := b) hs HF.out.g2 HF.out.m2 HF.out.e2 HF.out.f2).mono ?_; clear hs; rintro e w ⟨rfl, hs⟩)
      | (go_at_call 8; refine (sp_put_v (v := c) hs HF.out.g3 HF.out.m3 HF.out.e3 HF.out.f3).mono ?_; clear hs; rintro e w ⟨rfl, hs⟩)
      | (go_at_call 8; refine (sp_put_v (v := a) hs HF.out.g7 HF.out.m7 HF.out.e7 HF.out.f7).mono ?_; clear hs; rintro e w ⟨rfl, hs⟩; have hcT := Rd.spb hs)
      | (go_at_call 16; refine (sp_take_v hs HF.out.g4 HF.out.m4 HF.out.e4 HF.out.f4).mono ?_; clear hs; rintro e w ⟨rfl, hs⟩)
      | (go_at_call 9; refine (sp_get_v hs HF.out.g5 HF.out.m5).mono ?_; rintro e w' ⟨rfl, hg⟩; replace hs := hs.grew hg; clear hg)
      | (go_at_call 9; refine (sp_get_v hs HF.out.g6 HF.out.m6).mono ?_; rintro e w' ⟨rfl, hg⟩; replace hs := hs.grew hg; clear hg)
      | (refine wpl_alloc zero3 hs ?_; clear hs; intro gg w hs)
      | (refine wpl_load3 (v := a) rfl ?hh agg3 size3n hs ?_; case hh => (repeat (first | exact has3_here | exact has3_slot | apply has3_tail)))
      | (refine wpl_load3 (v := b) rfl ?hh agg3 size3n hs ?_; case hh => (repeat (first | exact has3_here | exact has3_slot | apply has3_tail)))
      | (refine wpl_load3 (v := c) rfl ?hh agg3 size3n hs ?_; case hh => (repeat (first | exact has3_here | exact has3_slot | apply has3_tail)))
      | (refine wpl_store_agg (v := val3 V3.z) rfl rfl (size3 _) hs WrA.slot3 ?_; clear hs; intro w hs; replace hs := hs.drop)
      | (refine wpl_store_agg (v := val3 u7) rfl rfl (size3 _) hs WrA.slot3 ?_; clear hs; intro w hs; replace hs := hs.drop; have hcT := Rd.spb hs; obtain ⟨fb0, fb1, fb2⟩ := (has3_tail has3_slot).facts hs; obtain ⟨fc0, fc1, fc2⟩ := (has3_tail (has3_tail has3_slot)).facts hs; obtain ⟨fa0, fa1, fa2⟩ := (has3_tail (has3_tail (has3_tail has3_slot))).facts hs; obtain ⟨fd0, fd1, fd2⟩ := (has3_tail (has3_tail (has3_tail (has3_tail has3_here)))).facts hs; obtain ⟨fe0, fe1, fe2⟩ := (has3_tail (has3_tail (has3_tail (has3_tail (has3_tail has3_here))))).facts hs; obtain ⟨ff0, ff1, ff2⟩ := (has3_tail (has3_tail (has3_tail (has3_tail (has3_tail (has3_tail has3_here)))))).facts hs)
      | (refine wpl_store_agg (v := val3 a) rfl rfl (size3 _) hs WrA.slot3 ?_; clear hs; intro w hs; replace hs := hs.rot)
      | (refine wpl_store_agg (v := val3 b) rfl rfl (size3 _) hs WrA.slot3 ?_; clear hs; intro w hs; replace hs := hs.rot)
      | (refine wpl_store_agg (v := val3 c) rfl rfl (size3 _) hs WrA.slot3 ?_; clear hs; intro w hs; replace hs := hs.rot)
      | (go_at_call 10; refine (sp_len_v hs H8).mono ?_; rintro e w' ⟨rfl, rfl⟩)
      | (go_at_call 12; refine (awake8 _).mono ?_; rintro e w' ⟨rfl, hg⟩; replace hs := hs.grew hg; clear hg))
    go_ret
    exact ⟨rfl, hs.nothing⟩
  · obtain ⟨S1, S2, S3, V1, V2, V3', V4, u7, HB⟩ := back_facts hxi hxk hpq a b c
    have HF := Lib.hid HB
    clear HB
    have hne : ((p : Int) == (q : Int)) = false := by simp; omega
    have H8 : Hid ([q].length = 1) := rfl
    go_enter Try.func6, Try.ntmps6
    go_upto_region 7 with (first
      | (refine wpl_box_v (v := val3 a) rfl hs ?_; clear hs; intro g7 w hs)
      | (refine wpl_box_v (v := val3 b) rfl hs ?_; clear hs; intro g8 w hs)
      | (refine wpl_box_v (v := val3 c) rfl hs ?_; clear hs; intro g9 w hs)
      | (go_at_call 7; refine (sp_new hs).mono ?_; clear hs; rintro e w1 ⟨D, T, rfl, hs⟩))
    clear hi hk
    go_wp2_with (first
      | (go_at_call 8; refine (sp_put_v (v := a) hs HF.out.g1 HF.out.m1 HF.out.e1 HF.out.f1).mono ?_; clear hs; rintro e w ⟨rfl, hs⟩)
      | (go_at_call 8; refine (sp_put_v (v := b) hs HF.out.g2 HF.out.m2 HF.out.e2 HF.out.f2).mono ?_; clear hs; rintro e w ⟨rfl, hs⟩)
      | (go_at_call 8; refine (sp_put_v (v := c) hs HF.out.g3 HF.out.m3 HF.out.e3 HF.out.f3).mono ?_; clear hs; rintro e w ⟨rfl, hs⟩)
      | (go_at_call 8; refine (sp_put_v (v := a) hs HF.out.g7 HF.out.m7 HF.out.e7 HF.out.f7).mono ?_; clear hs; rintro e w ⟨rfl, hs⟩; have hcT := Rd.spb hs)
      | (go_at_call 16; refine (sp_take_v hs HF.out.g4 HF.out.m4 HF.out.e4 HF.out.f4).mono ?_; clear hs; rintro e w ⟨rfl, hs⟩)
      | (go_at_call 9; refine (sp_get_v hs HF.out.g5 HF.out.m5).mono ?_; rintro e w' ⟨rfl, hg⟩; replace hs := hs.grew hg; clear hg)
      | (go_at_call 9; refine (sp_get_v hs HF.out.g6 HF.out.m6).mono ?_; rintro e w' ⟨rfl, hg⟩; replace hs := hs.grew hg; clear hg)
      | (refine wpl_alloc zero3 hs ?_; clear hs; intro gg w hs)
      | (refine wpl_load3 (v := a) rfl ?hh agg3 size3n hs ?_; case hh => (repeat (first | exact has3_here | exact has3_slot | apply has3_tail)))
      | (refine wpl_load3 (v := b) rfl ?hh agg3 size3n hs ?_; case hh => (repeat (first | exact has3_here | exact has3_slot | apply has3_tail)))
      | (refine wpl_load3 (v := c) rfl ?hh agg3 size3n hs ?_; case hh => (repeat (first | exact has3_here | exact has3_slot | apply has3_tail)))
      | (refine wpl_store_agg (v := val3 V3.z) rfl rfl (size3 _) hs WrA.slot3 ?_; clear hs; intro w hs; replace hs := hs.drop)
      | (refine wpl_store_agg (v := val3 u7) rfl rfl (size3 _) hs WrA.slot3 ?_; clear hs; intro w hs; replace hs := hs.drop; have hcT := Rd.spb hs; obtain ⟨fb0, fb1, fb2⟩ := (has3_tail has3_slot).facts hs; obtain ⟨fc0, fc1, fc2⟩ := (has3_tail (has3_tail has3_slot)).facts hs; obtain ⟨fa0, fa1, fa2⟩ := (has3_tail (has3_tail (has3_tail has3_slot))).facts hs; obtain ⟨fd0, fd1, fd2⟩ := (has3_tail (has3_tail (has3_tail (has3_tail has3_here)))).facts hs; obtain ⟨fe0, fe1, fe2⟩ := (has3_tail (has3_tail (has3_tail (has3_tail (has3_tail has3_here))))).facts hs; obtain ⟨ff0, ff1, ff2⟩ := (has3_tail (has3_tail (has3_tail (has3_tail (has3_tail (has3_tail has3_here)))))).facts hs)
      | (refine wpl_store_agg (v := val3 a) rfl rfl (size3 _) hs WrA.slot3 ?_; clear hs; intro w hs; replace hs := hs.rot)
      | (refine wpl_store_agg (v := val3 b) rfl rfl (size3 _) hs WrA.slot3 ?_; clear hs; intro w hs; replace hs := hs.rot)
      | (refine wpl_store_agg (v := val3 c) rfl rfl (size3 _) hs WrA.slot3 ?_; clear hs; intro w hs; replace hs := hs.rot)
      | (go_at_call 10; refine (sp_len_v hs H8).mono ?_; rintro e w' ⟨rfl, rfl⟩)
      | (go_at_call 12; refine (awake8 _).mono ?_; rintro e w' ⟨rfl, hg⟩; replace hs := hs.grew hg; clear hg))
    go_ret
    exact ⟨rfl, hs.nothing⟩
end Go.Proofs.Ytdcihfofdjckjaa
