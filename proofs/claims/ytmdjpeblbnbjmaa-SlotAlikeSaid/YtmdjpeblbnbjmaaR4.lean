/-
  Values at their places, said otherwise; rows of an index and a value. (Out of XSpLaw, XSpLaw2, XTbl.)
-/
import Derived.Test.YtmdjpeblbnbjmaaSp
set_option maxRecDepth 100000
namespace Go.Proofs.Ytmdjpeblbnbjmaa
open Go Go.RowKit
attribute [local irreducible] wpList Calls Code.wp
theorem sp_put_v {w0 w : World} {L : List As} {D T : Nat} {S : List Nat} {vs : List V3} (hs : St w0 (SpB D T S vs :: L) w) {i : Int} {v u : V3} {b : Bool} {S' : List Nat} {vs' : List V3} (hu : Hid (getV S vs i = u)) (hb : Hid (memS S i = b)) (hS : Hid (pS S i = S')) (hV : Hid (pV vs i v = vs')) :
    Calls Try.prog 91 #[.pointer (some ⟨D, 0, none⟩), .int .i64 i, val3 v] w fun e w' => e = .returned (.tuple #[val3 u, .bool b]) ∧ St w0 (SpB D T S' vs' :: L) w' := by
  rw [← hu.out, ← hb.out, ← hS.out, ← hV.out]; exact sp_put hs i v
theorem sp_len_v {w0 w : World} {L : List As} {D T : Nat} {S : List Nat} {vs : List V3} (hs : St w0 (SpB D T S vs :: L) w) {n : Nat} (h : Hid (S.length = n)) :
    Calls Try.prog 85 #[.pointer (some ⟨T, 0, none⟩)] w fun e w' => e = .returned (.int .i64 (n : Nat)) ∧ w = w' := by
  rw [← h.out]; exact sp_len hs
def kx (z : Int) : Nat := (z % 65536).toNat
theorem kx_lt (z : Int) : kx z < 65536 := by unfold kx; omega
theorem and_ffff (z : Int) : bits .and .i64 z 65535 = (kx z : Nat) := by
  show IntKind.i64.wrap ((BitVec.ofInt 64 z &&& BitVec.ofInt 64 65535).toNat : Int) = _
  rw [BitVec.toNat_and, show (BitVec.ofInt 64 65535).toNat = 2 ^ 16 - 1 by decide, Nat.and_two_pow_sub_one_eq_mod, BitVec.toNat_ofInt, IntKind.wrap_i64]
  unfold kx
  omega
theorem pS_in {S : List Nat} {k : Nat} (hk : k < 65536) : pS S (k : Int) = insS k S := by
  have : okI (k : Int) = true := decide_eq_true (by omega)
  unfold pS
  rw [this]
  simp
theorem okI_nat {k : Nat} (hk : k < 65536) : okI (k : Int) = true := decide_eq_true (by omega)
theorem SpOk.put2 {S : List Nat} {vs : List V3} (h : SpOk S vs) {k : Nat} (hk : k < 65536) (v : V3) : SpOk (pS S (k : Int)) (pV vs (k : Int) v) := by
  unfold pS pV
  rw [okI_nat hk]
  simp only [if_true, Int.toNat_natCast]
  exact (h.room2 hk).put (by rw [roomV_len h hk]; exact (h.up hk).2.1) v
theorem SpOk.take2 {S : List Nat} {vs : List V3} (h : SpOk S vs) (k : Int) : SpOk (tS S k) (tV S vs k) := by
  unfold tS tV
  cases hm : memS S k with
  | false => exact h
  | true =>
    obtain ⟨j, rfl, _⟩ := memS_in hm
    exact h.take j
theorem mem_pS {S : List Nat} {k : Nat} (hk : k < 65536) (j : Int) : memS (pS S (k : Int)) j = (decide (j = k) || memS S j) := by
  rw [pS_in hk, Bool.eq_iff_iff]
  simp only [Bool.or_eq_true, decide_eq_true_eq, memS, List.any_eq_true, beq_iff_eq]
  constructor
  · rintro ⟨a, ha, rfl⟩
    rcases mem_insS.1 ha with rfl | ha
    · exact .inl rfl
    · exact .inr ⟨a, ha, rfl⟩
  · rintro (rfl | ⟨a, ha, rfl⟩)
    · exact ⟨k, mem_insS.2 (.inl rfl), rfl⟩
    · exact ⟨a, mem_insS.2 (.inr ha), rfl⟩
theorem mem_tS {S : List Nat} {k : Int} (j : Int) : memS (tS S k) j = (!decide (j = k) && memS S j) := by
  unfold tS
  cases hm : memS S k with
  | false =>
    by_cases e : j = k
    · subst e; simp [hm]
    · simp [e]
  | true =>
    obtain ⟨q, rfl, hq⟩ := memS_in hm
    rw [if_pos rfl, Bool.eq_iff_iff]
    simp only [Bool.and_eq_true, Bool.not_eq_true', decide_eq_false_iff_not, memS, List.any_eq_true, beq_iff_eq, Int.toNat_natCast]
    constructor
    · rintro ⟨a, ha, rfl⟩
      have := mem_delS.1 ha
      exact ⟨by omega, a, this.1, rfl⟩
    · rintro ⟨hne, a, ha, rfl⟩
      exact ⟨a, mem_delS.2 ⟨ha, by omega⟩, rfl⟩
theorem get_pV {S : List Nat} {vs : List V3} (h : SpOk S vs) {k : Nat} (hk : k < 65536) (v : V3) (j : Int) : getV (pS S (k : Int)) (pV vs (k : Int) v) j = if j = k then v else getV S vs j := by
  have hl : k < (roomV vs k).length := by rw [roomV_len h hk]; exact (h.up hk).2.1
  have e : pV vs (k : Int) v = (roomV vs k).set k v := by unfold pV; rw [okI_nat hk]; simp
  unfold getV
  rw [mem_pS hk, e]
  by_cases ej : j = k
  · subst ej
    simp [List.getD, hl]
  · rw [if_neg ej, decide_eq_false ej, Bool.false_or]
    cases hm : memS S j with
    | false => rfl
    | true =>
      obtain ⟨q, rfl, hq⟩ := memS_in hm
      have := h.room q hq
      have hne : k ≠ q := by omega
      simp only [if_true, Int.toNat_natCast, List.getD]
      rw [List.getElem?_set_ne hne, roomV, List.getElem?_append_left this]
theorem get_tV {S : List Nat} {vs : List V3} {k : Int} (j : Int) : getV (tS S k) (tV S vs k) j = if j = k then V3.z else getV S vs j := by
  unfold getV
  rw [mem_tS]
  by_cases ej : j = k
  · subst ej; simp
  · rw [if_neg ej, decide_eq_false ej, Bool.not_false, Bool.true_and]
    cases hm : memS S j with
    | false => rfl
    | true =>
      obtain ⟨q, rfl, hq⟩ := memS_in hm
      unfold tV
      cases hk : memS S k with
      | false => rfl
      | true =>
        obtain ⟨p, rfl, _⟩ := memS_in hk
        have hne : p ≠ q := by omega
        simp only [if_true, Int.toNat_natCast, List.getD]
        rw [List.getElem?_set_ne hne]
theorem xor_one {k : Nat} (hk : k < 65536) : bits .xor .i64 (k : Int) 1 = ((k ^^^ 1 : Nat) : Int) ∧ k ^^^ 1 < 65536 ∧ k ^^^ 1 ≠ k := by
  have hx : k ^^^ 1 < 2 ^ 16 := Nat.xor_lt_two_pow (by omega) (by decide)
  refine ⟨?_, hx, ?_⟩
  · show IntKind.i64.wrap ((BitVec.ofInt 64 (k : Int) ^^^ BitVec.ofInt 64 1).toNat : Int) = _
    rw [BitVec.toNat_xor, ofInt_u64 k (by omega), show (BitVec.ofInt 64 1).toNat = 1 by decide, IntKind.wrap_i64]
    omega
  · intro h
    have : (k ^^^ 1).testBit 0 = k.testBit 0 := by rw [h]
    rw [Nat.testBit_xor] at this
    simp at this
/-- A value of three numbers stands in a block. -/
def Has3 (w0 : World) (L : List As) (g : Nat) (v : V3) : Prop := ∀ j x, (c3 v)[j]? = some x → Rd w0 L ⟨g, 0 + j, none⟩ x
theorem has3_here {w0 : World} {L : List As} {g : Nat} {v : V3} {t : TypeId} : Has3 w0 (Ytmdjpeblbnbjmaa.blk g (val3 v).cells t :: L) g v := fun j x hx => by
  rw [Nat.zero_add]
  exact Rd.blk (show (c3 v).toArray[j]? = some x by simpa using hx)
theorem has3_slot {w0 : World} {L : List As} {g : Nat} {v : V3} {t : TypeId} : Has3 w0 (Ytmdjpeblbnbjmaa.blk g (c3 v).toArray t :: L) g v := has3_here
theorem has3_tail {w0 : World} {L : List As} {g : Nat} {v : V3} {p : As} (h : Has3 w0 L g v) : Has3 w0 (p :: L) g v := fun j x hx => (h j x hx).tail
theorem Has3.facts {w0 w : World} {L : List As} {g : Nat} {v : V3} (h : Has3 w0 L g v) (hs : St w0 L w) : w.cell? ⟨g, 0, none⟩ = some (.int .i64 v.k) ∧ w.cell? ⟨g, 1, none⟩ = some (.int .i64 v.a) ∧ w.cell? ⟨g, 2, none⟩ = some (.int .i64 v.b) :=
  ⟨h 0 _ rfl w hs, h 1 _ rfl w hs, h 2 _ rfl w hs⟩
theorem size3n : (Try.prog.info? 40).map (·.size) = some 3 := by kernel_rfl
theorem wpl_load3 {P : Program} {ops : Array Oper} {Q : Exit → Act → World → Prop} {a : Act} {w w0 : World} {rest : List Oper} {dst : Option Tmp} {ty : TypeId} {pos : String} {after : Array Edge} {L : List As} {t : TypeId} {x : Operand} {g : Nat} {v : V3} (hx : a.eval x = .pointer (some ⟨g, 0, none⟩)) (hh : Has3 w0 L g v) (h1 : aggB P t = true) (hsz : (P.info? t).map (·.size) = some 3) (hs : St w0 L w)
    (next : wpList P ops Q rest (a.put dst (val3 v)) w) : wpList P ops Q (⟨dst, .load t x, ty, pos, after, none⟩ :: rest) a w :=
  wpl_load_agg (cs := c3 v) hx h1 hsz hs hh next
theorem sp_take_v {w0 w : World} {L : List As} {D T : Nat} {S : List Nat} {vs : List V3} (hs : St w0 (SpB D T S vs :: L) w) {i : Int} {u : V3} {b : Bool} {S' : List Nat} {vs' : List V3} (hu : Hid (getV S vs i = u)) (hb : Hid (memS S i = b)) (hS : Hid (tS S i = S')) (hV : Hid (tV S vs i = vs')) :
    Calls Try.prog 92 #[.pointer (some ⟨D, 0, none⟩), .int .i64 i] w fun e w' => e = .returned (.tuple #[val3 u, .bool b]) ∧ St w0 (SpB D T S' vs' :: L) w' := by
  rw [← hu.out, ← hb.out, ← hS.out, ← hV.out]; exact sp_take hs i
/-! ### Rows of an index and a value -/
abbrev Row := Int × V3
def c4 (r : Row) : List Value := .int .i64 r.1 :: c3 r.2
def cs4 (rs : List Row) : List Value := rs.flatMap c4
theorem c4_len (r : Row) : (c4 r).length = 4 := rfl
theorem cs4_len : ∀ rs : List Row, (cs4 rs).length = rs.length * 4
  | [] => rfl
  | r :: rs => by
    have := cs4_len rs
    simp only [cs4, List.flatMap_cons, List.length_append, List.length_cons] at this ⊢
    rw [this, c4_len]
    omega
theorem cs4_get : ∀ {rs : List Row} {i : Nat} {r : Row}, rs[i]? = some r → ∀ j u, (c4 r)[j]? = some u → (cs4 rs)[i * 4 + j]? = some u
  | [], i, v, h, _, _, _ => by simp at h
  | x :: rs, 0, v, h, j, u, hu => by
    simp at h
    subst h
    have hj : j < (c4 x).length := (List.getElem?_eq_some_iff.1 hu).1
    simp only [cs4, List.flatMap_cons]
    rw [Nat.zero_mul, Nat.zero_add, List.getElem?_append_left hj, hu]
  | x :: rs, i + 1, v, h, j, u, hu => by
    have := cs4_get (rs := rs) (i := i) (r := v) (by simpa using h) j u hu
    simp only [cs4, List.flatMap_cons]
    rw [List.getElem?_append_right (by rw [c4_len]; omega)]
    simp only [cs4] at this
    rw [← this]
    congr 1
    rw [c4_len]
    omega
theorem cs4_set : ∀ {rs : List Row} {i : Nat} (r : Row), i < rs.length → splice (cs4 rs) (i * 4) (c4 r) = cs4 (rs.set i r)
  | [], i, v, h => by simp at h
  | x :: rs, 0, v, _ => by simp [splice, cs4, c4, c3]
  | x :: rs, i + 1, v, h => by
    have := cs4_set (rs := rs) (i := i) v (by simpa using h)
    simp only [splice, cs4, List.flatMap_cons, List.set_cons_succ] at this ⊢
    rw [← this, show (i + 1) * 4 = (c4 x).length + i * 4 by rw [c4_len]; omega, List.take_length_add_append, Nat.add_assoc, List.drop_length_add_append]
    simp
theorem splice_in {xs vs : List Value} {o : Nat} {v : Value} (h : xs[o]? = some v) : splice xs (o + 1) vs = splice xs o (v :: vs) := by
  unfold splice
  obtain ⟨hl, he⟩ := List.getElem?_eq_some_iff.1 h
  rw [List.take_succ_eq_append_getElem hl, he, show o + (v :: vs).length = o + 1 + vs.length by simp; omega]
  simp
/-- The value of a row is written, its index stays. -/
theorem cs4_setv {rs : List Row} {i : Nat} {r : Row} (v : V3) (h : rs[i]? = some r) : splice (cs4 rs) (i * 4 + 1) (c3 v) = cs4 (rs.set i (r.1, v)) := by
  have h1 : (cs4 rs)[i * 4 + 0]? = some (.int .i64 r.1) := cs4_get h 0 _ rfl
  rw [Nat.add_zero] at h1
  rw [splice_in h1]
  exact cs4_set (r.1, v) (List.getElem?_eq_some_iff.1 h).1
theorem cs4_append (a b : List Row) : cs4 (a ++ b) = cs4 a ++ cs4 b := by simp [cs4]
theorem cs4_take (rs : List Row) (n : Nat) : (cs4 rs).take (n * 4) = cs4 (rs.take n) := by
  induction rs generalizing n with
  | nil => simp [cs4]
  | cons x rs ih =>
    cases n with
    | zero => simp [cs4]
    | succ n =>
      have := ih n
      simp only [cs4, List.flatMap_cons, List.take_succ_cons] at this ⊢
      rw [show (n + 1) * 4 = (c4 x).length + n * 4 by rw [c4_len]; omega, List.take_length_add_append, this]
theorem c4_one (r : Row) : ∀ u ∈ c4 r, u.oneCell' = true := by
  intro u hu
  rcases List.mem_cons.1 hu with rfl | h
  · rfl
  · exact one3 r.2 u h
theorem cs4_one (rs : List Row) : ∀ u ∈ cs4 rs, u.oneCell' = true := by
  intro u hu
  obtain ⟨r, _, hr⟩ := List.mem_flatMap.1 hu
  exact c4_one r u hr
/-- An owned row made shorter. -/
theorem own_cut {A : Option Addr} {n m cap : Nat} {e : TypeId} {size : Nat} {xs : List Value} (hm : m ≤ n) : ∀ h, own A n cap e size xs h → own A m cap e size (xs.take (m * size)) h := fun h ⟨hl, hx⟩ => by
  have hle : m * size ≤ n * size := Nat.mul_le_mul_right _ hm
  refine ⟨by rw [List.length_take, hl]; omega, ?_⟩
  rcases hx with ⟨rfl, rfl, rfl, he⟩ | ⟨g, cur, rfl, h1, h2, h3, h4, h5⟩
  · exact .inl ⟨rfl, by omega, rfl, he⟩
  · refine .inr ⟨g, cur, rfl, by omega, h2, h3, ?_, h5⟩
    rw [← h4, List.take_take, show min (m * size) (n * size) = m * size by omega]
end Go.Proofs.Ytmdjpeblbnbjmaa
