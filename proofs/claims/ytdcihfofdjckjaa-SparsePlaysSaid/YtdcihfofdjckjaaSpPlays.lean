/-
  The statements of values at their places: SparsePlays.
-/
import Derived.Test.YtdcihfofdjckjaaTbl
import Derived.Test.YtdcihfofdjckjaaArgs
set_option maxRecDepth 100000
namespace Go.Proofs.Ytdcihfofdjckjaa
open Go Go.RowKit
attribute [local irreducible] wpList Calls Code.wp

/-! ### The places and the table say the same -/
structure Agree (S : List Nat) (vs : List V3) (rs : List Row) : Prop where
  ok : SpOk S vs
  nodup : (rs.map Prod.fst).Nodup
  mem : ∀ j : Int, memS S j = true ↔ j ∈ rs.map Prod.fst
  get : ∀ r ∈ rs, getV S vs r.1 = r.2
theorem nodup_at {α β : Type} {f : α → β} {l : List α} (h : (l.map f).Nodup) {j k : Nat} {a b : α} (ha : l[j]? = some a) (hb : l[k]? = some b) (hf : f a = f b) : j = k := by
  have h2 := List.pairwise_iff_getElem.1 (show (l.map f).Pairwise (· ≠ ·) from h)
  obtain ⟨hj, ea⟩ := List.getElem?_eq_some_iff.1 ha
  obtain ⟨hk, eb⟩ := List.getElem?_eq_some_iff.1 hb
  rcases Nat.lt_trichotomy j k with hlt | heq | hlt
  · exact absurd (by rw [List.getElem_map, List.getElem_map, ea, eb, hf]) (h2 j k (by simpa using hj) (by simpa using hk) hlt)
  · exact heq
  · exact absurd (by rw [List.getElem_map, List.getElem_map, ea, eb, hf]) (h2 k j (by simpa using hk) (by simpa using hj) hlt)
theorem agree_nil : Agree [] [] [] := ⟨spOk_nil, List.nodup_nil, fun j => by simp [memS], fun r h => by cases h⟩
theorem Agree.find {S : List Nat} {vs : List V3} {rs : List Row} (h : Agree S vs rs) {i : Int} (hm : memS S i = true) : ∃ (k : Nat) (r : Row), rs[k]? = some r ∧ r.1 = i ∧ findR rs i = (k : Nat) ∧ getV S vs i = r.2 := by
  obtain ⟨r, hr, he⟩ := List.mem_map.1 ((h.mem i).1 hm)
  obtain ⟨k, hk, hke⟩ := List.getElem_of_mem hr
  have hk2 : rs[k]? = some r := by rw [List.getElem?_eq_getElem hk, hke]
  refine ⟨k, r, hk2, he, findR_some hk2 he fun j r' hj hr' e => ?_, by rw [← he]; exact h.get r hr⟩
  have := nodup_at h.nodup hr' hk2 (by rw [e, he])
  omega
theorem Agree.none {S : List Nat} {vs : List V3} {rs : List Row} (h : Agree S vs rs) {i : Int} (hm : memS S i = false) : findR rs i = -1 ∧ getV S vs i = V3.z := by
  refine ⟨findR_none fun r hr e => ?_, by unfold getV; rw [hm]; rfl⟩
  have := (h.mem i).2 (List.mem_map.2 ⟨r, hr, e⟩)
  rw [hm] at this
  cases this
theorem Agree.len {S : List Nat} {vs : List V3} {rs : List Row} (h : Agree S vs rs) (hS : S.Pairwise (· < ·)) : S.length = rs.length := by
  have h1 : (S.map fun a : Nat => (a : Int)).Perm (rs.map Prod.fst) := (List.perm_ext_iff_of_nodup (by
      exact List.pairwise_map.2 (hS.imp fun h => by omega)) h.nodup).2 fun j => by
    rw [← h.mem]
    simp [memS]
  simpa using h1.length_eq
theorem Agree.small {S : List Nat} {vs : List V3} {rs : List Row} (h : Agree S vs rs) (hS : S.Pairwise (· < ·)) {i : Nat} (hi : i < 65536) (hm : memS S (i : Int) = false) : rs.length < 65536 := by
  rw [← h.len hS]
  have hni : i ∉ S := fun hin => by rw [memS_nat.2 hin] at hm; cases hm
  have h1 := sorted_len (N := 65536) (a := 0) (sorted_insS (i := i) hS) fun j hj => ⟨Nat.zero_le _, by
    rcases mem_insS.1 hj with rfl | hj
    · exact hi
    · have := h.ok.room j hj; have := h.ok.len; omega⟩
  rw [len_insS hni] at h1
  omega
theorem Agree.put_old {S : List Nat} {vs : List V3} {rs : List Row} (h : Agree S vs rs) {i k : Nat} (hi : i < 65536) {r : Row} (hr : rs[k]? = some r) (he : r.1 = i) (v : V3) : Agree (pS S (i : Int)) (pV vs (i : Int) v) (rs.set k (r.1, v)) := by
  have hk := (List.getElem?_eq_some_iff.1 hr).1
  have hfst : (rs.set k (r.1, v)).map Prod.fst = rs.map Prod.fst := by
    rw [List.map_set]
    apply List.ext_getElem?
    intro j
    rw [List.getElem?_set]
    split
    · rename_i e
      subst e
      rw [List.getElem?_map, hr]
      simp [hk]
    · rfl
  have hin : (i : Int) ∈ rs.map Prod.fst := List.mem_map.2 ⟨r, List.mem_of_getElem? hr, he⟩
  refine ⟨h.ok.put2 hi v, by rw [hfst]; exact h.nodup, fun j => ?_, fun q hq => ?_⟩
  · rw [hfst, mem_pS hi, Bool.or_eq_true, decide_eq_true_eq, h.mem]
    exact ⟨fun h => h.elim (fun e => e ▸ hin) id, .inr⟩
  · rw [get_pV h.ok hi]
    obtain ⟨j, hj, hje⟩ := List.getElem_of_mem hq
    rw [List.getElem_set] at hje
    split at hje
    · subst hje; simp only; rw [if_pos he]
    · rename_i hne
      have hjl : j < rs.length := by simpa using hj
      have hne2 : q.1 ≠ (i : Int) := fun e => by
        apply hne
        exact nodup_at h.nodup hr (show rs[j]? = some q by rw [List.getElem?_eq_getElem hjl, hje]) (by rw [he, e])
      rw [if_neg hne2]
      exact h.get q (by rw [← hje]; exact List.getElem_mem _)
theorem Agree.put_new {S : List Nat} {vs : List V3} {rs : List Row} (h : Agree S vs rs) {i : Nat} (hi : i < 65536) (hm : memS S (i : Int) = false) (v : V3) : Agree (pS S (i : Int)) (pV vs (i : Int) v) (rs ++ [((i : Int), v)]) := by
  have hn : (i : Int) ∉ rs.map Prod.fst := fun h2 => by rw [(h.mem _).2 h2] at hm; cases hm
  refine ⟨h.ok.put2 hi v, ?_, fun j => ?_, fun q hq => ?_⟩
  · rw [List.map_append, List.nodup_append]
    exact ⟨h.nodup, by simp, fun a ha b hb => by simp at hb; subst hb; exact fun e => hn (e ▸ ha)⟩
  · rw [mem_pS hi, Bool.or_eq_true, decide_eq_true_eq, h.mem]
    simp [Or.comm]
  · rw [get_pV h.ok hi]
    rcases List.mem_append.1 hq with hq | hq
    · have hne : q.1 ≠ (i : Int) := fun e => hn (List.mem_map.2 ⟨q, hq, e⟩)
      rw [if_neg hne]
      exact h.get q hq
    · simp at hq; subst hq; simp
/-- The rows that are left: those that were, but for one. -/
theorem cutR_perm {a b : List Row} {r : Row} : (cutR (a ++ r :: b) a.length).Perm (a ++ b) := by
  unfold cutR
  rcases List.eq_nil_or_concat b with rfl | ⟨b', q, hb⟩
  · simp
  · rw [List.concat_eq_append] at hb
    subst hb
    have e1 : (a ++ r :: (b' ++ [q])).length - 1 = a.length + (b'.length + 1) := by simp
    have e2 : (a ++ r :: (b' ++ [q])).getD (a.length + (b'.length + 1)) (0, V3.z) = q := by simp [List.getD]
    rw [e1, e2, List.set_append_right _ _ (Nat.le_refl _), Nat.sub_self, List.set_cons_zero, List.take_append, List.take_of_length_le (by omega), Nat.add_sub_cancel_left, List.take_succ_cons, List.take_left]
    exact List.Perm.append_left a ((List.perm_append_singleton q b').symm)
theorem Agree.take {S : List Nat} {vs : List V3} {rs : List Row} (h : Agree S vs rs) {i : Int} {k : Nat} {r : Row} (hr : rs[k]? = some r) (he : r.1 = i) : Agree (tS S i) (tV S vs i) (cutR rs k) := by
  have hk := (List.getElem?_eq_some_iff.1 hr).1
  obtain ⟨a, b, hab, hal⟩ : ∃ a b, rs = a ++ r :: b ∧ a.length = k := ⟨rs.take k, rs.drop (k + 1), by
    rw [List.getElem?_eq_getElem hk] at hr
    injection hr with hr
    rw [← hr, ← List.drop_eq_getElem_cons hk, List.take_append_drop], by simp; omega⟩
  subst hal
  have hp : (cutR rs a.length).Perm (a ++ b) := by rw [hab]; exact cutR_perm
  have hnd := h.nodup
  rw [hab, List.map_append, List.map_cons, List.nodup_append, List.nodup_cons] at hnd
  obtain ⟨n1, ⟨n2, n3⟩, n4⟩ := hnd
  refine ⟨h.ok.take2 i, ?_, fun j => ?_, fun q hq => ?_⟩
  · rw [(hp.map Prod.fst).nodup_iff, List.map_append, List.nodup_append]
    exact ⟨n1, n3, fun x hx y hy => n4 x hx y (List.mem_cons_of_mem _ hy)⟩
  · rw [(hp.map Prod.fst).mem_iff, mem_tS, Bool.and_eq_true, Bool.not_eq_true', decide_eq_false_iff_not, h.mem, hab]
    simp only [List.map_append, List.map_cons, List.mem_append, List.mem_cons]
    constructor
    · rintro ⟨hne, h1 | h1 | h1⟩
      · exact .inl h1
      · exact absurd (h1.trans he) hne
      · exact .inr h1
    · rintro (h1 | h1)
      · exact ⟨fun e => n4 j h1 r.1 (by simp) (e.trans he.symm), .inl h1⟩
      · exact ⟨fun e => n2 (by rw [he, ← e]; exact h1), .inr (.inr h1)⟩
  · have hq2 := hp.mem_iff.1 hq
    have hne : q.1 ≠ i := fun e => by
      rcases List.mem_append.1 hq2 with h1 | h1
      · exact n4 q.1 (List.mem_map.2 ⟨q, h1, rfl⟩) r.1 (by simp) (e.trans he.symm)
      · exact n2 (by rw [he, ← e]; exact List.mem_map.2 ⟨q, h1, rfl⟩)
    rw [get_tV, if_neg hne]
    exact h.get q (by rw [hab]; rcases List.mem_append.1 hq2 with h1 | h1 <;> simp [h1])
/-! ### The table's calls, by what the places say -/
def TbPost (P : List Row → Prop) (w0 : World) (L : List As) (E : Nat) (u : V3) (b : Bool) (e : Ending) (w' : World) : Prop := ∃ rs, P rs ∧ e = .returned (.tuple #[val3 u, .bool b]) ∧ St w0 (TbB E rs :: L) w'
theorem tbA_put {w0 w : World} {L : List As} {E : Nat} {rs : List Row} {S : List Nat} {vs : List V3} (hs : St w0 (TbB E rs :: L) w) (h : Agree S vs rs) (hS : S.Pairwise (· < ·)) (i : Int) (v : V3) :
    Calls Try.prog 21 #[.pointer (some ⟨E, 0, none⟩), .int .i64 i, val3 v] w (TbPost (Agree (pS S i) (pV vs i v)) w0 L E (getV S vs i) (memS S i)) := by
  cases hi : okI i with
  | false =>
    have hm := h.ok.out hi
    have hz : getV S vs i = V3.z := (h.none hm).2
    have e1 : pS S i = S := by unfold pS; rw [hi]; rfl
    have e2 : pV vs i v = vs := by unfold pV; rw [hi]; rfl
    rw [e1, e2, hz, hm]
    exact (tb_put_no hs v hi).mono fun e w' ⟨h1, h2⟩ => ⟨rs, h, h1, h2⟩
  | true =>
    have hi2 : 0 ≤ i ∧ i < 65536 := of_decide_eq_true hi
    obtain ⟨j, rfl⟩ := Int.eq_ofNat_of_zero_le hi2.1
    cases hm : memS S (j : Int) with
    | true =>
      obtain ⟨k, r, hr, he, hf, hg⟩ := h.find hm
      rw [hg]
      exact (tb_put_old hs v hi hf hr).mono fun e w' ⟨h1, h2⟩ => ⟨_, h.put_old (by omega) hr he v, h1, h2⟩
    | false =>
      obtain ⟨hf, hz⟩ := h.none hm
      rw [hz]
      exact (tb_put_new hs v hi hf (h.small hS (by omega) hm)).mono fun e w' ⟨h1, h2⟩ => ⟨_, h.put_new (by omega) hm v, h1, h2⟩
theorem tbA_take {w0 w : World} {L : List As} {E : Nat} {rs : List Row} {S : List Nat} {vs : List V3} (hs : St w0 (TbB E rs :: L) w) (h : Agree S vs rs) (i : Int) :
    Calls Try.prog 22 #[.pointer (some ⟨E, 0, none⟩), .int .i64 i] w (TbPost (Agree (tS S i) (tV S vs i)) w0 L E (getV S vs i) (memS S i)) := by
  cases hm : memS S i with
  | true =>
    obtain ⟨k, r, hr, he, hf, hg⟩ := h.find hm
    rw [hg]
    exact (tb_take hs hf hr).mono fun e w' ⟨h1, h2⟩ => ⟨_, h.take hr he, h1, h2⟩
  | false =>
    obtain ⟨hf, hz⟩ := h.none hm
    have e1 : tS S i = S := by unfold tS; rw [hm]; rfl
    have e2 : tV S vs i = vs := by unfold tV; rw [hm]; rfl
    rw [hz, e1, e2]
    exact (tb_take_no hs hf).mono fun e w' ⟨h1, h2⟩ => ⟨_, h, h1, h2⟩
theorem tbA_get {w0 w : World} {L : List As} {E : Nat} {rs : List Row} {S : List Nat} {vs : List V3} (hs : St w0 (TbB E rs :: L) w) (h : Agree S vs rs) (i : Int) :
    Calls Try.prog 23 #[.pointer (some ⟨E, 0, none⟩), .int .i64 i] w fun e w' => e = .returned (.tuple #[val3 (getV S vs i), .bool (memS S i)]) ∧ Grew w w' := by
  cases hm : memS S i with
  | true =>
    obtain ⟨k, r, hr, he, hf, hg⟩ := h.find hm
    rw [hg]
    exact tb_get hs hf hr
  | false =>
    obtain ⟨hf, hz⟩ := h.none hm
    rw [hz]
    exact tb_get_no hs hf

theorem St.spS {w0 w : World} {D T : Nat} {S : List Nat} {vs : List V3} {L : List As} (hs : St w0 (SpB D T S vs :: L) w) : S.Pairwise (· < ·) ∧ ∀ a ∈ S, a < 16777216 := by
  obtain ⟨_, A, cap, hs⟩ := hs.spopen
  exact (hs.ent (Ent.skip (Ent.skip (Ent.refl _)))).sorted
theorem St.third {w0 w : World} {p q a : As} {L : List As} (hs : St w0 (p :: q :: a :: L) w) : St w0 (a :: p :: q :: L) w := hs.ent (Ent.skip (Ent.skip (Ent.refl _)))
theorem St.lose {w0 w : World} {p q a : As} {L : List As} (hs : St w0 (p :: q :: a :: L) w) : St w0 (p :: q :: L) w := hs.third.drop
structure OpR where
  k : Int
  i : Int
  v : V3
def c5 (o : OpR) : List Value := .int .i64 o.k :: .int .i64 o.i :: c3 o.v
def op5 (o : OpR) : Value := .agg (c5 o).toArray
def stS (o : OpR) (S : List Nat) : List Nat := if o.k = 0 then pS S o.i else if o.k = 1 then tS S o.i else S
def stV (o : OpR) (S : List Nat) (vs : List V3) : List V3 := if o.k = 0 then pV vs o.i o.v else if o.k = 1 then tV S vs o.i else vs
def DoPost (w0 : World) (L : List As) (D T E : Nat) (S : List Nat) (vs : List V3) (e : Ending) (w' : World) : Prop := ∃ rs, Agree S vs rs ∧ e = .returned (.bool true) ∧ St w0 (SpB D T S vs :: TbB E rs :: L) w'
theorem tbA_put_v {w0 w : World} {L : List As} {E : Nat} {rs : List Row} {S : List Nat} {vs : List V3} (hs : St w0 (TbB E rs :: L) w) (h : Agree S vs rs) (hS : S.Pairwise (· < ·)) (i : Int) (v : V3) {u : V3} {b : Bool} {S' : List Nat} {vs' : List V3} (hu : Hid (getV S vs i = u)) (hb : Hid (memS S i = b)) (hS' : Hid (pS S i = S')) (hV : Hid (pV vs i v = vs')) :
    Calls Try.prog 21 #[.pointer (some ⟨E, 0, none⟩), .int .i64 i, val3 v] w (TbPost (Agree S' vs') w0 L E u b) := by
  rw [← hu.out, ← hb.out, ← hS'.out, ← hV.out]; exact tbA_put hs h hS i v
theorem tbA_take_v {w0 w : World} {L : List As} {E : Nat} {rs : List Row} {S : List Nat} {vs : List V3} (hs : St w0 (TbB E rs :: L) w) (h : Agree S vs rs) (i : Int) {u : V3} {b : Bool} {S' : List Nat} {vs' : List V3} (hu : Hid (getV S vs i = u)) (hb : Hid (memS S i = b)) (hS' : Hid (tS S i = S')) (hV : Hid (tV S vs i = vs')) :
    Calls Try.prog 22 #[.pointer (some ⟨E, 0, none⟩), .int .i64 i] w (TbPost (Agree S' vs') w0 L E u b) := by
  rw [← hu.out, ← hb.out, ← hS'.out, ← hV.out]; exact tbA_take hs h i
theorem tbA_get_v {w0 w : World} {L : List As} {E : Nat} {rs : List Row} {S : List Nat} {vs : List V3} (hs : St w0 (TbB E rs :: L) w) (h : Agree S vs rs) (i : Int) {u : V3} {b : Bool} (hu : Hid (getV S vs i = u)) (hb : Hid (memS S i = b)) :
    Calls Try.prog 23 #[.pointer (some ⟨E, 0, none⟩), .int .i64 i] w fun e w' => e = .returned (.tuple #[val3 u, .bool b]) ∧ Grew w w' := by
  rw [← hu.out, ← hb.out]; exact tbA_get hs h i
theorem Rd.tbb {w0 w : World} {L : List As} {E : Nat} {rs : List Row} (hs : St w0 (TbB E rs :: L) w) : ∃ A cap, w.cell? ⟨E, 0, none⟩ = some (.slice A rs.length cap) := by
  obtain ⟨_, A, cap, hs⟩ := hs.tbopen
  exact ⟨A, cap, Rd.tb0 w hs⟩
theorem opk {w0 : World} {g : Nat} {o : OpR} {t : TypeId} {L : List As} : Rd w0 (Ytdcihfofdjckjaa.blk g (op5 o).cells t :: L) ⟨g, 0, none⟩ (.int .i64 o.k) := Rd.blk rfl
theorem opi {w0 : World} {g : Nat} {o : OpR} {t : TypeId} {L : List As} : Rd w0 (Ytdcihfofdjckjaa.blk g (op5 o).cells t :: L) ⟨g, 1, none⟩ (.int .i64 o.i) := Rd.blk rfl
theorem opv {w0 : World} {g : Nat} {o : OpR} {t : TypeId} {L : List As} : ∀ j x, (c3 o.v)[j]? = some x → Rd w0 (Ytdcihfofdjckjaa.blk g (op5 o).cells t :: L) ⟨g, 2 + j, none⟩ x := fun j x hx => Rd.blk (by
  show (c5 o).toArray[2 + j]? = some x
  rw [show 2 + j = j + 1 + 1 by omega]
  simpa [c5] using hx)
attribute [local irreducible] okI okN pS pV tS tV getV memS roomV
set_option maxHeartbeats 4000000 in
theorem do_c {w0 w : World} {L : List As} {D T E : Nat} {S : List Nat} {vs : List V3} {rs : List Row} (hs : St w0 (SpB D T S vs :: TbB E rs :: L) w) (HA : Agree S vs rs) (o : OpR) :
    Calls Try.prog 13 #[.pointer (some ⟨D, 0, none⟩), .pointer (some ⟨E, 0, none⟩), op5 o] w (DoPost w0 L D T E (stS o S) (stV o S vs)) := by
  obtain ⟨hS, _⟩ := hs.spS
  have HSS := Lib.hid hS
  obtain ⟨k, i, v⟩ := o
  obtain ⟨u, HU⟩ : ∃ u, Hid (getV S vs i = u) := ⟨_, rfl⟩
  obtain ⟨b, HB⟩ : ∃ b, Hid (memS S i = b) := ⟨_, rfl⟩
  have HAA := Lib.hid HA
  by_cases h0 : k = 0
  · subst h0
    obtain ⟨S', HS'⟩ : ∃ v, Hid (pS S i = v) := ⟨_, rfl⟩
    obtain ⟨vs', HV'⟩ : ∃ x, Hid (pV vs i v = x) := ⟨_, rfl⟩
    have e1 : stS ⟨0, i, v⟩ S = S' := by unfold stS; rw [if_pos rfl]; exact HS'.out
    have e2 : stV ⟨0, i, v⟩ S vs = vs' := by unfold stV; rw [if_pos rfl]; exact HV'.out
    rw [e1, e2]
    clear hS HA e1 e2
    go_enter Try.func13, Try.ntmps13
    have tk : True := trivial
    go_upto_region 3 with (first
      | (refine wpl_box_v (v := op5 ⟨0, i, v⟩) rfl hs ?_; clear hs; intro g5 w hs)
      | (clear tk; refine wpl_alloc zero3 hs ?_; clear hs; intro g7 w hs)
      | (refine wpl_alloc zero3 hs ?_; clear hs; intro g8 w hs))
    replace hs := (hs.ent (Ent.skip (Ent.skip (Ent.skip (Ent.refl _))))).ent (Ent.cons _ (Ent.skip (Ent.skip (Ent.skip (Ent.refl _)))))
    have fk := opk.tail.tail.tail.tail _ hs
    have fi := opi.tail.tail.tail.tail _ hs
    go_upto_region 12 with (first
      | (go_at_call 8; refine (sp_put_v (v := v) hs HU HB HS' HV').mono ?_; clear hs fi; rintro e w ⟨rfl, hs⟩)
      | (go_at_call 21; refine (tbA_put_v hs HAA.out HSS.out i v HU HB HS' HV').mono ?_; clear hs fi; rintro e w ⟨rs', HA', rfl, hs⟩; replace HA' := Lib.hid HA')
      | (refine wpl_load_agg (cs := c3 v) (b := g5) (o := 2) rfl agg3 (size3 v) hs ?hh ?_; case hh => exact fun j x hx => (opv (o := ⟨0, i, v⟩) j x hx).tail.tail.tail.tail)
      | (refine wpl_store_agg (v := val3 u) rfl rfl (size3 _) (hs.ent (Ent.skip (Ent.skip (Ent.skip (Ent.refl _))))) WrA.slot3 ?_; clear hs; intro w hs; replace hs := hs.third; have fi := (opi (o := ⟨0, i, v⟩)).tail.tail.tail.tail _ hs))
    clear fi fk
    replace hs := (hs.ent (Ent.skip (Ent.skip (Ent.skip (Ent.refl _))))).ent (Ent.cons _ (Ent.skip (Ent.skip (Ent.refl _))))
    obtain ⟨hS2, _⟩ := hs.spS
    have HL : Hid (S'.length = rs'.length) := HA'.len hS2
    have cT := Rd.spb hs
    obtain ⟨AE, capE, cE⟩ := Rd.tbb hs.rot
    obtain ⟨fb0, fb1, fb2⟩ := (has3_tail (has3_tail has3_slot)).facts hs
    obtain ⟨fa0, fa1, fa2⟩ := (has3_tail (has3_tail (has3_tail has3_slot))).facts hs
    go_wp2
    refine wp_region_grow (by kernel_rfl) (by kernel_rfl) fun hne => ?_
    have ga0 := fun p : GW w => p.grew.cell fa0
    have ga1 := fun p : GW w => p.grew.cell fa1
    have ga2 := fun p : GW w => p.grew.cell fa2
    have gb0 := fun p : GW w => p.grew.cell fb0
    have gb1 := fun p : GW w => p.grew.cell fb1
    have gb2 := fun p : GW w => p.grew.cell fb2
    have gT := fun p : GW w => p.grew.cell cT
    have gE := fun p : GW w => p.grew.cell cE
    clear fa0 fa1 fa2 fb0 fb1 fb2 cT cE
    repeat (go_big_quiet_step ((first
      | (go_at_call 10; exact in_gsame (sp_len_v (hs.grew (GW.grew _)) HL)))))
    refine wpQuiet_nil ?_
    clear hne ga0 ga1 ga2 gb0 gb1 gb2 gT gE
    intro u' hu'
    replace hs := hs.grew hu'
    clear hu'
    go_wp2
    go_ret
    exact ⟨rs', HA', rfl, hs.lose.lose.lose⟩
  · by_cases h1 : k = 1
    · subst h1
      obtain ⟨S', HS'⟩ : ∃ v, Hid (tS S i = v) := ⟨_, rfl⟩
      obtain ⟨vs', HV'⟩ : ∃ x, Hid (tV S vs i = x) := ⟨_, rfl⟩
      have e1 : stS ⟨1, i, v⟩ S = S' := by unfold stS; rw [if_neg (show ¬ (1 : Int) = 0 by decide), if_pos rfl]; exact HS'.out
      have e2 : stV ⟨1, i, v⟩ S vs = vs' := by unfold stV; rw [if_neg (show ¬ (1 : Int) = 0 by decide), if_pos rfl]; exact HV'.out
      rw [e1, e2]
      clear hS HA e1 e2 h0
      go_enter Try.func13, Try.ntmps13
      have tk : True := trivial
      go_upto_region 3 with (first
        | (refine wpl_box_v (v := op5 ⟨1, i, v⟩) rfl hs ?_; clear hs; intro g5 w hs)
        | (clear tk; refine wpl_alloc zero3 hs ?_; clear hs; intro g7 w hs)
        | (refine wpl_alloc zero3 hs ?_; clear hs; intro g8 w hs))
      replace hs := (hs.ent (Ent.skip (Ent.skip (Ent.skip (Ent.refl _))))).ent (Ent.cons _ (Ent.skip (Ent.skip (Ent.skip (Ent.refl _)))))
      have fk := opk.tail.tail.tail.tail _ hs
      have fi := opi.tail.tail.tail.tail _ hs
      go_upto_region 12 with (first
        | (go_at_call 16; refine (sp_take_v hs HU HB HS' HV').mono ?_; clear hs fi; rintro e w ⟨rfl, hs⟩)
        | (go_at_call 22; refine (tbA_take_v hs HAA.out i HU HB HS' HV').mono ?_; clear hs fi; rintro e w ⟨rs', HA', rfl, hs⟩; replace HA' := Lib.hid HA')
        | (refine wpl_store_agg (v := val3 u) rfl rfl (size3 _) (hs.ent (Ent.skip (Ent.skip (Ent.skip (Ent.refl _))))) WrA.slot3 ?_; clear hs; intro w hs; replace hs := hs.third; have fi := (opi (o := ⟨1, i, v⟩)).tail.tail.tail.tail _ hs))
      clear fi fk
      replace hs := (hs.ent (Ent.skip (Ent.skip (Ent.skip (Ent.refl _))))).ent (Ent.cons _ (Ent.skip (Ent.skip (Ent.refl _))))
      obtain ⟨hS2, _⟩ := hs.spS
      have HL : Hid (S'.length = rs'.length) := HA'.len hS2
      have cT := Rd.spb hs
      obtain ⟨AE, capE, cE⟩ := Rd.tbb hs.rot
      obtain ⟨fb0, fb1, fb2⟩ := (has3_tail (has3_tail has3_slot)).facts hs
      obtain ⟨fa0, fa1, fa2⟩ := (has3_tail (has3_tail (has3_tail has3_slot))).facts hs
      go_wp2
      refine wp_region_grow (by kernel_rfl) (by kernel_rfl) fun hne => ?_
      have ga0 := fun p : GW w => p.grew.cell fa0
      have ga1 := fun p : GW w => p.grew.cell fa1
      have ga2 := fun p : GW w => p.grew.cell fa2
      have gb0 := fun p : GW w => p.grew.cell fb0
      have gb1 := fun p : GW w => p.grew.cell fb1
      have gb2 := fun p : GW w => p.grew.cell fb2
      have gT := fun p : GW w => p.grew.cell cT
      have gE := fun p : GW w => p.grew.cell cE
      clear fa0 fa1 fa2 fb0 fb1 fb2 cT cE
      repeat (go_big_quiet_step ((first
        | (go_at_call 10; exact in_gsame (sp_len_v (hs.grew (GW.grew _)) HL)))))
      refine wpQuiet_nil ?_
      clear hne ga0 ga1 ga2 gb0 gb1 gb2 gT gE
      intro u' hu'
      replace hs := hs.grew hu'
      clear hu'
      go_wp2
      go_ret
      exact ⟨rs', HA', rfl, hs.lose.lose.lose⟩
    · have e1 : stS ⟨k, i, v⟩ S = S := by unfold stS; rw [if_neg h0, if_neg h1]
      have e2 : stV ⟨k, i, v⟩ S vs = vs := by unfold stV; rw [if_neg h0, if_neg h1]
      rw [e1, e2]
      have d0 : (k == 0) = false := by simpa using h0
      have d1 : (k == 1) = false := by simpa using h1
      obtain ⟨S', hS'⟩ : ∃ x, x = S := ⟨_, rfl⟩
      subst hS'
      obtain ⟨vs', hv'⟩ : ∃ x, x = vs := ⟨_, rfl⟩
      subst hv'
      obtain ⟨rs', hr'⟩ : ∃ x, x = rs := ⟨_, rfl⟩
      subst hr'
      have HA' := HAA
      clear hS HA e1 e2 h0 h1
      go_enter Try.func13, Try.ntmps13
      have tk : True := trivial
      go_upto_region 3 with (first
        | (refine wpl_box_v (v := op5 ⟨k, i, v⟩) rfl hs ?_; clear hs; intro g5 w hs)
        | (clear tk; refine wpl_alloc zero3 hs ?_; clear hs; intro g7 w hs)
        | (refine wpl_alloc zero3 hs ?_; clear hs; intro g8 w hs))
      replace hs := (hs.ent (Ent.skip (Ent.skip (Ent.skip (Ent.refl _))))).ent (Ent.cons _ (Ent.skip (Ent.skip (Ent.skip (Ent.refl _)))))
      have fk := opk.tail.tail.tail.tail _ hs
      have fi := opi.tail.tail.tail.tail _ hs
      go_upto_region 12 with (first
        | (go_at_call 9; refine (sp_get_v hs HU HB).mono ?_; clear fi; rintro e w' ⟨rfl, hg⟩; replace hs := hs.grew hg; clear hg)
        | (go_at_call 23; refine (tbA_get_v hs HAA.out i HU HB).mono ?_; clear fi; rintro e w ⟨rfl, hg⟩; replace hs := hs.grew hg; clear hg)
        | (refine wpl_store_agg (v := val3 u) rfl rfl (size3 _) (hs.ent (Ent.skip (Ent.skip (Ent.skip (Ent.refl _))))) WrA.slot3 ?_; clear hs; intro w hs; replace hs := hs.third; have fi := (opi (o := ⟨k, i, v⟩)).tail.tail.tail.tail _ hs))
      clear fi fk
      replace hs := (hs.ent (Ent.skip (Ent.skip (Ent.skip (Ent.refl _))))).ent (Ent.cons _ (Ent.skip (Ent.skip (Ent.refl _))))
      obtain ⟨hS2, _⟩ := hs.spS
      have HL : Hid (S'.length = rs'.length) := HA'.len hS2
      have cT := Rd.spb hs
      obtain ⟨AE, capE, cE⟩ := Rd.tbb hs.rot
      obtain ⟨fb0, fb1, fb2⟩ := (has3_tail (has3_tail has3_slot)).facts hs
      obtain ⟨fa0, fa1, fa2⟩ := (has3_tail (has3_tail (has3_tail has3_slot))).facts hs
      go_wp2
      refine wp_region_grow (by kernel_rfl) (by kernel_rfl) fun hne => ?_
      have ga0 := fun p : GW w => p.grew.cell fa0
      have ga1 := fun p : GW w => p.grew.cell fa1
      have ga2 := fun p : GW w => p.grew.cell fa2
      have gb0 := fun p : GW w => p.grew.cell fb0
      have gb1 := fun p : GW w => p.grew.cell fb1
      have gb2 := fun p : GW w => p.grew.cell fb2
      have gT := fun p : GW w => p.grew.cell cT
      have gE := fun p : GW w => p.grew.cell cE
      clear fa0 fa1 fa2 fb0 fb1 fb2 cT cE
      repeat (go_big_quiet_step ((first
        | (go_at_call 10; exact in_gsame (sp_len_v (hs.grew (GW.grew _)) HL)))))
      refine wpQuiet_nil ?_
      clear hne ga0 ga1 ga2 gb0 gb1 gb2 gT gE
      intro u' hu'
      replace hs := hs.grew hu'
      clear hu'
      go_wp2
      go_ret
      exact ⟨rs', HA', rfl, hs.lose.lose.lose⟩
end Go.Proofs.Ytdcihfofdjckjaa
