/-
  TopBounds: plain law.
-/
import Derived.Test.YtcnbmfaicbkhcaaGreatDoorJN
import Derived.Test.YtcnbmfaicbkhcaaGreatDoorEnAr
import Derived.Test.YtcnbmfaicbkhcaaGreatDoorTw2
import Derived.Test.YtcnbmfaicbkhcaaGreatDoorJU
set_option maxRecDepth 100000
namespace Go.Proofs.YtcnbmfaicbkhcaaGreatDoor
open Go Go.RowKit
/-- The first k indexes are live, at their first generation. -/
structure TbC (n k : Nat) (cs : List ACell) : Prop where
  len : cs.length = n
  st : ∀ i, i < n → stA cs i = if i < k then 1 else 0
  gn : ∀ i, i < n → gnA cs i = if i < k then 1 else 0
theorem TbC.start (n : Nat) : TbC n 0 (newA n) := ⟨by simp [newA], fun i hi => by rw [stA_new hi]; rfl, fun i _ => by rw [gnA_new]; rfl⟩
theorem tb_first {cs : List ACell} {k : Nat} (hk : k < cs.length) (h0 : stA cs k = 0) (hm : ∀ j, j < k → stA cs j ≠ 0) : ∃ l, idxS 0 cs = k :: l := by
  have hmem : k ∈ idxS 0 cs := mem_idxS.2 ⟨hk, h0⟩
  have hs := sorted_idxS 0 cs
  match h : idxS 0 cs with
  | [] => rw [h] at hmem; cases hmem
  | i :: l =>
    have hi : i ∈ idxS 0 cs := by rw [h]; exact List.mem_cons_self
    obtain ⟨h1, h2⟩ := mem_idxS.1 hi
    rw [h] at hmem hs
    rcases List.mem_cons.1 hmem with e | e
    · exact ⟨l, by rw [e]⟩
    · have h4 := (List.pairwise_cons.1 hs).1 k e
      exact absurd h2 (hm i h4)
theorem TbC.step {n k : Nat} {cs : List ACell} (h : TbC n k cs) (hk : k < n) : giveV 1 cs = (((k : Int), 1), 0, cs.set k (1, 1)) ∧ TbC n (k + 1) (cs.set k (1, 1)) := by
  have hl : k < cs.length := by rw [h.len]; exact hk
  obtain ⟨l, hl0⟩ := tb_first hl (by rw [h.st k hk]; simp) (fun j hj => by rw [h.st j (by omega), if_pos hj]; decide)
  refine ⟨by rw [giveV_some hl0, h.gn k hk, if_neg (by omega)]; rfl, by rw [List.length_set]; exact h.len, fun i hi => ?_, fun i hi => ?_⟩
  · rw [stA_set hl, h.st i hi]
    by_cases e : i = k
    · subst e; rw [if_pos rfl, if_pos (by omega)]
    · rw [if_neg e]
      by_cases e2 : i < k
      · rw [if_pos e2, if_pos (by omega)]
      · rw [if_neg e2, if_neg (by omega)]
  · rw [gnA_set hl, h.gn i hi]
    by_cases e : i = k
    · subst e; rw [if_pos rfl, if_pos (by omega)]
    · rw [if_neg e]
      by_cases e2 : i < k
      · rw [if_pos e2, if_pos (by omega)]
      · rw [if_neg e2, if_neg (by omega)]
def tbS (cs : List ACell) (l : List Cmp) : WoS := ⟨⟨2, cs, l⟩, [], [], false⟩
theorem tb_create {n k : Nat} {cs : List ACell} {l : List Cmp} (h : TbC n k cs) (hk : k < n) : (tbS cs l).create = (((k : Int), 1), 0, tbS (cs.set k (1, 1)) l) := WoS.create_ok (s := tbS cs l) rfl (h.step hk).1
/-- The Descs, turned. -/
def tbD (a b c : Int) : List V3 := [⟨1, a, 0⟩, ⟨2, b, 0⟩, ⟨3, c, 0⟩]
theorem tbD_ok {a b c : Int} (h : (1 ≤ a ∧ a ≤ 3) ∧ (1 ≤ b ∧ b ≤ 3) ∧ (1 ≤ c ∧ c ≤ 4)) : errDs 0 (tbD a b c) = 0 := by
  have e1 : descE ⟨1, a, 0⟩ = 0 := by unfold descE; rw [if_pos (by simp; omega), if_neg (by simp; omega)]
  have e2 : descE ⟨2, b, 0⟩ = 0 := by unfold descE; rw [if_pos (by simp; omega), if_neg (by simp; omega)]
  have e3 : descE ⟨3, c, 0⟩ = 0 := by unfold descE; rw [if_pos (by simp; omega), if_neg (by simp)]
  unfold tbD errDs
  rw [if_pos e1, if_neg (by decide)]
  unfold errDs
  rw [if_pos e2, if_neg (by decide)]
  unfold errDs
  rw [if_pos e3, if_neg (by decide)]
  rfl
theorem tb_turn (zs : List Int) : ∀ j, j ≤ 3 → j ≤ zs.length → ∃ a b c : Int, turnK (tbD 1 1 1) zs j = tbD a b c ∧ (1 ≤ a ∧ a ≤ 3) ∧ (1 ≤ b ∧ b ≤ 3) ∧ (1 ≤ c ∧ c ≤ 4)
  | 0, _, _ => ⟨1, 1, 1, rfl, by decide, by decide, by decide⟩
  | j + 1, h3, hz => by
    obtain ⟨a, b, c, h, ha, hb, hc⟩ := tb_turn zs j (by omega) (by omega)
    have hv : zs[j]? = some (zs[j]'(by omega)) := List.getElem?_eq_getElem (by omega)
    generalize zs[j]'(by omega) = v at hv
    have hj : j = 0 ∨ j = 1 ∨ j = 2 := by omega
    rcases hj with rfl | rfl | rfl
    · refine ⟨turnV 1 v, b, c, ?_, turnV_lt 1 v, hb, hc⟩
      rw [turnK_next (d := ⟨1, 1, 0⟩) rfl hv, h]; rfl
    · refine ⟨a, turnV 2 v, c, ?_, ha, turnV_lt 2 v, hc⟩
      rw [turnK_next (d := ⟨2, 1, 0⟩) rfl hv, h]; rfl
    · refine ⟨a, b, turnV 3 v, ?_, ha, hb, turnV_lt 3 v⟩
      rw [turnK_next (d := ⟨3, 1, 0⟩) rfl hv, h]; rfl
/-! ### A part of each kind -/
structure TbY where
  x : Nat
  a : Int
  v : Value
  f : Option Nat
def TbY.sl (y : TbY) (i : Nat) : SlS := newSl ⟨(i : Int) + 1, y.a, 0⟩ y.v y.f
def tbP (y : Nat → TbY) (i : Nat) : Cmp := ((y i).x, ((y i).sl i).put 69 (mkV ((i : Int) + 1) 7 8))
def tbK (y : Nat → TbY) (k : Nat) : List Cmp := (List.range 3).map fun i => if i < k then tbP y i else ((y i).x, (y i).sl i)
theorem tbK_len (y : Nat → TbY) (k : Nat) : (tbK y k).length = 3 := by simp [tbK]
theorem tbK_at (y : Nat → TbY) {k : Nat} (hk : k < 3) : (tbK y k)[k]? = some ((y k).x, (y k).sl k) := by
  unfold tbK
  rw [List.getElem?_map, List.getElem?_range hk]
  simp
theorem tbK_set (y : Nat → TbY) {k : Nat} (hk : k < 3) : (tbK y k).set k (tbP y k) = tbK y (k + 1) := by
  have : k = 0 ∨ k = 1 ∨ k = 2 := by omega
  rcases this with rfl | rfl | rfl <;> rfl
theorem tb_live {n : Nat} {cs : List ACell} (h : TbC n 70 cs) (hn : 70 ≤ n) (l : List Cmp) : (tbS cs l).e.live (69, 1) = 0 ∧ (tbS cs l).may (69, 1) = 0 := by
  have h1 : stV cs (((69 : Nat) : Int), 1) = 1 := by
    rw [stV_in (by rw [h.len]; omega) (by rw [h.gn 69 (by omega)]; rfl), h.st 69 (by omega)]
    rfl
  have h2 : (tbS cs l).e.live (69, 1) = 0 := EnS.live_zero.2 h1
  refine ⟨h2, ?_⟩
  rw [WoS.may_not4 (by rw [h2]; decide)]
  rfl
theorem tb_err (y : TbY) {k : Nat} (hk : k < 3) : (y.sl k).err 69 (mkV ((k : Int) + 1) 7 8) = 0 := by
  have : k = 0 ∨ k = 1 ∨ k = 2 := by omega
  rcases this with rfl | rfl | rfl <;> rfl
theorem tb_ins {n : Nat} {cs : List ACell} (h : TbC n 70 cs) (hn : 70 ≤ n) (y : Nat → TbY) {k : Nat} (hk : k < 3) : (tbS cs (tbK y k)).ins (69, 1) (k : Nat) (mkV ((k : Int) + 1) 7 8) = (V3.z, false, 0, tbS cs (tbK y (k + 1))) := by
  obtain ⟨h1, h2⟩ := tb_live h hn (tbK y k)
  refine WoS.ins_ok (s := tbS cs (tbK y k)) h2 (e := ⟨2, cs, tbK y (k + 1)⟩) ?_
  have h3 : (tbS cs (tbK y k)).e.slot (k : Nat) = some ((y k).x, (y k).sl k) := by rw [EnS.slot_nat]; exact tbK_at y hk
  unfold EnS.ins
  rw [if_pos h1, h3]
  have he := tb_err (y k) hk
  have e1 : ((y k).sl k).putU 69 (mkV ((k : Int) + 1) 7 8) = V3.z := by unfold SlS.putU; rw [if_pos he]; rfl
  have e2 : ((y k).sl k).putB 69 (mkV ((k : Int) + 1) 7 8) = false := by unfold SlS.putB; rw [decide_eq_true he]; rfl
  show (((y k).sl k).putU 69 _, ((y k).sl k).putB 69 _, ((y k).sl k).err 69 _, (⟨2, cs, (tbK y k).set ((k : Int)).toNat (tbP y k)⟩ : EnS)) = _
  rw [e1, e2, he, Int.toNat_natCast, tbK_set y hk]
theorem tb_evs (y : Nat → TbY) (k : Nat) : ∀ x ∈ (tbK y k), x.2.evs.length < 4611686018427387904 := fun x hx => by
  obtain ⟨i, hi, rfl⟩ := List.mem_map.1 hx
  split
  · have := SlS.put_len ((y i).sl i) 69 (mkV ((i : Int) + 1) 7 8)
    have h0 : ((y i).sl i).evs.length = 0 := rfl
    show (((y i).sl i).put 69 (mkV ((i : Int) + 1) 7 8)).evs.length < _
    omega
  · exact (show 0 < 4611686018427387904 by decide)
theorem tbP_S (y : Nat → TbY) {i : Nat} (hi : i < 3) : (tbP y i).2.S = [69] := by
  have he := tb_err (y i) hi
  unfold tbP
  rw [SlS.put_of he]
  rfl
theorem tb_S (cs : List ACell) (y : Nat → TbY) {i : Nat} (hi : i < 3) : (tbS cs (tbK y 3)).S i = [69] := by
  have h1 : (tbK y 3)[i]? = some (tbP y i) := by
    unfold tbK
    rw [List.getElem?_map, List.getElem?_range hi]
    simp [hi]
  unfold WoS.S
  rw [show (tbS cs (tbK y 3)).e.l = tbK y 3 from rfl, h1]
  exact tbP_S y hi
def tbPl : List ColP := [⟨1, 0⟩, ⟨1, 1⟩, ⟨1, 2⟩]
theorem tb_rows {n : Nat} {cs : List ACell} (h : TbC n 70 cs) (hn : 70 ≤ n) (y : Nat → TbY) : (tbS cs (tbK y 3)).rowsE tbPl = ([69], 0) := by
  have hl : (tbS cs (tbK y 3)).e.l.length = 3 := tbK_len y 3
  have hw : (tbS cs (tbK y 3)).with_ tbPl = [0, 1, 2] := by unfold WoS.with_; rw [hl]; decide
  have ho : (tbS cs (tbK y 3)).wout tbPl = [] := by unfold WoS.wout; rw [hl]; decide
  have hr : (tbS cs (tbK y 3)).rows tbPl = [69] := by
    refine sorted_ext (List.Pairwise.filter _ List.pairwise_lt_range) (List.pairwise_singleton _ _) fun i => ?_
    unfold WoS.rows
    rw [List.mem_filter, List.mem_range, List.mem_singleton]
    unfold WoS.match_
    rw [hw, ho]
    simp only [List.all_cons, List.all_nil, List.any_nil, tb_S cs y (show 0 < 3 by decide), tb_S cs y (show 1 < 3 by decide), tb_S cs y (show 2 < 3 by decide)]
    have hc : (tbS cs (tbK y 3)).e.cs = cs := rfl
    rw [hc, h.len]
    constructor
    · rintro ⟨h1, h2⟩
      simp only [Bool.and_eq_true] at h2
      have := memS_iff.1 h2.1.2.1
      simpa using this
    · rintro rfl
      refine ⟨by omega, ?_⟩
      rw [h.st 69 (by omega)]
      have h7 : memS [69] (69 : Int) = true := (memS_iff (S := [69]) (j := 69)).2 List.mem_cons_self
      have h8 : memS [69] (((69 : Nat) : Int)) = true := h7
      simp only [h8]
      rfl
  unfold WoS.rowsE
  rw [hl, if_pos (show planE 3 tbPl = 0 by decide), hr]
theorem tb_del {n : Nat} {cs : List ACell} (h : TbC n 70 cs) (hn : 70 ≤ n) (y : Nat → TbY) : ∃ t : WoS, (tbS cs (tbK y 3)).del (69, 1) = (3, 0, t) := by
  obtain ⟨h1, h2⟩ := tb_live h hn (tbK y 3)
  have h3 : ofN (tbK y 3) 69 3 = [0, 1, 2] := by
    have h4 : ∀ i, i < 3 → hasAt (tbK y 3) 69 i = true := fun i hi => by
      have h5 : (tbK y 3)[i]? = some (tbP y i) := by
        unfold tbK
        rw [List.getElem?_map, List.getElem?_range hi]
        simp [hi]
      unfold hasAt
      rw [h5]
      show memS (tbP y i).2.S 69 = true
      rw [tbP_S y hi]
      exact memS_iff.2 (by simp : 69 ∈ [69])
    unfold ofN
    rw [show List.range 3 = [0, 1, 2] from rfl]
    simp [h4 0 (by decide), h4 1 (by decide), h4 2 (by decide)]
  refine ⟨_, WoS.del_ok (s := tbS cs (tbK y 3)) h2 (x := 0) (n := 3) (e := ⟨2, (delA 2 cs (69, 1)).2, strL (tbK y 3) 69⟩) ?_⟩
  · unfold EnS.del
    rw [if_pos h1]
    have e : (tbS cs (tbK y 3)).e.l = tbK y 3 := rfl
    rw [e, tbK_len, h3]
    rfl
theorem tb_new {a b c : Int} {l : List Cmp} (h : NewL (tbD a b c) l) : ∃ y : Nat → TbY, l = tbK y 0 := by
  obtain ⟨X0, v0, F0, l1, rfl⟩ := newL_cons h
  have h1 := h.at_ 1
  have h2 := h.at_ 2
  have hlen := h.len
  match l1, hlen with
  | [p, q], _ =>
    obtain ⟨d1, v1, F1, e1, e2⟩ := h1 p rfl
    obtain ⟨d2, v2, F2, e3, e4⟩ := h2 q rfl
    cases e1
    cases e3
    refine ⟨fun i => if i = 0 then ⟨X0, a, v0, F0⟩ else if i = 1 then ⟨p.1, b, v1, F1⟩ else ⟨q.1, c, v2, F2⟩, ?_⟩
    obtain ⟨p1, p2⟩ := p
    obtain ⟨q1, q2⟩ := q
    cases e2
    cases e4
    rfl
end Go.Proofs.YtcnbmfaicbkhcaaGreatDoor
