/-
  SlotBack: the plain law.
-/
import Derived.Test.YtmdjpeblbnbjmaaSlBo
set_option maxRecDepth 100000
namespace Go.Proofs.Ytmdjpeblbnbjmaa
open Go Go.RowKit
structure BackF (s0 s1 s2 s3 : SlS) (i k : Int) (x y o : V3) : Prop where
  e1 : s0.err i x = 0
  b1 : s0.putB i x = false
  e2 : s1.err k y = 0
  b2 : s1.putB k y = false
  e3 : s2.err i o = 9
  p3 : s2.put i o = s2
  e4 : s2.errSet i o = 9
  p4 : s2.set i o = s2
  g5 : s2.get i = x
  h5 : s2.has i = true
  h6 : s3.has i = false
  g7 : s3.get k = y
  h7 : s3.has k = true
  e8 : s3.errSet i x = 10
  n9 : s3.S.length = 1
  l0 : s0.evs.length < 4611686018427387904
  l1 : s1.evs.length < 4611686018427387904
  l2 : s2.evs.length < 4611686018427387904
  l3 : s3.evs.length < 4611686018427387904
theorem backF {d : V3} {v : Value} {F : Option Nat} {i k : Int} {x y o : V3} (hi : 0 ≤ i ∧ i < 65536) (hk : 0 ≤ k ∧ k < 65536) (hne : i ≠ k) (hx : okVal x = true ∧ x.k = d.k) (hy : okVal y = true ∧ y.k = d.k) (ho : o.k ≠ d.k)
    {s1 s2 s3 : SlS} (h1 : (newSl d v F).put i x = s1) (h2 : s1.put k y = s2) (h3 : s2.take i = s3) : BackF (newSl d v F) s1 s2 s3 i k x y o := by
  have hne' : k ≠ i := fun e => hne e.symm
  have hd1 : s1.d = d := by rw [← h1, SlS.put_d]; rfl
  have hd2 : s2.d = d := by rw [← h2, SlS.put_d]; exact hd1
  have hd3 : s3.d = d := by rw [← h3, SlS.take_d]; exact hd2
  have e1 : (newSl d v F).err i x = 0 := SlS.err_iff.2 ⟨hi, hx⟩
  have e2 : s1.err k y = 0 := SlS.err_iff.2 ⟨hk, by rw [hd1]; exact hy⟩
  have hh0 : ∀ j, (newSl d v F).has j = false := fun j => rfl
  have hh1 : ∀ j, s1.has j = decide (j = i) := fun j => by rw [← h1, SlS.put_has e1, hh0, Bool.or_false]
  have hh2 : ∀ j, s2.has j = (decide (j = k) || decide (j = i)) := fun j => by rw [← h2, SlS.put_has e2, hh1]
  have hh3 : ∀ j, s3.has j = (!decide (j = i) && (decide (j = k) || decide (j = i))) := fun j => by rw [← h3, SlS.take_has, hh2]
  have e3 : s2.err i o = 9 := by
    unfold SlS.err
    rw [if_pos (okI_iff.2 hi), if_neg (by rw [hd2]; simp [ho])]
  have h5 : s2.has i = true := by rw [hh2]; simp
  have l0 : (newSl d v F).evs.length = 0 := rfl
  have l1 := SlS.put_len (newSl d v F) i x
  have l2 := SlS.put_len s1 k y
  have l3 := SlS.take_len s2 i
  rw [h1] at l1
  rw [h2] at l2
  rw [h3] at l3
  have w0 : (newSl d v F).S.Pairwise (· < ·) := List.Pairwise.nil
  have w1 : s1.S.Pairwise (· < ·) := h1 ▸ SlS.put_sorted w0
  have w2 : s2.S.Pairwise (· < ·) := h2 ▸ SlS.put_sorted w1
  refine ⟨e1, ?_, e2, ?_, e3, SlS.put_no (by rw [e3]; decide), ?_, SlS.set_no ?_, ?_, h5, ?_, ?_, ?_, ?_, ?_, by omega, by omega, by omega, by omega⟩
  · unfold SlS.putB; rw [hh0, Bool.and_false]
  · unfold SlS.putB; rw [hh1, decide_eq_false hne', Bool.and_false]
  · unfold SlS.errSet; rw [if_neg (by rw [e3]; decide), e3]
  · unfold SlS.errSet; rw [if_neg (by rw [e3]; decide), e3]; decide
  · rw [← h2, SlS.put_get e2, if_neg hne, ← h1, SlS.put_get e1, if_pos rfl]
  · rw [hh3]; simp
  · rw [← h3, SlS.take_get, if_neg hne', ← h2, SlS.put_get e2, if_pos rfl]
  · rw [hh3]; simp [hne']
  · unfold SlS.errSet
    have : s3.err i x = 0 := SlS.err_iff.2 ⟨hi, by rw [hd3]; exact hx⟩
    have hm : s3.has i = false := by rw [hh3]; simp
    rw [if_pos this, show memS s3.S i = false from hm]; rfl
  · have a1 := SlS.put_S e1 (hh0 i)
    have a2 := SlS.put_S e2 (by rw [hh1, decide_eq_false hne'])
    have a3 := SlS.take_S w2 h5
    rw [h1] at a1
    rw [h2] at a2
    rw [h3] at a3
    have a0 : (newSl d v F).S.length = 0 := rfl
    omega
end Go.Proofs.Ytmdjpeblbnbjmaa
