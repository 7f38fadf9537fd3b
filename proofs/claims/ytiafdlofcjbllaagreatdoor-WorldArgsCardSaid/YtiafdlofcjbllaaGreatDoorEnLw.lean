/-
  Things with parts: plain law for the statements. No function of the program is walked here.
-/
import Derived.Test.YtiafdlofcjbllaaGreatDoorEn6
import Derived.Test.YtiafdlofcjbllaaGreatDoorJU
set_option maxRecDepth 100000
namespace Go.Proofs.YtiafdlofcjbllaaGreatDoor
open Go Go.RowKit
theorem bit_val {w : Int} (h1 : 0 ≤ w) (h2 : w ≤ 18446744073709551615) (k : Nat) : bits .and .u64 (w / 2 ^ k) 1 = w / 2 ^ k % 2 := by
  obtain ⟨W, rfl⟩ := Int.eq_ofNat_of_zero_le h1
  have e : (W : Int) / 2 ^ k = ((W / 2 ^ k : Nat) : Int) := by rw [Int.natCast_ediv, Int.natCast_pow]; rfl
  have hl : W / 2 ^ k < 2 ^ 64 := Nat.lt_of_le_of_lt (Nat.div_le_self _ _) (by omega)
  rw [e, show (1 : Int) = ((1 : Nat) : Int) from rfl, and_u64 _ _ hl (by decide), Nat.and_one_is_mod]
  omega
theorem ofN_none {l : List Cmp} {i : Int} {k : Nat} (h : ∀ c, hasAt l i c = false) : ofN l i k = [] := by
  unfold ofN
  exact List.filter_eq_nil_iff.2 fun c _ => by rw [h c]; decide
theorem hasAt_strL {l : List Cmp} {a i : Int} {c : Nat} : hasAt (strL l a) i c = (!decide (i = a) && hasAt l i c) := by
  unfold hasAt strL
  rw [List.getElem?_map]
  cases l[c]? with
  | none => simp
  | some x => simp only [Option.map_some]; rw [SlS.take_has]
theorem ofN_strL_same {l : List Cmp} {a : Int} {k : Nat} : ofN (strL l a) a k = [] := ofN_none fun c => by rw [hasAt_strL]; simp
theorem ofN_strL_other {l : List Cmp} {a i : Int} {k : Nat} (h : i ≠ a) : ofN (strL l a) i k = ofN l i k := by
  unfold ofN
  congr 1
  funext c
  rw [hasAt_strL, decide_eq_false h]; rfl
theorem strL_len (l : List Cmp) (i : Int) : (strL l i).length = l.length := by simp [strL]
theorem hasAt_set {l : List Cmp} {k c : Nat} {y : Cmp} {i : Int} (hk : k < l.length) : hasAt (l.set k y) i c = if c = k then y.2.has i else hasAt l i c := by
  unfold hasAt
  rw [List.getElem?_set]
  by_cases h : k = c
  · subst h; simp [hk]
  · rw [if_neg h, if_neg (fun e => h e.symm)]
theorem ofN_congr {l m : List Cmp} {i : Int} : ∀ {k : Nat}, (∀ c, c < k → hasAt l i c = hasAt m i c) → ofN l i k = ofN m i k
  | 0, _ => rfl
  | k + 1, h => by rw [ofN_succ, ofN_succ, h k (Nat.lt_succ_self k), ofN_congr fun c hc => h c (Nat.lt_succ_of_lt hc)]
theorem desc_k {d : V3} (h : descE d = 0) : 1 ≤ d.k ∧ d.k ≤ 3 := by
  unfold descE at h
  split at h
  · rename_i h1; exact ⟨h1.1, h1.2.1⟩
  · cases h
theorem err_fit {s : SlS} {i : Int} (hi : 0 ≤ i ∧ i < 65536) (hd : descE s.d = 0) (a b : Int) : s.err i (mkV s.d.k a b) = 0 := SlS.err_iff.2 ⟨hi, mkV_ok (desc_k hd) a b, mkV_k _ _ _⟩
/-- Components, of which those from k on have nothing yet. -/
structure PtI (ds : List V3) (l : List Cmp) (k : Nat) : Prop where
  len : l.length = ds.length
  at_ : ∀ (c : Nat) (x : Cmp), l[c]? = some x → ds[c]? = some x.2.d ∧ (k ≤ c → x.2.S = [])
  ev : EvL k l
section
variable {ds : List V3} {l : List Cmp} {k : Nat}
theorem NewL.pt (h : NewL ds l) : PtI ds l 0 where
  len := h.len
  at_ c x hx := by
    obtain ⟨d, v, F, h1, h2⟩ := h.at_ c x hx
    rw [h2]
    exact ⟨h1, fun _ => rfl⟩
  ev x hx := by
    obtain ⟨c, hc⟩ := List.getElem?_of_mem hx
    obtain ⟨d, v, F, h1, h2⟩ := h.at_ c x hc
    rw [h2]
    exact Nat.le_refl _
theorem PtI.skip (h : PtI ds l k) : PtI ds l (k + 1) := ⟨h.len, fun c x hx => ⟨(h.at_ c x hx).1, fun hc => (h.at_ c x hx).2 (by omega)⟩, h.ev.more⟩
theorem PtI.put (h : PtI ds l k) {X : Nat} {t : SlS} (hx : l[k]? = some (X, t)) (i : Int) (v : V3) : PtI ds (l.set k (X, t.put i v)) (k + 1) where
  len := by rw [List.length_set]; exact h.len
  at_ c x hc := by
    rw [List.getElem?_set] at hc
    split at hc
    · rename_i e
      subst e
      split at hc
      · injection hc with hc
        subst hc
        refine ⟨?_, fun h2 => by omega⟩
        rw [SlS.put_d]
        exact (h.at_ _ _ hx).1
      · cases hc
    · exact ⟨(h.at_ c x hc).1, fun h2 => (h.at_ c x hc).2 (by omega)⟩
  ev := h.ev.more.set (by
    have h1 := h.ev _ (List.mem_of_getElem? hx)
    have h2 := SlS.put_len t i v
    show (t.put i v).evs.length ≤ _
    have h3 : t.evs.length ≤ k := h1
    omega)
theorem PtI.none (h : PtI ds l k) {c : Nat} (hc : k ≤ c) (i : Int) : hasAt l i c = false := by
  unfold hasAt
  cases hx : l[c]? with
  | none => rfl
  | some x => simp only; unfold SlS.has; rw [(h.at_ c x hx).2 hc]; rfl
theorem ofN_put {X : Nat} {t : SlS} (hx : l[k]? = some (X, t)) {i : Int} {v : V3} (he : t.err i v = 0) : (ofN (l.set k (X, t.put i v)) i (k + 1)).length = (ofN l i k).length + 1 := by
  have hk := (List.getElem?_eq_some_iff.1 hx).1
  have h1 : hasAt (l.set k (X, t.put i v)) i k = true := by rw [hasAt_set hk, if_pos rfl]; show (t.put i v).has i = true; rw [SlS.put_has he]; simp
  rw [ofN_succ, h1, ofN_congr (m := l) fun c hc => by rw [hasAt_set hk, if_neg (by omega)]]
  simp
theorem PtI.ofN_skip (h : PtI ds l k) {i : Int} : ofN l i (k + 1) = ofN l i k := by
  rw [ofN_succ, h.none (Nat.le_refl k) i]
  rfl
end
end Go.Proofs.YtiafdlofcjbllaaGreatDoor
