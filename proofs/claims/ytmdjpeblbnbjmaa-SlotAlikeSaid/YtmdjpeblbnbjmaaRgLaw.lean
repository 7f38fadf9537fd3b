/-
  Components (reg.Reg): plain law; many slots as one assertion. No function of the program stands here.
-/
import Derived.Test.YtmdjpeblbnbjmaaL11b
set_option maxRecDepth 100000
namespace Go.Proofs.Ytmdjpeblbnbjmaa
open Go Go.RowKit

abbrev Cmp := Nat × SlS
theorem big_out : ∀ {M : List As} {k : Nat} {p : As} {h : Hl}, M[k]? = some p → big M h → star p (big (M.eraseIdx k)) h
  | [], k, p, h, e, _ => by simp at e
  | q :: M, 0, p, h, e, hb => by
    simp at e; subst e; exact hb
  | q :: M, k + 1, p, h, e, hb => by
    have hb' : star q (big M) h := hb
    exact star_left (star_mono (fun _ x => x) (fun _ x => big_out (by simpa using e) x) hb')
theorem big_in : ∀ {M : List As} {k : Nat} {p : As} {h : Hl}, k < M.length → star p (big (M.eraseIdx k)) h → big (M.set k p) h
  | [], k, p, h, e, _ => by simp at e
  | q :: M, 0, p, h, e, hb => hb
  | q :: M, k + 1, p, h, e, hb => by
    have hb' : star p (star q (big (M.eraseIdx k))) h := hb
    exact star_mono (fun _ x => x) (fun _ x => big_in (by simpa using e) x) (star_left hb')
/-- Some slots. -/
def Sls (l : List Cmp) : As := big (l.map fun (y : Cmp) => SlB y.1 y.2)
def SlsBut (l : List Cmp) (k : Nat) : As := big ((l.map fun (y : Cmp) => SlB y.1 y.2).eraseIdx k)
section
variable {w0 w : World} {L : List As} {l : List Cmp} {k : Nat} {x : Cmp}
theorem St.slsOut (hk : l[k]? = some x) (hs : St w0 (Sls l :: L) w) : St w0 (SlB x.1 x.2 :: SlsBut l k :: L) w :=
  hs.ent (Ent.open2 fun _ h => big_out (by simp [hk]) h)
theorem St.slsIn (hk : l[k]? = some x) {s' : SlS} (hs : St w0 (SlB x.1 s' :: SlsBut l k :: L) w) : St w0 (Sls (l.set k (x.1, s')) :: L) w := by
  refine hs.ent (Ent.shut2 fun _ h => ?_)
  have h2 := big_in (M := l.map fun (y : Cmp) => SlB y.1 y.2) (k := k) (p := SlB x.1 s') (by rw [List.length_map]; exact (List.getElem?_eq_some_iff.1 hk).1) h
  rwa [show (l.map fun (y : Cmp) => SlB y.1 y.2).set k (SlB x.1 s') = (l.set k (x.1, s')).map fun (y : Cmp) => SlB y.1 y.2 by rw [List.map_set]] at h2
theorem St.slsBack (hk : l[k]? = some x) (hs : St w0 (SlB x.1 x.2 :: SlsBut l k :: L) w) : St w0 (Sls l :: L) w := by
  have h := hs.slsIn hk
  have e : l.set k (x.1, x.2) = l := by
    obtain ⟨h1, h2⟩ := List.getElem?_eq_some_iff.1 hk
    rw [show (x.1, x.2) = x from rfl, ← h2, List.set_getElem_self]
  rwa [e] at h
theorem Ent.slsAdd {X : Nat} {s : SlS} : Ent (SlB X s :: Sls l :: L) (Sls (l ++ [(X, s)]) :: L) := by
  have h : ∀ (M : List As) (p : As) (h : Hl), star p (big M) h → big (M ++ [p]) h := by
    intro M
    induction M with
    | nil => exact fun p h hb => hb
    | cons q M ih => exact fun p h hb => star_mono (fun _ x => x) (fun _ x => ih p _ x) (star_left hb)
  refine Ent.shut2 fun x hx => ?_
  unfold Sls
  rw [List.map_append]
  exact h _ _ _ hx
theorem St.slsNil (hs : St w0 L w) : St w0 (Sls [] :: L) w := hs.ent fun _ h => emp_star h
end
/-- Which components an index has. -/
def hasAt (l : List Cmp) (i : Int) (c : Nat) : Bool := match l[c]? with
  | some x => x.2.has i
  | none => false
def ofN (l : List Cmp) (i : Int) (k : Nat) : List Nat := (List.range k).filter (hasAt l i)
theorem ofN_succ (l : List Cmp) (i : Int) (k : Nat) : ofN l i (k + 1) = if hasAt l i k then ofN l i k ++ [k] else ofN l i k := by
  unfold ofN
  rw [List.range_succ, List.filter_append]
  cases h : hasAt l i k <;> simp [h]
theorem ofN_le (l : List Cmp) (i : Int) (k : Nat) : (ofN l i k).length ≤ k := by
  unfold ofN
  exact Nat.le_trans (List.length_filter_le _ _) (by simp)
theorem mem_ofN {l : List Cmp} {i : Int} {k c : Nat} : c ∈ ofN l i k ↔ c < k ∧ hasAt l i c = true := by simp [ofN]
theorem ofN_nodup (l : List Cmp) (i : Int) (k : Nat) : (ofN l i k).Nodup := List.Pairwise.filter _ List.nodup_range
/-- Some components stripped of an index. -/
def strF (i : Int) : List Cmp → List Nat → List Cmp
  | l, [] => l
  | l, c :: o => strF i (match l[c]? with | some x => l.set c (x.1, x.2.take i) | none => l) o
theorem strF_get (i : Int) : ∀ (o : List Nat) (l : List Cmp) (c : Nat), o.Nodup → (strF i l o)[c]? = if c ∈ o then l[c]?.map (fun x => (x.1, x.2.take i)) else l[c]?
  | [], l, c, _ => by simp [strF]
  | a :: o, l, c, h => by
    obtain ⟨h1, h2⟩ := List.nodup_cons.1 h
    unfold strF
    rw [strF_get i o _ c h2]
    cases ha : l[a]? with
    | none =>
      simp only
      by_cases hc : c ∈ o
      · rw [if_pos hc, if_pos (List.mem_cons_of_mem _ hc)]
      · rw [if_neg hc]
        by_cases e : c = a
        · subst e; rw [if_pos List.mem_cons_self, ha]; rfl
        · rw [if_neg (by simp [e, hc])]
    | some x =>
      simp only
      by_cases hc : c ∈ o
      · have e : c ≠ a := fun e => h1 (e ▸ hc)
        rw [if_pos hc, if_pos (List.mem_cons_of_mem _ hc), List.getElem?_set, if_neg (fun h => e h.symm)]
      · rw [if_neg hc]
        by_cases e : c = a
        · subst e
          rw [if_pos List.mem_cons_self, List.getElem?_set, if_pos rfl, ha]
          have := (List.getElem?_eq_some_iff.1 ha).1
          simp [this]
        · rw [if_neg (by simp [e, hc]), List.getElem?_set, if_neg (fun h => e h.symm)]
theorem strF_app (i : Int) : ∀ (o : List Nat) (l : List Cmp) (c : Nat), strF i l (o ++ [c]) = (match (strF i l o)[c]? with | some x => (strF i l o).set c (x.1, x.2.take i) | none => strF i l o)
  | [], l, c => rfl
  | a :: o, l, c => by
    rw [List.cons_append]
    unfold strF
    exact strF_app i o _ c
def strL (l : List Cmp) (i : Int) : List Cmp := l.map fun x => (x.1, x.2.take i)
theorem strF_all (l : List Cmp) (i : Int) : strF i l (ofN l i l.length) = strL l i := by
  apply List.ext_getElem?
  intro c
  rw [strF_get _ _ _ _ (ofN_nodup _ _ _), strL, List.getElem?_map]
  by_cases hc : c ∈ ofN l i l.length
  · rw [if_pos hc]
  · rw [if_neg hc]
    cases hl : l[c]? with
    | none => rfl
    | some x =>
      have hlt := (List.getElem?_eq_some_iff.1 hl).1
      have hh : x.2.has i = false := by
        cases hx : x.2.has i with
        | false => rfl
        | true => exact absurd (mem_ofN.2 ⟨hlt, by unfold hasAt; rw [hl]; exact hx⟩) hc
      rw [Option.map_some, SlS.take_no hh]
def rgP (l : List Cmp) : List Value := l.map fun x => .pointer (some ⟨x.1, 0, none⟩)
theorem rgP_len (l : List Cmp) : (rgP l).length = l.length := by simp [rgP]
theorem rgP_get {l : List Cmp} {k : Nat} {x : Cmp} (h : l[k]? = some x) : (rgP l)[k]? = some (.pointer (some ⟨x.1, 0, none⟩)) := by simp [rgP, h]
theorem rgP_set {l : List Cmp} {k : Nat} {x : Cmp} (h : l[k]? = some x) (s : SlS) : rgP (l.set k (x.1, s)) = rgP l := by
  unfold rgP
  rw [List.map_set]
  apply List.ext_getElem?
  intro j
  rw [List.getElem?_set]
  split
  · rename_i e
    subst e
    rw [List.getElem?_map, h]
    have := (List.getElem?_eq_some_iff.1 h).1
    simp [this]
  · rfl
theorem rgP_strL (l : List Cmp) (i : Int) : rgP (strL l i) = rgP l := by simp [rgP, strL]
theorem rgP_append (a b : List Cmp) : rgP (a ++ b) = rgP a ++ rgP b := by simp [rgP]
theorem rgP_one (l : List Cmp) : ∀ u ∈ rgP l, u.oneCell' = true := by
  intro u hu
  obtain ⟨x, _, rfl⟩ := List.mem_map.1 hu
  rfl
/-- The error of adding. -/
def rgE (l : List Cmp) (d : V3) : Int := if descE d = 0 then (if 64 ≤ l.length then 2 else 0) else descE d
end Go.Proofs.Ytmdjpeblbnbjmaa
