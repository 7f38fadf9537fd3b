/-
  XJP: joined of XRgPl XRgPlA XRgPlB.
-/
import Derived.Test.YtmdjpeblbnbjmaaRg5
import Derived.Test.YtmdjpeblbnbjmaaL11c
import Derived.Test.YtmdjpeblbnbjmaaRgStL
import Derived.Test.YtmdjpeblbnbjmaaJG
/-
  RegPlays: vivariumDescMay.
-/
set_option maxRecDepth 100000
namespace Go.Proofs.Ytmdjpeblbnbjmaa
open Go Go.RowKit
attribute [local irreducible] wpList Calls Code.wp okI okN pS tS memS getG pG insS delS getV pV tV okVal
set_option maxHeartbeats 2000000 in
theorem vdescmay_c {w : World} (d : V3) {e : Int} (he : Hid (descE d = e)) :
    Calls Try.prog 22 #[val3 d] w fun r w' => r = .returned (.int .i64 e) ∧ Grew w w' := by
  by_cases hk : 1 ≤ d.k
  · by_cases hk2 : d.k ≤ 3
    · by_cases h1 : d.a < 1
      · skip
        obtain rfl : e = 1 := by
          rw [← he.out]; unfold descE
          first | (rw [if_neg (by omega)]; done) | (rw [if_neg (by omega)]) | (rw [if_pos (by omega), if_pos (by omega)]) | (rw [if_pos (by omega), if_neg (by omega)])
        clear he
        have hw := St.start w
        go_enter Try.func22, Try.ntmps22
        go_upto_region 1 with (first
          | (refine wpl_box_v (v := val3 d) rfl hw ?_; clear hw; intro g1 w1 hw))
        obtain ⟨c0, c1, c2⟩ := (has3_slot (w0 := w) (L := []) (g := g1) (v := d) (t := 28)).facts hw
        go_wp2
        go_ret
        exact ⟨rfl, hw.made_grew⟩
      · by_cases h2 : 4 < d.a
        · skip
          obtain rfl : e = 1 := by
            rw [← he.out]; unfold descE
            first | (rw [if_neg (by omega)]; done) | (rw [if_neg (by omega)]) | (rw [if_pos (by omega), if_pos (by omega)]) | (rw [if_pos (by omega), if_neg (by omega)])
          clear he
          have hw := St.start w
          go_enter Try.func22, Try.ntmps22
          go_upto_region 1 with (first
            | (refine wpl_box_v (v := val3 d) rfl hw ?_; clear hw; intro g1 w1 hw))
          obtain ⟨c0, c1, c2⟩ := (has3_slot (w0 := w) (L := []) (g := g1) (v := d) (t := 28)).facts hw
          go_wp2
          go_ret
          exact ⟨rfl, hw.made_grew⟩
        · by_cases h3 : d.b < 0
          · skip
            obtain rfl : e = 1 := by
              rw [← he.out]; unfold descE
              first | (rw [if_neg (by omega)]; done) | (rw [if_neg (by omega)]) | (rw [if_pos (by omega), if_pos (by omega)]) | (rw [if_pos (by omega), if_neg (by omega)])
            clear he
            have hw := St.start w
            go_enter Try.func22, Try.ntmps22
            go_upto_region 1 with (first
              | (refine wpl_box_v (v := val3 d) rfl hw ?_; clear hw; intro g1 w1 hw))
            obtain ⟨c0, c1, c2⟩ := (has3_slot (w0 := w) (L := []) (g := g1) (v := d) (t := 28)).facts hw
            go_wp2
            go_ret
            exact ⟨rfl, hw.made_grew⟩
          · by_cases h4 : 1000 < d.b
            · skip
              obtain rfl : e = 1 := by
                rw [← he.out]; unfold descE
                first | (rw [if_neg (by omega)]; done) | (rw [if_neg (by omega)]) | (rw [if_pos (by omega), if_pos (by omega)]) | (rw [if_pos (by omega), if_neg (by omega)])
              clear he
              have hw := St.start w
              go_enter Try.func22, Try.ntmps22
              go_upto_region 1 with (first
                | (refine wpl_box_v (v := val3 d) rfl hw ?_; clear hw; intro g1 w1 hw))
              obtain ⟨c0, c1, c2⟩ := (has3_slot (w0 := w) (L := []) (g := g1) (v := d) (t := 28)).facts hw
              go_wp2
              go_ret
              exact ⟨rfl, hw.made_grew⟩
            · by_cases h5 : d.a = 4
              · by_cases h6 : d.k = 3
                · skip
                  obtain rfl : e = 0 := by
                    rw [← he.out]; unfold descE
                    first | (rw [if_neg (by omega)]; done) | (rw [if_neg (by omega)]) | (rw [if_pos (by omega), if_pos (by omega)]) | (rw [if_pos (by omega), if_neg (by omega)])
                  clear he
                  have hw := St.start w
                  go_enter Try.func22, Try.ntmps22
                  go_upto_region 1 with (first
                    | (refine wpl_box_v (v := val3 d) rfl hw ?_; clear hw; intro g1 w1 hw))
                  obtain ⟨c0, c1, c2⟩ := (has3_slot (w0 := w) (L := []) (g := g1) (v := d) (t := 28)).facts hw
                  go_wp2
                  go_ret
                  exact ⟨rfl, hw.made_grew⟩
                · skip
                  obtain rfl : e = 9 := by
                    rw [← he.out]; unfold descE
                    first | (rw [if_neg (by omega)]; done) | (rw [if_neg (by omega)]) | (rw [if_pos (by omega), if_pos (by omega)]) | (rw [if_pos (by omega), if_neg (by omega)])
                  clear he
                  have hw := St.start w
                  go_enter Try.func22, Try.ntmps22
                  go_upto_region 1 with (first
                    | (refine wpl_box_v (v := val3 d) rfl hw ?_; clear hw; intro g1 w1 hw))
                  obtain ⟨c0, c1, c2⟩ := (has3_slot (w0 := w) (L := []) (g := g1) (v := d) (t := 28)).facts hw
                  go_wp2
                  go_ret
                  exact ⟨rfl, hw.made_grew⟩
              · skip
                obtain rfl : e = 0 := by
                  rw [← he.out]; unfold descE
                  first | (rw [if_neg (by omega)]; done) | (rw [if_neg (by omega)]) | (rw [if_pos (by omega), if_pos (by omega)]) | (rw [if_pos (by omega), if_neg (by omega)])
                clear he
                have hw := St.start w
                go_enter Try.func22, Try.ntmps22
                go_upto_region 1 with (first
                  | (refine wpl_box_v (v := val3 d) rfl hw ?_; clear hw; intro g1 w1 hw))
                obtain ⟨c0, c1, c2⟩ := (has3_slot (w0 := w) (L := []) (g := g1) (v := d) (t := 28)).facts hw
                go_wp2
                go_ret
                exact ⟨rfl, hw.made_grew⟩
    · skip
      obtain rfl : e = 1 := by
        rw [← he.out]; unfold descE
        first | (rw [if_neg (by omega)]; done) | (rw [if_neg (by omega)]) | (rw [if_pos (by omega), if_pos (by omega)]) | (rw [if_pos (by omega), if_neg (by omega)])
      clear he
      have hw := St.start w
      go_enter Try.func22, Try.ntmps22
      go_upto_region 1 with (first
        | (refine wpl_box_v (v := val3 d) rfl hw ?_; clear hw; intro g1 w1 hw))
      obtain ⟨c0, c1, c2⟩ := (has3_slot (w0 := w) (L := []) (g := g1) (v := d) (t := 28)).facts hw
      go_wp2
      go_ret
      exact ⟨rfl, hw.made_grew⟩
  · skip
    obtain rfl : e = 1 := by
      rw [← he.out]; unfold descE
      first | (rw [if_neg (by omega)]; done) | (rw [if_neg (by omega)]) | (rw [if_pos (by omega), if_pos (by omega)]) | (rw [if_pos (by omega), if_neg (by omega)])
    clear he
    have hw := St.start w
    go_enter Try.func22, Try.ntmps22
    go_upto_region 1 with (first
      | (refine wpl_box_v (v := val3 d) rfl hw ?_; clear hw; intro g1 w1 hw))
    obtain ⟨c0, c1, c2⟩ := (has3_slot (w0 := w) (L := []) (g := g1) (v := d) (t := 28)).facts hw
    go_wp2
    go_ret
    exact ⟨rfl, hw.made_grew⟩
end Go.Proofs.Ytmdjpeblbnbjmaa

/-
  RegPlays: its arguments (rows of descriptions, rows of places); plain law.
-/
set_option maxRecDepth 100000
namespace Go.Proofs.Ytmdjpeblbnbjmaa
open Go Go.RowKit Go.ChangeShapes Go.WideShapes Go.Deep
theorem good3D {H : Type} {enc : TypeId × Value → H} {w : World} (n : Nat) (cs : List Value) (y : DataW H × List MemPlace) (h : DataW.trod enc Try.prog w 0 (fun _ => true) true n 28 cs = some y) : ∃ v : V3, cs = c3 v ∧ True := by
  obtain ⟨y0, y1, y2, m, _, hl, h0, h1, h2⟩ := Deep.trod_struct3 Try.underlying28 h
  obtain ⟨a, b, c, rfl⟩ := listl3 (hl.trans (by kernel_rfl))
  obtain ⟨n0, e0, _⟩ := DataW.trod_int Try.underlying3 h0
  obtain ⟨n1, e1, _⟩ := DataW.trod_int Try.underlying3 h1
  obtain ⟨n2, e2, _⟩ := DataW.trod_int Try.underlying3 h2
  rw [show Try.prog.cellsOf 3 = 1 by kernel_rfl] at e0 e1 e2
  simp at e0 e1 e2
  subst e0; subst e1; subst e2
  exact ⟨⟨n0, n1, n2⟩, rfl, trivial⟩
/-- Where a value is put: component, index. -/
structure PutP where
  c : Int
  i : Int
def c2p (o : PutP) : List Value := [.int .i64 o.c, .int .i64 o.i]
def Q2p (o : PutP) : Prop := (Lit.int .i64 o.i).wf = true
theorem listl2 {α : Type} {l : List α} (h : l.length = 2) : ∃ a b, l = [a, b] := by
  match l, h with
  | [a, b], _ => exact ⟨a, b, rfl⟩
theorem good2p {H : Type} {enc : TypeId × Value → H} {w : World} (n : Nat) (cs : List Value) (y : DataW H × List MemPlace) (h : DataW.trod enc Try.prog w 0 (fun _ => true) true n 52 cs = some y) : ∃ x, cs = c2p x ∧ Q2p x := by
  obtain ⟨y0, y1, m, _, hl, h0, h1⟩ := Go.ChangeShapes.trod_struct2 Try.underlying52 h
  obtain ⟨a, b, rfl⟩ := listl2 (hl.trans (by kernel_rfl))
  obtain ⟨n0, e0, _⟩ := DataW.trod_int Try.underlying3 h0
  obtain ⟨n1, e1, _, hwf⟩ := DataW.trod_int Try.underlying3 h1
  rw [show Try.prog.cellsOf 3 = 1 by kernel_rfl] at e0 e1
  simp at e0 e1
  subst e0; subst e1
  exact ⟨⟨n0, n1⟩, rfl, hwf⟩
theorem cs3_flat (l : List V3) : cs3 l = l.flatMap c3 := rfl
end Go.Proofs.Ytmdjpeblbnbjmaa

/-
  RegPlays: plain law; rows of rows as one assertion.
-/
set_option maxRecDepth 100000
namespace Go.Proofs.Ytmdjpeblbnbjmaa
open Go Go.RowKit
/-- Fresh components. -/
def FrL (l : List Cmp) : Prop := ∀ x ∈ l, x.2.S = [] ∧ x.2.evs = [] ∧ descE x.2.d = 0
theorem FrL.nil : FrL [] := fun _ h => nomatch h
theorem FrL.add {l : List Cmp} (h : FrL l) {X : Nat} {d : V3} {v : Value} {F : Option Nat} (hd : descE d = 0) : FrL (l ++ [(X, newSl d v F)]) := fun x hx => by
  rcases List.mem_append.1 hx with h1 | h1
  · exact h x h1
  · obtain rfl := List.mem_singleton.1 h1
    exact ⟨rfl, rfl, hd⟩
theorem dsOf_add (l : List Cmp) (X : Nat) (d : V3) (v : Value) (F : Option Nat) : dsOf (l ++ [(X, newSl d v F)]) = dsOf l ++ [d] := by
  unfold dsOf
  rw [List.map_append]
  rfl
theorem rgE_ok {l : List Cmp} {d : V3} (h : rgE l d = 0) : descE d = 0 := by
  unfold rgE at h
  split at h
  · assumption
  · exact h
theorem rgE_lt {l : List Cmp} {d : V3} (h : rgE l d = 0) : l.length < 64 := by
  unfold rgE at h
  split at h
  · split at h
    · cases h
    · omega
  · exact absurd h (by assumption)
/-- A row of the array: a rising row in memory. -/
structure Rw where
  A : Option Addr
  cap : Nat
  S : List Nat
def hsV (rows : List Rw) : List Value := rows.map fun r => Value.slice r.A r.S.length r.cap
def hsC (rows : List Rw) : Array Value := (hsV rows).toArray
def rwB (r : Rw) : As := own r.A r.S.length r.cap 3 1 (intv r.S)
def HsR (rows : List Rw) : As := big (rows.map rwB)
def HsBut (rows : List Rw) (k : Nat) : As := big ((rows.map rwB).eraseIdx k)
section
variable {w0 w : World} {L : List As} {rows : List Rw} {k : Nat} {x : Rw}
theorem St.hsOut (hk : rows[k]? = some x) (hs : St w0 (HsR rows :: L) w) : St w0 (rwB x :: HsBut rows k :: L) w :=
  hs.ent (Ent.open2 fun _ h => big_out (by simp [hk]) h)
theorem St.hsIn (hk : rows[k]? = some x) {y : Rw} (hs : St w0 (rwB y :: HsBut rows k :: L) w) : St w0 (HsR (rows.set k y) :: L) w := by
  refine hs.ent (Ent.shut2 fun _ h => ?_)
  have h2 := big_in (M := rows.map rwB) (k := k) (p := rwB y) (by rw [List.length_map]; exact (List.getElem?_eq_some_iff.1 hk).1) h
  rwa [show (rows.map rwB).set k (rwB y) = (rows.set k y).map rwB by rw [List.map_set]] at h2
theorem St.hsBack (hk : rows[k]? = some x) (hs : St w0 (rwB x :: HsBut rows k :: L) w) : St w0 (HsR rows :: L) w := by
  have h := hs.hsIn hk
  have e : rows.set k x = rows := by
    obtain ⟨h1, h2⟩ := List.getElem?_eq_some_iff.1 hk
    rw [← h2, List.set_getElem_self]
  rwa [e] at h
theorem hsV_get (hk : rows[k]? = some x) : (hsV rows)[k]? = some (Value.slice x.A x.S.length x.cap) := by simp [hsV, hk]
theorem hsC_get (hk : rows[k]? = some x) : (hsC rows)[k]? = some (Value.slice x.A x.S.length x.cap) := by unfold hsC; rw [List.getElem?_toArray]; exact hsV_get hk
theorem hsC_set (y : Rw) : (hsC rows).setIfInBounds k (Value.slice y.A y.S.length y.cap) = hsC (rows.set k y) := by
  unfold hsC hsV
  rw [List.setIfInBounds_toArray, List.map_set]
end
theorem hs_nil {w0 w : World} {L : List As} : ∀ n : Nat, St w0 L w → St w0 (HsR (List.replicate n ⟨none, 0, []⟩) :: L) w
  | 0, hs => hs.ent fun _ h => emp_star h
  | n + 1, hs => by
    have h1 := (hs_nil n hs).own_nil 3 1
    refine h1.ent (Ent.shut2 fun _ h => ?_)
    exact h
theorem zeroHas : (Try.prog.info? 50).bind (·.zero) = some (.agg (hsC (List.replicate 64 ⟨none, 0, []⟩))) := by kernel_rfl
/-- The components and the rows that the statement keeps. -/
structure PuI (n : Nat) (ds : List V3) (i : Nat) (rows : List Rw) (l : List Cmp) : Prop where
  len : l.length = n
  rl : rows.length = 64
  n64 : n ≤ 64
  dse : dsOf l = ds
  at_ : ∀ (c : Nat) (x : Cmp), l[c]? = some x → ∃ r : Rw, rows[c]? = some r ∧ r.S = x.2.S ∧ x.2.evs.length ≤ i ∧ descE x.2.d = 0
theorem PuI.start {l : List Cmp} (h : FrL l) (h64 : l.length ≤ 64) : PuI l.length (dsOf l) 0 (List.replicate 64 ⟨none, 0, []⟩) l where
  len := rfl
  rl := List.length_replicate ..
  n64 := h64
  dse := rfl
  at_ := fun c x hx => by
    have hlt := (List.getElem?_eq_some_iff.1 hx).1
    obtain ⟨h1, h2, h3⟩ := h x (List.mem_of_getElem? hx)
    refine ⟨⟨none, 0, []⟩, ?_, h1.symm, by rw [h2]; exact Nat.le_refl _, h3⟩
    rw [List.getElem?_replicate, if_pos (by omega)]
theorem SlS.put_le (s : SlS) (i : Int) (v : V3) : (s.put i v).evs.length ≤ s.evs.length + 1 := by
  unfold SlS.put
  split
  · unfold SlS.noted ntE
    simp only
    split
    · simp
    · omega
  · omega
theorem SlS.take_le (s : SlS) (i : Int) : (s.take i).evs.length ≤ s.evs.length + 1 := by
  unfold SlS.take
  split
  · unfold SlS.noted ntE
    simp only
    split
    · simp
    · omega
  · omega
theorem PuI.ev {n i : Nat} {ds : List V3} {rows : List Rw} {l : List Cmp} (h : PuI n ds i rows l) : ∀ x ∈ l, x.2.evs.length ≤ i := fun x hx => by
  obtain ⟨c, hc⟩ := List.mem_iff_getElem?.1 hx
  obtain ⟨_, _, _, h1, _⟩ := h.at_ c x hc
  exact h1
theorem ev_strL {l : List Cmp} {a : Int} {i : Nat} (h : ∀ x ∈ l, x.2.evs.length ≤ i) : ∀ x ∈ strL l a, x.2.evs.length ≤ i + 1 := fun x hx => by
  unfold strL at hx
  obtain ⟨y, hy, rfl⟩ := List.mem_map.1 hx
  have h1 := h y hy
  have h2 := SlS.take_le y.2 a
  show (y.2.take a).evs.length ≤ i + 1
  omega
theorem PuI.step {n i : Nat} {ds : List V3} {rows : List Rw} {l : List Cmp} (h : PuI n ds i rows l) {c X q : Nat} {s : SlS} {v : V3} {r r' : Rw} (hc : l[c]? = some (X, s)) (hr : rows[c]? = some r) (he : s.err (q : Int) v = 0)
    (hr' : r'.S = insS q r.S) : PuI n ds (i + 1) (rows.set c r') (l.set c (X, s.put (q : Int) v)) where
  len := by rw [List.length_set]; exact h.len
  rl := by rw [List.length_set]; exact h.rl
  n64 := h.n64
  dse := by
    rw [← h.dse]
    unfold dsOf
    rw [List.map_set]
    apply List.ext_getElem?
    intro j
    rw [List.getElem?_set]
    split
    · rename_i e
      subst e
      rw [List.getElem?_map, hc]
      have := (List.getElem?_eq_some_iff.1 hc).1
      simp [this, SlS.put_d]
    · rfl
  at_ := fun c' x hx => by
    rw [List.getElem?_set] at hx
    obtain ⟨r2, e1, e2, e3, e4⟩ := h.at_ c _ hc
    obtain rfl : r = r2 := Option.some.inj (hr.symm.trans e1)
    by_cases e : c = c'
    · subst e
      have h1 := (List.getElem?_eq_some_iff.1 hc).1
      have h2 := (List.getElem?_eq_some_iff.1 hr).1
      rw [if_pos rfl, if_pos h1] at hx
      injection hx with hx
      subst hx
      refine ⟨r', ?_, ?_, ?_, ?_⟩
      · rw [List.getElem?_set, if_pos rfl, if_pos h2]
      · rw [hr', e2, SlS.put_of he]; rfl
      · have h5 := SlS.put_le s (q : Int) v
        have e3' : s.evs.length ≤ i := e3
        show (s.put (q : Int) v).evs.length ≤ i + 1
        omega
      · have h6 := SlS.put_d s (q : Int) v
        show descE (s.put (q : Int) v).d = 0
        rw [h6]; exact e4
    · rw [if_neg e] at hx
      obtain ⟨r2, e1, e2, e3, e4⟩ := h.at_ c' x hx
      exact ⟨r2, by rw [List.getElem?_set, if_neg e]; exact e1, e2, by omega, e4⟩
theorem PuI.more {n i : Nat} {ds : List V3} {rows : List Rw} {l : List Cmp} (h : PuI n ds i rows l) : PuI n ds (i + 1) rows l where
  len := h.len
  rl := h.rl
  n64 := h.n64
  dse := h.dse
  at_ := fun c x hx => by
    obtain ⟨r2, e1, e2, e3, e4⟩ := h.at_ c x hx
    exact ⟨r2, e1, e2, by omega, e4⟩
theorem PuI.kind {n i : Nat} {ds : List V3} {rows : List Rw} {l : List Cmp} (h : PuI n ds i rows l) {c : Nat} {x : Cmp} (hc : l[c]? = some x) : ds[c]? = some x.2.d := by
  rw [← h.dse]; unfold dsOf; rw [List.getElem?_map, hc]; rfl
theorem mkV_err {s : SlS} (hd : descE s.d = 0) {q : Nat} (hq : q ≤ 65535) {a b : Int} {v : V3} (hv : mkV s.d.k a b = v) : s.err (q : Int) v = 0 := by
  have hk : 1 ≤ s.d.k ∧ s.d.k ≤ 3 := by
    unfold descE at hd
    split at hd
    · rename_i h; exact ⟨h.1, h.2.1⟩
    · cases hd
  rw [SlS.err_iff, ← hv]
  exact ⟨⟨by omega, by omega⟩, mkV_ok hk a b, mkV_k _ _ _⟩
theorem Rd.any {w0 : World} {a : Addr} {v : Value} (h : Rd w0 [] a v) : ∀ L, Rd w0 L a v
  | [] => h
  | _ :: L => (Rd.any h L).tail
theorem RdS.any {w0 : World} {A : Option Addr} {xs : List Value} (h : RdS w0 [] A xs) : ∀ L, RdS w0 L A xs
  | [] => h
  | _ :: L => (RdS.any h L).tail
theorem St.grew0 {w0 w : World} {L : List As} (hs : St w0 L w) : St w0 [] w := (St.start w0).grew hs.below
theorem RdS.row3 {w0 : World} {L : List As} {A : Option Addr} {l : List V3} {k : Nat} {d : V3} (h : RdS w0 L A (cs3 l)) (hk : l[k]? = some d) : ∃ b o, A = some ⟨b, o, none⟩ ∧ ∀ j u, (c3 d)[j]? = some u → Rd w0 L ⟨b, o + k * 3 + j, none⟩ u := by
  obtain ⟨⟨b, o, sp⟩, h1, h2, h3⟩ := h (k * 3 + 0) _ (rows_get (C := 3) (encX := c3) (fun _ => rfl) hk 0 _ rfl)
  simp only at h2
  subst h2
  refine ⟨b, o, h1, fun j u hu => ?_⟩
  obtain ⟨ad, h1', h2', h3'⟩ := h (k * 3 + j) _ (rows_get (C := 3) (encX := c3) (fun _ => rfl) hk j _ hu)
  rw [h1] at h1'
  injection h1' with h1'
  subst h1'
  rwa [← Nat.add_assoc] at h3'
theorem Rd.row3o {w0 : World} {L : List As} {g n cap k : Nat} {l : List V3} {d : V3} {t : TypeId} (hk : l[k]? = some d) : ∀ j u, (c3 d)[j]? = some u → Rd w0 (Ytmdjpeblbnbjmaa.own (some ⟨g, 0, none⟩) n cap t 3 (cs3 l) :: L) ⟨g, k * 3 + j, none⟩ u := fun j u hu =>
  Rd.own (rows_get (C := 3) (encX := c3) (fun _ => rfl) hk j u hu)
theorem size_rowsI : (Try.prog.info? 46).map (·.size) = some 1 := by kernel_rfl
def lo1 (z : Int) : Nat := (z % 2).toNat
theorem lo1_lt (z : Int) : lo1 z < 2 := by unfold lo1; omega
theorem and_1 (z : Int) : bits .and .i64 z 1 = (lo1 z : Nat) := and_m (p := 1) (by decide)
theorem dsOf_nil : dsOf [] = [] := rfl
theorem RdS.row2p {w0 : World} {L : List As} {A : Option Addr} {l : List PutP} {k : Nat} {d : PutP} (h : RdS w0 L A (l.flatMap c2p)) (hk : l[k]? = some d) : ∃ b o, A = some ⟨b, o, none⟩ ∧ Rd w0 L ⟨b, o + k * 2, none⟩ (.int .i64 d.c) ∧ Rd w0 L ⟨b, o + k * 2 + 1, none⟩ (.int .i64 d.i) := by
  obtain ⟨⟨b, o, sp⟩, h1, h2, h3⟩ := h (k * 2 + 0) _ (rows_get (C := 2) (encX := c2p) (fun _ => rfl) hk 0 _ rfl)
  simp only at h2
  subst h2
  obtain ⟨ad, h1', h2', h3'⟩ := h (k * 2 + 1) _ (rows_get (C := 2) (encX := c2p) (fun _ => rfl) hk 1 _ rfl)
  rw [h1] at h1'
  injection h1' with h1'
  subst h1'
  exact ⟨b, o, h1, h3, h3'⟩
theorem wf_int {z : Int} (h1 : -9223372036854775808 ≤ z) (h2 : z ≤ 9223372036854775807) : (Lit.int .i64 z).wf = true := by
  show (decide (IntKind.i64.min ≤ z) && decide (z ≤ IntKind.i64.max)) = true
  have h1' : IntKind.i64.min = -9223372036854775808 := by decide
  have h2' : IntKind.i64.max = 9223372036854775807 := by decide
  rw [h1', h2', decide_eq_true h1, decide_eq_true h2]
  rfl
theorem descE_cases (d : V3) : descE d = 0 ∨ descE d = 1 ∨ descE d = 9 := by
  unfold descE
  split
  · split
    · exact .inr (.inr rfl)
    · exact .inl rfl
  · exact .inr (.inl rfl)
end Go.Proofs.Ytmdjpeblbnbjmaa
