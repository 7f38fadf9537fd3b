/-
  Arguments that are slices of slices, and of nodes.
-/
import Derived.Test.YtkcbjkadalebjaaEx13
import Derived.Test.YtkcbjkadalebjaaArgs
set_option maxRecDepth 100000
namespace Go.Proofs.Ytkcbjkadalebjaa
open Go Go.RowKit Go.ChangeShapes Go.WideShapes Go.Deep

/-- A slice of ints in a cell. -/
structure IRow where
  zs : List Int
  B : Option Addr
  bc : Nat
def encI (r : IRow) : List Value := [.slice r.B r.zs.length r.bc]
structure QI (w : World) (r : IRow) : Prop where
  le : r.zs.length ≤ r.bc
  bound : r.bc ≤ maxLen
  kids : KidsR w r.B r.zs
  nil : r.B = none → r.zs.length = 0 ∧ r.bc = 0
  fit : ∀ z ∈ r.zs, -9223372036854775808 ≤ z ∧ z ≤ 9223372036854775807
theorem goodI {H : Type} {enc : TypeId × Value → H} {w : World} (n : Nat) (cs : List Value) (y : DataW H × List MemPlace) (h : DataW.trod enc Try.prog w 0 (fun _ => true) true n 22 cs = some y) : ∃ x, cs = encI x ∧ QI w x := by
  rcases open_ints Try.underlying22 Try.underlying3 (by kernel_rfl) h with ⟨hcs, _⟩ | ⟨a, len, cap, zs, hcs, _, hlc, hcm, hz, _, hcell, hw⟩
  · exact ⟨⟨[], none, 0⟩, hcs, Nat.le_refl _, Nat.zero_le _, (fun j y h => by simp at h), (fun _ => ⟨rfl, rfl⟩), (fun z h => nomatch h)⟩
  · simp at hz
    have hl : (zs.take len).length = len := by rw [List.length_take]; omega
    refine ⟨⟨zs.take len, some a, cap⟩, by rw [hcs]; unfold encI; simp only [hl], by simp only [hl]; exact hlc, hcm, fun j y hy => ?_, (fun h => nomatch h), (fun z hm => bounds_i64 (hw z (List.mem_of_mem_take hm)))⟩
    obtain ⟨hj, e⟩ := List.getElem?_eq_some_iff.1 hy
    simp only [hl] at hj
    obtain ⟨b, o, rfl, hp2⟩ := ints_at hcell (by omega)
    refine ⟨b, o, rfl, ?_⟩
    rw [hp2 j (by omega)]
    simp only [List.getElem_take] at e
    rw [← e, List.getD_eq_getElem?_getD, List.getElem?_eq_getElem (by omega)]
    rfl
/-- A node in its cells. -/
structure NRow where
  x : RNode
  B : Option Addr
  bc : Nat
def encN (r : NRow) : List Value := [.int .i64 r.x.k, .slice r.B r.x.kids.length r.bc]
structure QN (w : World) (r : NRow) : Prop where
  row : QI w ⟨r.x.kids, r.B, r.bc⟩
  fit : -9223372036854775808 ≤ r.x.k ∧ r.x.k ≤ 9223372036854775807
theorem list_two {cs : List Value} (h : cs.length = 2) : ∃ a b, cs = [a, b] := by
  match cs, h with
  | [a, b], _ => exact ⟨a, b, rfl⟩
theorem goodN {H : Type} {enc : TypeId × Value → H} {w : World} (n : Nat) (cs : List Value) (y : DataW H × List MemPlace) (h : DataW.trod enc Try.prog w 0 (fun _ => true) true n 38 cs = some y) : ∃ x, cs = encN x ∧ QN w x := by
  obtain ⟨y0, y1, m, _, hl, h0, h1⟩ := Go.ChangeShapes.trod_struct2 Try.underlying38 h
  obtain ⟨a, b, rfl⟩ := list_two (hl.trans (by kernel_rfl))
  obtain ⟨n0, e0, hw0⟩ := DataW.trod_int Try.underlying3 h0
  obtain ⟨r, e1, hq⟩ := goodI _ _ _ h1
  rw [show Try.prog.cellsOf 3 = 1 by kernel_rfl] at e0
  rw [show Try.prog.cellsOf 22 = 1 by kernel_rfl] at e1
  simp at e0
  simp [encI] at e1
  subst e0; subst e1
  exact ⟨⟨⟨n0, r.zs⟩, r.B, r.bc⟩, rfl, hq, bounds_i64 hw0.2⟩
/-- Nodes that came as an argument. -/
theorem rows_ndv {w : World} {v : Value} {rs : List NRow} (h : RowsArg encN (QN w) w v rs) : ∃ A cap, v = .slice A rs.length cap ∧ rs.length ≤ cap ∧ cap ≤ maxLen ∧
    ∀ (i : Nat) (r : NRow), rs[i]? = some r → QN w r ∧ ∃ b o, A = some ⟨b, o, none⟩ ∧ w.cell? ⟨b, o + i * 2, none⟩ = some (.int .i64 r.x.k) ∧ w.cell? ⟨b, o + i * 2 + 1, none⟩ = some (.slice r.B r.x.kids.length r.bc) := by
  obtain ⟨A, cap, rfl, h1, h2, h3, h4⟩ := h
  refine ⟨A, cap, rfl, h1, h2, fun i r hr => ⟨h4 r (List.mem_of_getElem? hr), ?_⟩⟩
  have g0 := flat_get (f := encN) (p := 2) (fun _ => rfl) hr 0 _ rfl
  have g1 := flat_get (f := encN) (p := 2) (fun _ => rfl) hr 1 _ rfl
  obtain ⟨⟨b, o, s⟩, rfl, hs, c0⟩ := h3 _ _ g0
  obtain ⟨ad, e, _, c1⟩ := h3 _ _ g1
  injection e with e
  subst e
  simp only at hs
  subst hs
  refine ⟨b, o, rfl, c0 w (St.start w), ?_⟩
  have := c1 w (St.start w)
  rw [← Nat.add_assoc] at this
  exact this
theorem nd_short {w : World} {A : Option Addr} {rs : List NRow} (h : ∀ (i : Nat) (r : NRow), rs[i]? = some r → QN w r ∧ ∃ b o, A = some ⟨b, o, none⟩ ∧ w.cell? ⟨b, o + i * 2, none⟩ = some (.int .i64 r.x.k) ∧ w.cell? ⟨b, o + i * 2 + 1, none⟩ = some (.slice r.B r.x.kids.length r.bc))
    (hs : ∀ r ∈ rs, r.x.kids.length ≤ 80) : NdV w A (rs.map NRow.x) := ⟨fun i x hx => by
  rw [List.getElem?_map] at hx
  cases hr : rs[i]? with
  | none => rw [hr] at hx; cases hx
  | some r =>
    rw [hr] at hx
    have hx : r.x = x := by simpa using hx
    subst hx
    obtain ⟨hq, b, o, rfl, c0, c1⟩ := h i r hr
    have := hs r (List.mem_of_getElem? hr)
    exact ⟨b, o, r.B, r.bc, rfl, c0, c1, hq.row.kids, by omega, hq.row.nil⟩⟩
end Go.Proofs.Ytkcbjkadalebjaa
