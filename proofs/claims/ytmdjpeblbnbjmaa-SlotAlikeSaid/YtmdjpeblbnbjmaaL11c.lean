/-
  The statements' own functions of layer 11: rows of calls; SameEvents of the document.
-/
import Derived.Test.YtmdjpeblbnbjmaaSlBo
import Derived.Test.YtmdjpeblbnbjmaaJA
set_option maxRecDepth 100000
namespace Go.Proofs.Ytmdjpeblbnbjmaa
open Go Go.RowKit Go.ChangeShapes Go.WideShapes Go.Deep
/-- A call of a script. -/
structure OpS where
  k : Int
  i : Int
  v : V3
def c5o (o : OpS) : List Value := [.int .i64 o.k, .int .i64 o.i, .int .i64 o.v.k, .int .i64 o.v.a, .int .i64 o.v.b]
theorem c5o_len (o : OpS) : (c5o o).length = 5 := rfl
theorem c5o_one (o : OpS) : ∀ u ∈ c5o o, u.oneCell' = true := by simp [c5o]; exact ⟨rfl, rfl, rfl, rfl, rfl⟩
theorem listl3 {α : Type} {l : List α} (h : l.length = 3) : ∃ a b c, l = [a, b, c] := by
  match l, h with
  | [a, b, c], _ => exact ⟨a, b, c, rfl⟩
theorem listl5 {α : Type} {l : List α} (h : l.length = 5) : ∃ a b c d e, l = [a, b, c, d, e] := by
  match l, h with
  | [a, b, c, d, e], _ => exact ⟨a, b, c, d, e, rfl⟩
theorem good3V {H : Type} {enc : TypeId × Value → H} {w : World} {n : Nat} {cs : List Value} {y : DataW H × List MemPlace} (h : DataW.trod enc Try.prog w 0 (fun _ => true) true n 40 cs = some y) : ∃ v : V3, cs = c3 v := by
  obtain ⟨y0, y1, y2, m, _, hl, h0, h1, h2⟩ := Deep.trod_struct3 Try.underlying40 h
  obtain ⟨a, b, c, rfl⟩ := listl3 (hl.trans (by kernel_rfl))
  obtain ⟨n0, e0, _⟩ := DataW.trod_int Try.underlying3 h0
  obtain ⟨n1, e1, _⟩ := DataW.trod_int Try.underlying2 h1
  obtain ⟨n2, e2, _⟩ := DataW.trod_int Try.underlying2 h2
  rw [show Try.prog.cellsOf 3 = 1 by kernel_rfl] at e0
  rw [show Try.prog.cellsOf 2 = 1 by kernel_rfl] at e1 e2
  simp at e0 e1 e2
  subst e0; subst e1; subst e2
  exact ⟨⟨n0, n1, n2⟩, rfl⟩
def Q5o (o : OpS) : Prop := (Lit.int .i64 o.i).wf = true
theorem good5o {H : Type} {enc : TypeId × Value → H} {w : World} (n : Nat) (cs : List Value) (y : DataW H × List MemPlace) (h : DataW.trod enc Try.prog w 0 (fun _ => true) true n 72 cs = some y) : ∃ x, cs = c5o x ∧ Q5o x := by
  obtain ⟨y0, y1, y2, m, _, hl, h0, h1, h2⟩ := Deep.trod_struct3 Try.underlying72 h
  obtain ⟨a, b, c, d, e, rfl⟩ := listl5 (hl.trans (by kernel_rfl))
  obtain ⟨n0, e0, _⟩ := DataW.trod_int Try.underlying3 h0
  obtain ⟨n1, e1, _, hwf⟩ := DataW.trod_int Try.underlying3 h1
  obtain ⟨v, e2⟩ := good3V h2
  rw [show Try.prog.cellsOf 3 = 1 by kernel_rfl] at e0 e1
  rw [show Try.prog.cellsOf 40 = 3 by kernel_rfl] at e2
  simp at e0 e1
  simp [c3] at e2
  subst e0; subst e1
  obtain ⟨rfl, rfl, rfl⟩ := e2
  exact ⟨⟨n0, n1, v⟩, rfl, hwf⟩
attribute [local irreducible] wpList Calls Code.wp
theorem RdS.facts2 {w0 w : World} {L : List As} {A : Option Addr} {l : List Ev} {k : Nat} {x : Ev} (h : RdS w0 L A (es2 l)) (hs : St w0 L w) (hk : l[k]? = some x) : ∃ b o, A = some ⟨b, o, none⟩ ∧ w.cell? ⟨b, o + k * 2, none⟩ = some (.int .i64 x.1) ∧ w.cell? ⟨b, o + k * 2 + 1, none⟩ = some (.int .i64 x.2) := by
  obtain ⟨⟨b, o, sp⟩, h1, h2, h3⟩ := h (k * 2) (.int .i64 x.1) (by have := es2_get hk 0 _ rfl; simpa using this)
  obtain ⟨ad, h1', h2', h3'⟩ := h (k * 2 + 1) (.int .i64 x.2) (es2_get hk 1 _ rfl)
  simp only at h2
  subst h2
  rw [h1] at h1'
  injection h1' with h1'
  subst h1'
  exact ⟨b, o, h1, h3 _ hs, by have := h3' _ hs; rwa [← Nat.add_assoc] at this⟩
theorem samee_c {w0 w : World} {L : List As} (hs : St w0 L w) {A B : Option Addr} {n cap cap2 : Nat} {l : List Ev} (hn : Hid (l.length = n)) (hb : n ≤ 4000000000) (hA : RdS w0 L A (es2 l)) (hB : RdS w0 L B (es2 l)) :
    Calls Try.prog 34 #[.slice A n cap, .slice B n cap2] w fun e w' => e = .returned (.bool true) ∧ Grew w w' := by
  go_enter Try.func34, Try.ntmps34
  go_wp2
  go_loopw [5] (fun cv wr => ∃ k : Nat, k ≤ n ∧ cv = .int .i64 (k : Nat) ∧ Grew w wr) (fun cv _ => n - (intOf cv).toNat)
  case atStart => exact ⟨0, Nat.zero_le _, rfl, Grew.refl _⟩
  case round =>
    obtain ⟨k, hk, rfl, hg⟩ := hrel
    by_cases hlt : k < n
    · obtain ⟨x, hx⟩ : ∃ x, l[k]? = some x := ⟨_, List.getElem?_eq_getElem (by rw [hn.out]; exact hlt)⟩
      obtain ⟨b1, o1, rfl, p1, p2⟩ := hA.facts2 (hs.grew hg) hx
      obtain ⟨b2, o2, rfl, q1, q2⟩ := hB.facts2 (hs.grew hg) hx
      go_upto_region 6 with (fail)
      refine wp_region_grow (by kernel_rfl) (by kernel_rfl) fun hne => ?_
      have p1' := fun p : GW wr => p.grew.cell p1
      have p2' := fun p : GW wr => p.grew.cell p2
      have q1' := fun p : GW wr => p.grew.cell q1
      have q2' := fun p : GW wr => p.grew.cell q2
      repeat (go_big_quiet_step (fail))
      refine wpQuiet_nil ?_
      intro u hu
      clear p1 p2 q1 q2 p1' p2' q1' q2' hne
      go_wp2
      go_roundw
      case rel => exact ⟨k + 1, by omega, by go_num, hg.trans hu⟩
      case measure => simp [intOf] <;> omega
    · obtain rfl : k = n := by omega
      go_wp2
      go_ret
      exact ⟨rfl, hg⟩
end Go.Proofs.Ytmdjpeblbnbjmaa
