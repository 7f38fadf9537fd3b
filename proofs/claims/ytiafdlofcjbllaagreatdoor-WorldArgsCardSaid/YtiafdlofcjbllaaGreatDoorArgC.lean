/-
  An argument that is a Config.
-/
import Derived.Test.YtiafdlofcjbllaaGreatDoorJA
import Derived.Test.YtiafdlofcjbllaaGreatDoorArgE
import Derived.Test.YtiafdlofcjbllaaGreatDoorOpE
import Derived.Lib.SmallJoins
set_option maxRecDepth 100000
namespace Go.Proofs.YtiafdlofcjbllaaGreatDoor
open Go Go.RowKit Go.ChangeShapes Go.WideShapes Go.Deep Go.Lib
def CfgArg (w0 : World) (v : Value) : Prop := ∃ (n top : Int) (v2 v3 : Value) (ds : List V3) (rs : List Int), v = .agg #[.int .i64 n, .int .i64 top, v2, v3] ∧ RowsArg YtiafdlofcjbllaaGreatDoor.c3 (fun _ => True) w0 v2 ds ∧ IntArg w0 v3 rs ∧ ∀ l c, v3 = .slice none l c → l = 0 ∧ c = 0
theorem open_cfg {H : Type} {enc : TypeId × Value → H} {w : World} {b0 : Nat} {r : Reach} {v : Value} {d : DataW H} {ps : List MemPlace} (hv : Value.okWide Tryz.prog w r b0 28 v) (h : DataW.Trod enc Tryz.prog w 0 (fun _ => true) true 28 v d ps) : CfgArg w v := by
  obtain ⟨c0, c1, c2, c3, y0, y1, y2, y3, m, rfl, _, _, h0, h1, h2, h3⟩ := Joins.open_agg4 Tryz.underlying28 (by kernel_rfl) (by kernel_rfl) hv h
  obtain ⟨n0, e0, _⟩ := DataW.trod_int Tryz.underlying3 h0
  obtain ⟨n1, e1, _⟩ := DataW.trod_int Tryz.underlying2 h1
  simp only [List.cons.injEq, and_true] at e0 e1
  subst e0; subst e1
  have k2 : ∃ A l c, c2 = .slice A l c := by
    rcases open_slice Tryz.underlying24 h2 with ⟨hc, _⟩ | ⟨a, len, cap, _, _, _, _, hc, _⟩
    · simp only [List.cons.injEq, and_true] at hc; exact ⟨_, _, _, hc⟩
    · simp only [List.cons.injEq, and_true] at hc; exact ⟨_, _, _, hc⟩
  have k3 : ∃ A l c, c3 = .slice A l c ∧ (A = none → l = 0 ∧ c = 0) := by
    rcases open_slice Tryz.underlying26 h3 with ⟨hc, _⟩ | ⟨a, len, cap, _, _, _, _, hc, _⟩
    · simp only [List.cons.injEq, and_true] at hc; exact ⟨_, _, _, hc, fun _ => ⟨rfl, rfl⟩⟩
    · simp only [List.cons.injEq, and_true] at hc; exact ⟨_, _, _, hc, fun q => by cases q⟩
  obtain ⟨A2, l2, p2, rfl⟩ := k2
  obtain ⟨A3, l3, p3, rfl, k4⟩ := k3
  obtain ⟨ds, hds⟩ := open_rows (encX := YtiafdlofcjbllaaGreatDoor.c3) (Q := fun _ => True) (C := 3) (v := .slice A2 l2 p2) (fun _ => rfl) (by decide) Tryz.underlying24 (by kernel_rfl) good3E ⟨_, _, _, rfl⟩ ⟨m, h2⟩
  obtain ⟨rs, hrs⟩ := open_int_arg (v := .slice A3 l3 p3) Tryz.underlying26 Tryz.underlying2 (by kernel_rfl) ⟨_, _, _, rfl⟩ ⟨m, h3⟩
  exact ⟨n0, n1, _, _, ds, rs, rfl, hds, hrs, fun l c q => by cases q; exact k4 rfl⟩
end Go.Proofs.YtiafdlofcjbllaaGreatDoor
