/-
  The walks of package bits and of what it calls.
-/
import Derived.Test.YtkcbjkadalebjaaDoorOps
import Derived.Test.YtkcbjkadalebjaaDoorWd
import Derived.Test.YtkcbjkadalebjaaDoorBitA
import Derived.Test.YtkcbjkadalebjaaDoorProg
import Derived.Outline
import Derived.Lib.Hide
import Derived.Lib.Walk
import Derived.Lib.BitFns
set_option maxRecDepth 100000
namespace Go.Proofs.YtkcbjkadalebjaaDoor
open Go Go.RowKit

/-- The table of the library's that TrailingZeros64 reads. -/
def Tab (w : World) : Prop := ∀ i, i < 64 → w.cell? ⟨0, i, none⟩ = some (.int .u8 (Lib.deBruijn64tab.getD i 0 : Nat))
theorem Tab.st {w0 w : World} {L : List As} (h : Tab w0) (hs : St w0 L w) : Tab w := fun i hi => Rd.old (h i hi) w hs
theorem Tab.drewN {w : World} (h : Tab w) (n : Nat) : Tab (w.drewN n) := h
theorem tz_arith {x : Nat} (h0 : x ≠ 0) (hx : x < 2 ^ 64) : ∃ p j : Nat, bits .and .u64 (x : Int) (IntKind.u64.wrap (-(x : Int))) = (p : Int) ∧ IntKind.u64.wrap ((p : Int) * 285870213051353865) / 288230376151711744 = (j : Int) ∧ j < 64 ∧ Lib.deBruijn64tab.getD j 0 = Lib.ctz 64 x := by
  obtain ⟨m, h1, h2⟩ := Lib.ctzFrom_spec 64 x (by omega) hx
  have hc : Lib.ctz 64 x = Lib.ctzFrom 64 x := by unfold Lib.ctz; rw [if_neg h0]
  rw [hc]
  generalize Lib.ctzFrom 64 x = k at *
  have ha := Lib.and_neg 64 k m (by rw [← h1]; exact hx)
  rw [← h1] at ha
  have hd := Lib.deBruijn64_at k h2
  refine ⟨2 ^ k, _, ?_, ?_, hd.1, hd.2⟩
  · have : IntKind.u64.wrap (-(x : Int)) = ((2 ^ 64 - x : Nat) : Int) := by rw [IntKind.wrap_u64]; omega
    rw [this, and_u64 _ _ hx (by omega), ha]
  · rw [show ((2 ^ k : Nat) : Int) * 285870213051353865 = ((2 ^ k * 285870213051353865 : Nat) : Int) by simp, IntKind.wrap_u64]
    omega
theorem tz_c (x : Nat) (hx : x < 2 ^ 64) (w : World) (hT : Tab w) : Calls Tryd.prog 60 #[.int .u64 x] w fun e w' => e = .returned (.int .i64 (Lib.ctz 64 x : Nat)) ∧ w = w' := by
  by_cases h0 : x = 0
  · subst h0
    go_enter Tryd.func60, Tryd.ntmps60
    go_wp2
    go_ret
    exact ⟨rfl, rfl⟩
  · obtain ⟨p, j, h1, h2, h3, h4⟩ := tz_arith h0 hx
    have hc := hT j h3
    rw [h4] at hc
    have hb := h0
    have hz : ((x : Int) == 0) = false := by simpa using h0
    have hlt : Lib.ctz 64 x ≤ 64 := by have := (ctz_spec h0 hx).1; omega
    have hw : IntKind.i64.wrap ((Lib.ctz 64 x : Nat) : Int) = (Lib.ctz 64 x : Nat) := IntWalk.i64_in _ (by omega)
    generalize Lib.ctz 64 x = c at *
    clear hT h4 h0 hb
    go_enter Tryd.func60, Tryd.ntmps60
    go_wp2
    go_ret
    exact ⟨rfl, rfl⟩
theorem bitLenAux_log (x : Nat) : ∀ f, x < 2 ^ f → Lib.bitLenAux f x = bitLen x := by
  intro f
  induction f generalizing x with
  | zero => intro h; have : x = 0 := by simpa using h
            subst this; rfl
  | succ f ih =>
    intro h
    unfold Lib.bitLenAux
    split
    · rename_i h0; subst h0; rfl
    · rename_i h0
      rw [ih (x / 2) (by rw [Nat.pow_succ] at h; omega)]
      by_cases h2 : x / 2 = 0
      · have : x = 1 := by omega
        subst this; decide
      · have := bitLen_shift x 1 (by simpa using h2)
        simpa using this.symm
theorem libBitLen {x : Nat} (hx : x < 2 ^ 64) : Lib.bitLen x = bitLen x := bitLenAux_log x 64 hx
section
variable {P : Program} {ops : Array Oper} {Q : Exit → Act → World → Prop} {a : Act} {w : World} {rest : List Oper} {dst : Option Tmp} {ty : TypeId} {pos : String} {after : Array Edge}
theorem wpl_index8 {t : TypeId} {x : Operand} {s : ByteArray} {i : Int} (hx : a.eval x = .int .u8 i) (ht : P.underlying t = some .string) (hs : s = Lib.len8tab) (h0 : 0 ≤ i) (h1 : i ≤ 255)
    (next : ∀ m : Nat, m ≤ 8 → m = Lib.bitLen i.toNat → wpList P ops Q rest (a.put dst (.int .u8 m)) w) : wpList P ops Q (⟨dst, .index t (.const (.string s)) x, ty, pos, after, none⟩ :: rest) a w :=
  wpList_plain rfl fun K hK => by
    subst hs
    unfold Oper.wp execOp
    simp only [hx, show a.eval (.const (.string Lib.len8tab)) = .string Lib.len8tab from rfl, Sem.run_bind, Lib.run_index_len8tab w t .u8 i ht h0 h1, Result.andThen_ok, Sem.run_pure, Lib.len8_of i h0 h1]
    exact hK _ _ (next _ (Lib.bitLen_le8' i h0 h1) rfl)
end
end Go.Proofs.YtkcbjkadalebjaaDoor
