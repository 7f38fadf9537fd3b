/-
  Rows of numbers as cells. No program stands here.
-/
import Derived.Test.YtkcbjkadalebjaaHib4
import Derived.Test.YtkcbjkadalebjaaOps3
namespace Go.Proofs.Ytkcbjkadalebjaa
open Go Go.RowKit
def intv (l : List Nat) : List Value := l.map fun i : Nat => Value.int .i64 (i : Int)
theorem intv_len (l : List Nat) : (intv l).length = l.length := by simp [intv]
theorem intv_append (l : List Nat) (i : Nat) : intv l ++ [Value.int .i64 (i : Int)] = intv (l ++ [i]) := by simp [intv]
theorem intv_get {l : List Nat} {k v : Nat} (h : l[k]? = some v) : (intv l)[k]? = some (.int .i64 (v : Int)) := by simp [intv, h]
theorem insS_len (i : Nat) : ∀ l : List Nat, (insS i l).length ≤ l.length + 1
  | [] => by simp [insS]
  | a :: l => by
    unfold insS
    have := insS_len i l
    split
    · simp
    · split
      · simp
      · simp; omega
theorem addS_len (S : List Nat) (i : Int) : (addS S i).length ≤ S.length + 1 := by
  unfold addS
  split
  · exact insS_len _ _
  · omega
theorem foldS_len : ∀ (zs : List Int) (S : List Nat), (zs.foldl addS S).length ≤ S.length + zs.length
  | [], S => by simp
  | z :: zs, S => by
    have h1 := foldS_len zs (addS S z)
    have h2 := addS_len S z
    simp only [List.foldl_cons, List.length_cons]
    omega
theorem setS_len (zs : List Int) : (setS zs).length ≤ zs.length := by
  have h := foldS_len zs []
  unfold setS
  simpa using h
end Go.Proofs.Ytkcbjkadalebjaa
