/-
  Variants turned (twin.Turn): plain law.
-/
import Derived.Test.YtcnbmfaicbkhcaaGreatDoorWoLaw
set_option maxRecDepth 100000
namespace Go.Proofs.YtcnbmfaicbkhcaaGreatDoor
open Go Go.RowKit
/-! ### Variants turned -/
def turnV (k n : Int) : Int := 1 + n % (if k = 3 then 4 else 3)
def turnK (ds : List V3) (l : List Int) : Nat → List V3
  | 0 => ds
  | k + 1 => match ds[k]?, l[k]? with
    | some d, some n => (turnK ds l k).set k ⟨d.k, turnV d.k n, d.b⟩
    | _, _ => turnK ds l k
theorem turnK_len (ds : List V3) (l : List Int) : ∀ k, (turnK ds l k).length = ds.length
  | 0 => rfl
  | k + 1 => by
    unfold turnK
    split
    · rw [List.length_set, turnK_len]
    · exact turnK_len ds l k
theorem turnK_at (ds : List V3) (l : List Int) : ∀ (k i : Nat), k ≤ i → (turnK ds l k)[i]? = ds[i]?
  | 0, i, _ => rfl
  | k + 1, i, h => by
    unfold turnK
    split
    · rw [List.getElem?_set, if_neg (by omega)]
      exact turnK_at ds l k i (by omega)
    · exact turnK_at ds l k i (by omega)
theorem turnV_lt (k n : Int) : 1 ≤ turnV k n ∧ turnV k n ≤ (if k = 3 then 4 else 3) := by
  unfold turnV
  split <;> omega
end Go.Proofs.YtcnbmfaicbkhcaaGreatDoor
