/-
  'Rows.TopBoundsCardSaid' holds: for every input the law returns true, and each argument reads as it did.
-/
import Derived.Test.YtcnbmfaicbkhcaaGreatDoorTopBoundsB
import Derived.Test.YtcnbmfaicbkhcaaGreatDoorCards
import Derived.Test.YtcnbmfaicbkhcaaGreatDoorTie
set_option maxRecDepth 100000
namespace Go.Proofs.YtcnbmfaicbkhcaaGreatDoor.fnTopBounds
open Go Go.RowKit Go.ChangeShapes Go.WideShapes Go.ChangeAt
theorem plain (f : FuncId) (fn : Func) (hf : Tryz.pinned.checked.prog.funcNamed "vivarium/vivariumtop.TopBounds" = some f) (hfn : Tryz.pinned.checked.prog.funcs[f]? = some fn) :
    false = Tryz.pinned.checked.prog.looks [] ∧ ∀ (j : Nat) t, fn.params[j]? = some t → Tryz.pinned.checked.prog.wantsStandIn t = false := by
  obtain rfl : f = 6 := Option.some.inj ((show Tryz.prog.funcNamed "vivarium/vivariumtop.TopBounds" = some 6 by kernel_rfl).symm.trans hf) |>.symm
  obtain rfl : fn = Tryz.f6 := (Option.some.inj (Tryz.func6.symm.trans hfn)).symm
  refine ⟨by kernel_rfl, fun j t ht => ?_⟩
  have hall : (Tryz.f6.params.toList.all fun u => !Tryz.prog.wantsStandIn u) = true := by kernel_rfl
  exact (show Tryz.prog.wantsStandIn t = false by simpa using List.all_eq_true.1 hall t (by simpa using Array.mem_of_getElem? ht))
theorem card : Rows.TopBoundsCardSaid :=
  Claim7.holds_tied_plain_at .later [] _ _ _ _ said (fun _ h => by cases h) (by kernel_rfl) (fun _ h => by cases h) topBounds_row_tie rfl ⟨rfl, rfl⟩ (by kernel_rfl) rfl plain (by kernel_rfl)
end Go.Proofs.YtcnbmfaicbkhcaaGreatDoor.fnTopBounds
namespace Go.Proofs.YtcnbmfaicbkhcaaGreatDoor
theorem topBounds_holds : Rows.TopBoundsCardSaid := fnTopBounds.card
#print axioms topBounds_holds
end Go.Proofs.YtcnbmfaicbkhcaaGreatDoor
