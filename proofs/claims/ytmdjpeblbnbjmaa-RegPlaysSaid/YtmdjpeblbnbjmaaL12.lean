/-
  The statements' own functions of layer 12: awake.
-/
import Derived.Test.YtmdjpeblbnbjmaaRg3
set_option maxRecDepth 100000
namespace Go.Proofs.Ytmdjpeblbnbjmaa
open Go Go.RowKit
theorem awk12_e : rgE [] ⟨1, 1, 0⟩ = 0 := rfl
theorem awk12_of (X : Nat) (v : Value) (F : Option Nat) : ofN [(X, newSl ⟨1, 1, 0⟩ v F)] 5 [(X, newSl ⟨1, 1, 0⟩ v F)].length = [] := rfl
attribute [local irreducible] wpList Calls Code.wp okI okN pS tS memS getG pG insS delS getV pV tV okVal newSl SlS.put SlS.err SlS.putU SlS.putB descE SlS.take rgE ofN
set_option maxHeartbeats 1000000 in
theorem awake12 {w : World} : Calls Try.prog 14 #[] w fun r w' => r = .returned (.bool true) ∧ Grew w w' := by
  have hs := St.start w
  have hw5 : (Lit.int .i64 5).wf = true := by decide
  go_enter Try.func14, Try.ntmps14
  go_upto_region 5 with (first
    | (go_at_call 10; refine (rg_new hs).mono ?_; clear hs; rintro r w ⟨R, rfl, hs⟩)
    | (go_at_call 11; refine (rg_add hs ⟨1, 1, 0⟩ (Lib.hid awk12_e) (n := 0) rfl).mono ?_; clear hs; rintro r w ⟨X, v, F, rfl, hs⟩))
  have HO := Lib.hid (awk12_of X v F)
  rw [List.nil_append] at hs
  go_wp2_with (first
    | (go_at_call 12; refine (rg_slot hs (c := 0) (x := (X, newSl ⟨1, 1, 0⟩ v F)) (show [(X, newSl ⟨1, 1, 0⟩ v F)][0]? = some (X, newSl ⟨1, 1, 0⟩ v F) from rfl) (X := X) (Lib.hid rfl)).mono ?_; rintro r w ⟨rfl, rfl⟩)
    | (go_at_call 12; refine (rg_slot_no hs (c := 1) (.inr (show ((1 : Nat) : Int) ≤ 1 by decide))).mono ?_; rintro r w ⟨rfl, rfl⟩)
    | (go_at_call 13; refine (rg_len hs (n := 1) rfl).mono ?_; rintro r w ⟨rfl, rfl⟩)
    | (go_at_call 28; refine (rg_of hs hw5 HO).mono ?_; clear hs; rintro r w ⟨B, m, cB, hm, rfl, hs⟩; obtain rfl : m = 0 := hm.out.symm))
  go_ret
  exact ⟨rfl, hs.made_grew⟩
end Go.Proofs.Ytmdjpeblbnbjmaa
