/-
  EntArgs: New of any size, the document's May; the walk.
-/
import Derived.Test.YtcnbmfaicbkhcaaGreatDoorEnLw
import Derived.Test.YtcnbmfaicbkhcaaGreatDoorJA
import Derived.Test.YtcnbmfaicbkhcaaGreatDoorOpE
set_option maxRecDepth 100000
namespace Go.Proofs.YtcnbmfaicbkhcaaGreatDoor
open Go Go.RowKit
theorem alMay_iff {n top : Int} : alMay n top = true ↔ 1 ≤ n ∧ n ≤ 65536 ∧ 1 ≤ top ∧ top ≤ 4294967295 := by
  unfold alMay
  simp [and_assoc]
def manyD (k : Nat) : List V3 := List.replicate k ⟨1, 3, 0⟩ ++ List.replicate (65 - k) V3.z
attribute [local irreducible] wpList Calls Code.wp okI okN pS tS memS getG pG insS delS getV pV tV okVal newSl SlS.put SlS.err SlS.putU SlS.putB descE SlS.take SlS.set SlS.errSet SlS.get SlS.has stV EnS.live EnS.get EnS.slot EnS.ins EnS.set EnS.rem EnS.parts EnS.del ofN strL delA newA giveV cs3 errDs descsL mkV alMay newErr
theorem en_new_no {w0 w : World} {L : List As} (hs : St w0 L w) {n top : Int} (h : alMay n top = false) {v : Value} :
    Calls Tryz.prog 94 #[.int .i64 n, .int .i64 top, v] w fun r w' => r = .returned (.tuple #[.pointer none, .int .i64 1]) ∧ St w0 L w' := by
  have HM := Lib.hid h
  clear h
  go_enter Tryz.func94, Tryz.ntmps94
  (go_wp2_with (first
    | (go_at_call 176; refine (anew_no hs HM.out).mono ?_; clear hs; rintro r w ⟨rfl, hs⟩)))
  go_ret2
  exact ⟨rfl, hs⟩
/-- New, whatever it is told: nil just if there is an error. -/
theorem en_new_g {w0 w : World} {L : List As} (hs : St w0 L w) {n top : Int} {A : Option Addr} {m cA : Nat} {ds : List V3} (hm : Hid (ds.length = m)) (hmb : m ≤ 140737488355328) (hr : RdS w0 L A (cs3 ds)) {e : Int} (he : Hid (newErr n top ds = e)) :
    Calls Tryz.prog 94 #[.int .i64 n, .int .i64 top, .slice A m cA] w fun r w' => ((e = 0 ∧ ∃ E, r = .returned (.tuple #[.pointer (some ⟨E, 0, none⟩), .int .i64 0])) ∨ (e ≠ 0 ∧ r = .returned (.tuple #[.pointer none, .int .i64 e]))) ∧ St w0 L w' := by
  have h1 := he.out
  unfold newErr at h1
  cases hM : alMay n top with
  | false =>
    rw [hM] at h1
    obtain rfl : e = 1 := h1.symm
    refine (en_new_no hs hM).mono fun r w' h => ?_
    exact ⟨.inr ⟨by decide, h.1⟩, h.2⟩
  | true =>
    rw [hM] at h1
    simp only [if_true] at h1
    obtain ⟨a1, a2, a3, a4⟩ := alMay_iff.1 hM
    obtain ⟨k, rfl⟩ := Int.eq_ofNat_of_zero_le (show 0 ≤ n by omega)
    refine (en_new hs (by omega) (by omega) a3 a4 hm hmb hr (Lib.hid h1)).mono fun r w' h => ?_
    unfold EnNew at h
    rcases h with ⟨h0, E, A1, R, l, _, h3, h4⟩ | ⟨h0, h3, h4⟩
    · exact ⟨.inl ⟨h0, E, h3⟩, h4.drop⟩
    · exact ⟨.inr ⟨h0, h3⟩, h4⟩
theorem en_new_ge {w0 w : World} {L : List As} (hs : St w0 L w) {n top : Int} {A : Option Addr} {m cA : Nat} {ds : List V3} (hm : Hid (ds.length = m)) (hmb : m ≤ 140737488355328) (hr : RdS w0 L A (cs3 ds)) {e : Int} (he : Hid (newErr n top ds = e)) (h0 : Hid (e ≠ 0)) :
    Calls Tryz.prog 94 #[.int .i64 n, .int .i64 top, .slice A m cA] w fun r w' => r = .returned (.tuple #[.pointer none, .int .i64 e]) ∧ St w0 L w' :=
  (en_new_g hs hm hmb hr he).mono fun _ _ ⟨h1, h2⟩ => by
    rcases h1 with ⟨h1, _⟩ | ⟨_, h1⟩
    · exact absurd h1 h0.out
    · exact ⟨h1, h2⟩
/-! ### The document's May -/
/-! ### The walk -/
end Go.Proofs.YtcnbmfaicbkhcaaGreatDoor
