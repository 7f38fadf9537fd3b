/-
  The statements' own functions of layer 11: awake.
-/
import Derived.Test.YtmdjpeblbnbjmaaL11
import Derived.Test.YtmdjpeblbnbjmaaSlLaw
set_option maxRecDepth 100000
namespace Go.Proofs.Ytmdjpeblbnbjmaa
open Go Go.RowKit
theorem awk_put1 {v : Value} {F : Option Nat} : (newSl ⟨1, 3, 5⟩ v F).err 5 ⟨1, 1, 0⟩ = 0 ∧ (newSl ⟨1, 3, 5⟩ v F).putU 5 ⟨1, 1, 0⟩ = V3.z ∧ (newSl ⟨1, 3, 5⟩ v F).putB 5 ⟨1, 1, 0⟩ = false := ⟨rfl, rfl, rfl⟩
theorem awk_put2 {v : Value} {F : Option Nat} {s : SlS} (h : (newSl ⟨1, 3, 5⟩ v F).put 5 ⟨1, 1, 0⟩ = s) : s.err 5 ⟨1, 2, 0⟩ = 0 ∧ s.putU 5 ⟨1, 2, 0⟩ = ⟨1, 1, 0⟩ ∧ s.putB 5 ⟨1, 2, 0⟩ = true ∧ (s.put 5 ⟨1, 2, 0⟩).S.length = 1 := by
  subst h
  exact ⟨rfl, rfl, rfl, rfl⟩
theorem awk_len {v : Value} {F : Option Nat} {s : SlS} (h : (newSl ⟨1, 3, 5⟩ v F).put 5 ⟨1, 1, 0⟩ = s) : s.evs.length < 4611686018427387904 ∧ (newSl ⟨1, 3, 5⟩ v F).evs.length < 4611686018427387904 := by
  subst h
  refine ⟨?_, by show 0 < _; decide⟩
  have := SlS.put_len (newSl ⟨1, 3, 5⟩ v F) 5 ⟨1, 1, 0⟩
  have h0 : (newSl ⟨1, 3, 5⟩ v F).evs.length = 0 := rfl
  omega
attribute [local irreducible] wpList Calls Code.wp okI okN pS tS memS getG pG insS delS getV pV tV okVal newSl SlS.put SlS.err SlS.putU SlS.putB
theorem sl_flag_v {w0 w : World} {L : List As} {X : Nat} {s : SlS} (hs : St w0 (SlB X s :: L) w) {p : Value} (hp : Hid (fpV s.F = p)) :
    Calls Try.prog 17 #[.pointer (some ⟨X, 0, none⟩)] w fun r w' => r = .returned p ∧ w = w' := by rw [← hp.out]; exact sl_flag hs
theorem newSl_F (d : V3) (v : Value) (f : Nat) : Hid (fpV (newSl d v (some f)).F = .pointer (some ⟨f, 0, none⟩)) := by unfold newSl; rfl
theorem newSl_F0 (d : V3) (v : Value) : Hid (fpV (newSl d v none).F = .pointer none) := by unfold newSl; rfl
theorem newSl_pv (d : V3) (v : Value) (F : Option Nat) : (newSl d v F).pv = v := by unfold newSl; rfl
theorem SlS.put_pv {s : SlS} {i : Int} {v : V3} : (s.put i v).pv = s.pv := by unfold SlS.put; split <;> rfl
theorem one_pl : one1 Try.prog 64 = true := by kernel_rfl
theorem Rd.slp_v {w0 : World} {L : List As} {X : Nat} {s : SlS} {v : Value} (h : Hid (s.pv = v)) : Rd w0 (SlB X s :: L) ⟨X, 0, none⟩ v := by rw [← h.out]; exact Rd.slp
set_option maxHeartbeats 2000000 in
theorem awake11 {w : World} : Calls Try.prog 20 #[] w fun r w' => r = .returned (.bool true) ∧ Grew w w' := by
  have hs := St.start w
  go_enter Try.func20, Try.ntmps20
  go_upto_region 2 with (first
    | (go_at_call 15; refine (sl_new hs ⟨1, 3, 5⟩ rfl).mono ?_; clear hs; rintro r w ⟨X, v, F, rfl, hs⟩))
  obtain ⟨f, rfl⟩ := newF_some (hs.slwf.ok) (by decide)
  have HF := newSl_F ⟨1, 3, 5⟩ v f
  have HP := newSl_pv ⟨1, 3, 5⟩ v (some f)
  have h1 := awk_put1 (v := v) (F := some f)
  obtain ⟨s1, HS1⟩ : ∃ s, Hid ((newSl ⟨1, 3, 5⟩ v (some f)).put 5 ⟨1, 1, 0⟩ = s) := ⟨_, rfl⟩
  have h2 := awk_put2 HS1.out
  have h3 := awk_len HS1.out
  obtain ⟨s2, HS2⟩ : ∃ s, Hid (s1.put 5 ⟨1, 2, 0⟩ = s) := ⟨_, rfl⟩
  have HV : Hid (s2.pv = v) := by rw [Hid, ← HS2.out, SlS.put_pv, ← HS1.out, SlS.put_pv, HP]
  have HL : Hid (s2.S.length = 1) := by rw [Hid, ← HS2.out]; exact h2.2.2.2
  obtain ⟨a1, a2, a3⟩ := h1
  obtain ⟨b1, b2, b3, _⟩ := h2
  have A1 := Lib.hid a1
  have A2 := Lib.hid a2
  have A3 := Lib.hid a3
  have B1 := Lib.hid b1
  have B2 := Lib.hid b2
  have B3 := Lib.hid b3
  have H3 := Lib.hid h3
  clear a1 a2 a3 b1 b2 b3 h3 HP
  go_upto_region 5 with (first
    | (go_at_call 15; refine (sl_new_no ⟨1, 4, 0⟩ (e := 9) rfl (by decide)).mono ?_; rintro r w ⟨rfl, hg⟩; replace hs := hs.grew hg; clear hg)
    | (go_at_call 17; refine (sl_flag_v hs HF).mono ?_; rintro r w ⟨rfl, rfl⟩))
  go_upto_region 6 with (first
    | (go_at_call 18; refine (sl_put hs H3.out.2 A2 A3 A1 HS1).mono ?_; clear hs; rintro r w ⟨rfl, hs⟩)
    | (refine wpl_alloc zero3 hs ?_; clear hs; intro g5 w hs)
    | (refine wpl_store_agg (v := val3 V3.z) rfl rfl (size3 _) hs WrA.slot3 ?_; clear hs; intro w hs))
  replace hs := hs.drop
  go_upto_region 7 with (first
    | (go_at_call 18; refine (sl_put hs H3.out.1 B2 B3 B1 HS2).mono ?_; clear hs; rintro r w ⟨rfl, hs⟩)
    | (refine wpl_alloc zero3 hs ?_; clear hs; intro g8 w hs)
    | (refine wpl_store_agg (v := val3 ⟨1, 1, 0⟩) rfl rfl (size3 _) hs WrA.slot3 ?_; clear hs; intro w hs))
  obtain ⟨c0, c1, c2⟩ := Has3.facts has3_slot hs
  have cp := Rd.slp _ hs.drop
  rw [HV.out] at cp
  simp only at c0 c1 c2
  go_wp2_with (first
    | (refine wpl_guard rfl ?_; refine wpl_inv0 (v := v) rfl (sl_len hs.drop HV HL) ?_; rintro r w ⟨rfl, hg⟩; replace hs := hs.grew hg; clear hg))
  go_ret
  exact ⟨rfl, hs.made_grew⟩
end Go.Proofs.Ytmdjpeblbnbjmaa
