/-
  HibitSame.
-/
import Derived.Test.YtdcihfofdjckjaaDoorHsame2
import Derived.Test.YtdcihfofdjckjaaDoorHback
import Derived.Test.YtdcihfofdjckjaaDoorRrow5
set_option maxRecDepth 100000
namespace Go.Proofs.YtdcihfofdjckjaaDoor
open Go Go.RowKit
attribute [local irreducible] wpList Calls Code.wp

theorem RdS.any {w0 : World} {A : Option Addr} {xs : List Value} (h : RdS w0 [] A xs) : ∀ L, RdS w0 L A xs
  | [] => h
  | _ :: L => (RdS.any h L).tail
theorem ins_ne {S : List Nat} {q : Nat} (h : memS S (q : Int) = false) : insS q S ≠ S := fun e => by
  have h1 : q ∈ insS q S := mem_insS.2 (.inl rfl)
  rw [e] at h1
  rw [memS_nat.2 h1] at h
  cases h
theorem del_ins {S : List Nat} (hS : S.Pairwise (· < ·)) {q : Nat} (h : memS S (q : Int) = false) : delS q (insS q S) = S := by
  refine sorted_ext (sorted_delS (sorted_insS hS)) hS fun i => ?_
  have hq : q ∉ S := fun hq => by rw [memS_nat.2 hq] at h; cases h
  rw [mem_delS, mem_insS]
  constructor
  · rintro ⟨h1 | h1, h2⟩
    · exact absurd h1 h2
    · exact h1
  · intro h1
    exact ⟨.inr h1, fun e => hq (e ▸ h1)⟩
theorem added_q {S : List Nat} {z : Int} (h : (okN z && !memS S z) = true) : ∃ q : Nat, z = (q : Int) ∧ q < 16777216 ∧ memS S (q : Int) = false := by
  rw [Bool.and_eq_true] at h
  have h1 : 0 ≤ z ∧ z < 16777216 := of_decide_eq_true h.1
  obtain ⟨q, rfl⟩ := Int.eq_ofNat_of_zero_le h1.1
  exact ⟨q, rfl, by omega, by have := h.2; simpa using this⟩
theorem nil_same (w : World) : Calls Tryd.prog 19 #[.pointer none, .pointer none] w (SamePost true w) :=
  hsame_g (SetV.nil w) (SetV.nil w) List.Pairwise.nil (fun _ h => nomatch h) List.Pairwise.nil (fun _ h => nomatch h) ⟨fun _ => rfl, fun _ => rfl⟩
theorem rset_n {w0 w : World} {L : List As} {A : Option Addr} {zs : List Int} {c n k : Nat} {S : List Nat} (hs : St w0 L w) (hr : RdS w0 L A (zs.map (Value.int .i64))) (hn : zs.length = n) (hl : n ≤ 4000000000) (HSE : Hid (setS zs = S)) (hk : Hid (S.length = k)) :
    Calls Tryd.prog 22 #[.slice A n c] w fun e w' => ∃ B cap, e = .returned (.slice B k cap) ∧ St w0 (own B k cap 3 1 (intv S) :: L) w' := by
  rw [← hk.out]; exact rset_c hs hr hn hl HSE
attribute [local irreducible] setS addS okN memS remS errN insS delS
set_option maxHeartbeats 1000000 in
theorem hsam_c {w0 : World} (hT : Tab w0) {va vb : Value} {za zb : List Int} (hva : IntArg w0 va za) (hvb : IntArg w0 vb zb) (z : Int) : Calls Tryd.prog 7 #[va, vb, .int .i64 z] w0 (LawPost w0) := by
  obtain ⟨A, na, ca, rfl, hlen, hnc, hcm, hra, hba⟩ := hva
  obtain ⟨B, nb, cb, rfl, hlenb, hncb, hcmb, hrb, hbb⟩ := hvb
  subst hlen
  subst hlenb
  have hlm : za.length ≤ maxLen := by omega
  have hlmb : zb.length ≤ maxLen := by omega
  unfold maxLen at hcm hcmb
  have hs := St.start w0
  clear hba hbb
  by_cases h50 : 60 < za.length ∨ 60 < zb.length
  · by_cases h51 : 60 < za.length
    · clear h50
      go_enter Tryd.func7, Tryd.ntmps7
      go_wp2_with (first
        | (go_at_call 9; refine (awake2 hT).mono ?_; rintro e w' ⟨rfl, hg⟩; replace hs := hs.grew hg; clear hg))
      go_ret
      exact ⟨rfl, hs⟩
    · have h52 : 60 < zb.length := h50.resolve_left h51
      clear h50
      go_enter Tryd.func7, Tryd.ntmps7
      go_wp2_with (first
        | (go_at_call 9; refine (awake2 hT).mono ?_; rintro e w' ⟨rfl, hg⟩; replace hs := hs.grew hg; clear hg))
      go_ret
      exact ⟨rfl, hs⟩
  have h51 : ¬ 60 < za.length := fun h => h50 (.inl h)
  have h52 : ¬ 60 < zb.length := fun h => h50 (.inr h)
  clear h50
  obtain ⟨S1, HS1⟩ : ∃ S, Hid (setS za = S) := ⟨_, rfl⟩
  obtain ⟨S2, HS2⟩ : ∃ S, Hid (setS zb = S) := ⟨_, rfl⟩
  obtain ⟨n1, HN1⟩ : ∃ n, Hid (S1.length = n) := ⟨_, rfl⟩
  obtain ⟨n2, HN2⟩ : ∃ n, Hid (S2.length = n) := ⟨_, rfl⟩
  have hn1 : n1 ≤ 60 := by have := setS_len za; rw [HS1.out, HN1.out] at this; omega
  have hP1 := Lib.hid (HS1.out ▸ setS_sorted za : S1.Pairwise (· < ·))
  have hP2 := Lib.hid (HS2.out ▸ setS_sorted zb : S2.Pairwise (· < ·))
  have hQ1 := Lib.hid (HS1.out ▸ setS_lt za : ∀ a ∈ S1, a < 16777216)
  have hQ2 := Lib.hid (HS2.out ▸ setS_lt zb : ∀ a ∈ S2, a < 16777216)
  obtain ⟨b, hb⟩ : ∃ b : Bool, b = true ↔ S1 = S2 := ⟨decide (S1 = S2), by simp⟩
  have HB := Lib.hid hb
  have HB2 := Lib.hid (hb.trans eq_comm)
  have HB0 : Hid (((n1 : Int) == 0) = true ↔ S1 = []) := by
    rw [Hid, ← HN1.out]
    simp
  clear hb
  go_enter Tryd.func7, Tryd.ntmps7
  go_upto_region 9 with (first
    | (go_at_call 10; refine (new_v hs (hra.any _) hlm rfl HS1).mono ?_; clear hs; rintro e w1 ⟨T1, rfl, hs⟩)
    | (go_at_call 10; refine (new_v hs (hrb.any _) hlmb rfl HS2).mono ?_; clear hs; rintro e w2 ⟨T2, rfl, hs⟩)
    | (go_at_call 22; refine (rset_n hs (hra.any _) rfl (by omega) HS1 HN1).mono ?_; clear hs; rintro e w3 ⟨A3, cap3, rfl, hs⟩)
    | (go_at_call 22; refine (rset_n hs (hrb.any _) rfl (by omega) HS2 HN2).mono ?_; clear hs; rintro e w4 ⟨A4, cap4, rfl, hs⟩)
    | (go_at_call 21; refine (rsame_c HN1.out HN2.out (by omega) hs (RdS.own hs.drop).tail (RdS.own hs) HB.out).mono ?_; rintro e w5 ⟨rfl, hg⟩; replace hs := (hs.grew hg).drop.drop; clear hg)
    | (go_at_call 19; refine (hsame_g (SetV.of hs.rot) (SetV.of hs) hP1.out hQ1.out hP2.out hQ2.out HB.out).mono ?_; rintro e w6 ⟨rfl, hg⟩; replace hs := hs.grew hg; clear hg)
    | (go_at_call 19; refine (hsame_g (SetV.of hs) (SetV.of hs.rot) hP2.out hQ2.out hP1.out hQ1.out HB2.out).mono ?_; rintro e w6 ⟨rfl, hg⟩; replace hs := hs.grew hg; clear hg)
    | (go_at_call 19; refine (hsame_g (SetV.of hs.rot) (SetV.nil _) hP1.out hQ1.out List.Pairwise.nil (fun _ h => nomatch h) HB0.out).mono ?_; rintro e w6 ⟨rfl, hg⟩; replace hs := hs.grew hg; clear hg)
    | (go_at_call 19; refine (nil_same _).mono ?_; rintro e w6 ⟨rfl, hg⟩; replace hs := hs.grew hg; clear hg))
  replace hs := hs.drop
  have hP0 := hP1
  cases hd : (okN z && !memS S1 z) with
  | true =>
    obtain ⟨q, rfl, hq, hm⟩ := added_q hd
    have HD := Lib.hid hd
    have HE : Hid (errN (q : Int) = 0) := errN_in (by omega) (by omega)
    have HAd : Hid (addS S1 (q : Int) = insS q S1) := by rw [Hid, addS_in (by omega) (by omega), Int.toNat_natCast]
    have HMM : Hid (memS (insS q S1) (q : Int) = true) := memS_nat.2 (mem_insS.2 (.inl rfl))
    have HR : Hid (remS (insS q S1) (q : Int) = S1) := by rw [Hid, remS_in hq, del_ins hP1.out hm]
    have hne : false = true ↔ insS q S1 = S1 := ⟨fun h => (nomatch h), fun h => absurd h (ins_ne hm)⟩
    have HNE := Lib.hid hne
    have hP3 := Lib.hid (sorted_insS (i := q) hP1.out)
    have hQ3 : Hid (∀ a ∈ insS q S1, a < 16777216) := fun a ha => by
      rcases mem_insS.1 ha with rfl | ha
      · exact hq
      · exact hQ1.out a ha
    generalize insS q S1 = S3 at *
    clear hd hq hm hne
    go_wp2_with (first
      | (go_at_call 23; refine (copy_h hs.rot).mono ?_; rintro e w7 ⟨T3, rfl, hm⟩; replace hs := hs.made hm; clear hm)
      | (go_at_call 17; refine (add_v hs HD HE HAd).mono ?_; clear hs; rintro e w8 ⟨rfl, hs⟩)
      | (go_at_call 18; refine (remove_v hs HMM HE HR).mono ?_; clear hs; rintro e w8 ⟨rfl, hs⟩)
      | (go_at_call 19; refine (hsame_g (SetV.of hs) (SetV.of (hs.ent (Ent.skip (Ent.skip (Ent.refl _))))) hP3.out hQ3.out hP1.out hQ1.out HNE.out).mono ?_; rintro e w6 ⟨rfl, hg⟩; replace hs := hs.grew hg; clear hg)
      | (go_at_call 19; refine (hsame_g (b := true) (SetV.of hs) (SetV.of (hs.ent (Ent.skip (Ent.skip (Ent.refl _))))) hP1.out hQ1.out hP1.out hQ1.out ⟨fun _ => rfl, fun _ => rfl⟩).mono ?_; rintro e w6 ⟨rfl, hg⟩; replace hs := hs.grew hg; clear hg)
      | (go_at_call 9; refine (awake2 (hT.grew hs.below)).mono ?_; rintro e w' ⟨rfl, hg⟩; replace hs := hs.grew hg; clear hg))
    go_ret
    exact ⟨rfl, hs.drop.drop.drop⟩
  | false =>
    have HD := Lib.hid hd
    have HAd := Lib.hid (not_added hP1.out hd)
    clear hd
    cases hok : okN z with
    | true =>
      have HE : Hid (errN z = 0) := by rw [Hid]; unfold errN; rw [hok]; rfl
      clear hok
      go_wp2_with (first
        | (go_at_call 23; refine (copy_h hs.rot).mono ?_; rintro e w7 ⟨T3, rfl, hm⟩; replace hs := hs.made hm; clear hm)
        | (go_at_call 17; refine (add_v hs HD HE HAd).mono ?_; clear hs; rintro e w8 ⟨rfl, hs⟩)
        | (go_at_call 19; refine (hsame_g (b := true) (SetV.of hs) (SetV.of (hs.ent (Ent.skip (Ent.skip (Ent.refl _))))) hP1.out hQ1.out hP1.out hQ1.out ⟨fun _ => rfl, fun _ => rfl⟩).mono ?_; rintro e w6 ⟨rfl, hg⟩; replace hs := hs.grew hg; clear hg)
        | (go_at_call 9; refine (awake2 (hT.grew hs.below)).mono ?_; rintro e w' ⟨rfl, hg⟩; replace hs := hs.grew hg; clear hg))
      go_ret
      exact ⟨rfl, hs.drop.drop.drop⟩
    | false =>
      have HE : Hid (errN z = 1) := by rw [Hid]; unfold errN; rw [hok]; rfl
      clear hok
      go_wp2_with (first
        | (go_at_call 23; refine (copy_h hs.rot).mono ?_; rintro e w7 ⟨T3, rfl, hm⟩; replace hs := hs.made hm; clear hm)
        | (go_at_call 17; refine (add_v hs HD HE HAd).mono ?_; clear hs; rintro e w8 ⟨rfl, hs⟩)
        | (go_at_call 19; refine (hsame_g (b := true) (SetV.of hs) (SetV.of (hs.ent (Ent.skip (Ent.skip (Ent.refl _))))) hP1.out hQ1.out hP1.out hQ1.out ⟨fun _ => rfl, fun _ => rfl⟩).mono ?_; rintro e w6 ⟨rfl, hg⟩; replace hs := hs.grew hg; clear hg)
        | (go_at_call 9; refine (awake2 (hT.grew hs.below)).mono ?_; rintro e w' ⟨rfl, hg⟩; replace hs := hs.grew hg; clear hg))
      go_ret
      exact ⟨rfl, hs.drop.drop.drop⟩
end Go.Proofs.YtdcihfofdjckjaaDoor
