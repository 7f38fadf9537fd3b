/-
  The document's answer for going over, 4: CountOf.
-/
import Derived.Test.YtpnjoeiohigjmaaDoorScDo3
set_option maxRecDepth 100000
namespace Go.Proofs.YtpnjoeiohigjmaaDoor
open Go Go.RowKit
attribute [local irreducible] wpList Calls Code.wp wordS exTell

theorem gap_cnt {p : Nat → Bool} {r : Bool} {c d : Nat} (h : ∀ i, c ≤ i → i < d → p i = r) : (sel p c d).length = if r = true then d - c else 0 := by
  cases r with
  | true => exact sel_all h
  | false => rw [sel_none h]; rfl
/-- So far counted: up to c; what stands behind it is as the rest. -/
structure CoI (p : Nat → Bool) (u : List Nat) (r : Bool) (a b c k : Nat) (x : Nat) : Prop where
  ac : a ≤ c
  cb : c ≤ b
  at_ : AtI u (c : Int) k
  x : x = (sel p a c).length + if r = true then b - c else 0
theorem AtI.succ {S : List Nat} (hS : S.Pairwise (· < ·)) {c k v : Nat} (h : AtI S (c : Int) k) (hv : S[k]? = some v) : AtI S ((v + 1 : Nat) : Int) (k + 1) := by
  obtain ⟨h1, h2, h3⟩ := h
  obtain ⟨hk, e⟩ := List.getElem?_eq_some_iff.1 hv
  refine AtI.of (by omega) (fun j a hj ha => ?_) (fun j a hj ha => ?_)
  · obtain ⟨hj2, ea⟩ := List.getElem?_eq_some_iff.1 ha
    by_cases ej : j = k
    · subst ej; omega
    · have := List.pairwise_iff_getElem.1 hS j k hj2 hk (by omega)
      omega
  · obtain ⟨hj2, ea⟩ := List.getElem?_eq_some_iff.1 ha
    have := List.pairwise_iff_getElem.1 hS k j hk hj2 (by omega)
    omega
theorem CoI.step {p : Nat → Bool} {u : List Nat} {r : Bool} {a b c k x v : Nat} (h : CoI p u r a b c k x) (hS : u.Pairwise (· < ·)) (hp : ∀ i, i < b → i ∉ u → p i = r) (hv : u[k]? = some v) (hb : v < b) :
    ∃ x', x' + (if r = true then 1 else 0) = x + (if p v = true then 1 else 0) ∧ CoI p u r a b (v + 1) (k + 1) x' := by
  have hcv := h.at_.next.2 v hv
  have hg := gap_cnt (p := p) (r := r) (c := c) (d := v) fun i h1 h2 => hp i (by omega) (AtI.gap hS h.at_ hv h1 h2)
  have hac := h.ac
  have hcb := h.cb
  refine ⟨_, ?_, ⟨by omega, by omega, h.at_.succ hS hv, rfl⟩⟩
  rw [h.x, sel_cut p (show a ≤ c by omega) (show c ≤ v + 1 by omega), sel_cut p hcv.1 (Nat.le_succ v), sel_one, List.length_append, List.length_append, hg]
  cases r <;> cases p v <;> simp <;> omega
theorem CoI.done {p : Nat → Bool} {u : List Nat} {r : Bool} {a b c k x : Nat} (h : CoI p u r a b c k x) (hS : u.Pairwise (· < ·)) (hp : ∀ i, i < b → i ∉ u → p i = r) (he : k = u.length ∨ ∃ v, u[k]? = some v ∧ b ≤ v) : (sel p a b).length = x := by
  have hg := gap_cnt (p := p) (r := r) (c := c) (d := b) fun i h1 h2 => hp i h2 (by
    rcases he with he | ⟨v, hv, hb⟩
    · exact h.at_.next.1 he i h1
    · exact AtI.gap hS h.at_ hv h1 (by omega))
  rw [sel_cut p h.ac h.cb, List.length_append, hg, h.x]
theorem CoI.start {p : Nat → Bool} {u : List Nat} {r : Bool} {a b k : Nat} (hab : a ≤ b) (h : AtI u (a : Int) k) : CoI p u r a b a k (if r = true then b - a else 0) :=
  ⟨Nat.le_refl _, hab, h, by rw [sel_empty (Nat.le_refl _)]; simp⟩
theorem CoI.le {p : Nat → Bool} {u : List Nat} {r : Bool} {a b c k x : Nat} (h : CoI p u r a b c k x) : x ≤ b - a := by
  have h1 := sel_len_le p a c
  have := h.ac
  have := h.cb
  rw [h.x]
  split <;> omega
attribute [local irreducible] tel nxt lst sel ksS ksU cutN
theorem free_one {u : List Nat} {z : Nat} (h : u.length = z) : ∃ i, i ≤ z ∧ i ∉ u := Classical.byContradiction fun hn => by
  have := free_le (i := z + 1) (u := u) fun j hj => Classical.byContradiction fun h2 => hn ⟨j, by omega, h2⟩
  omega
set_option maxHeartbeats 2000000 in
theorem rcountof_c {w : World} {E B C : Option Addr} {l : List NodeE} {ks : List KS} {q m ce c2 : Nat} (h : RfV w E B C l ks q m) (n f t : Int) {c : Nat} {er : Int} (hcv : Hid (cntV l (ksS ks) n f t = c)) (hce : Hid (cntE l n f t = er)) :
    Calls Tryd.prog 37 #[.slice E q ce, .slice C m c2, .int .i64 n, .int .i64 f, .int .i64 t] w fun e w' => e = .returned (.tuple #[.int .i64 (c : Nat), .int .i64 er]) ∧ Grew w w' := by
  have HV := Lib.hid h
  have hq := h.ok.few
  rw [h.len] at hq
  have hcf := cutN_int f
  have hct := cutN_int t
  have hfl := cutN_le f
  have htl := cutN_le t
  have h1 := hcv.out
  have h2 := hce.out
  unfold cntV at h1
  unfold cntE at h2
  rw [h.len] at h1 h2
  clear h hcv hce
  generalize hga : cutN f = a at *
  generalize hgb : cutN t = b at *
  clear hga hgb
  by_cases hn : 0 ≤ n ∧ n < q
  · rw [if_pos hn] at h2
    obtain ⟨n, rfl⟩ := Int.eq_ofNat_of_zero_le hn.1
    have d0 : decide ((n : Int) < 0) = false := decide_eq_false (by omega)
    have d1 : decide (q ≤ n) = false := decide_eq_false (by omega)
    by_cases hba : b ≤ a
    · rw [if_pos (by omega)] at h2
      rw [if_pos ⟨hn.1, hn.2, by omega⟩, sel_empty hba] at h1
      subst h2
      have hc0 : c = 0 := h1.symm
      subst hc0
      have dba : decide (b ≤ a) = true := decide_eq_true hba
      clear hn hba h1
      go_enter Tryd.func37, Tryd.ntmps37
      go_wp2
      refine bodyPost_ret (results_tmp2 rfl _ _ _) rfl ?_
      exact ⟨rfl, Grew.refl _⟩
    · have dba : decide (b ≤ a) = false := decide_eq_false hba
      by_cases hw : (b : Int) - (a : Int) ≤ 262144
      · rw [if_pos hw] at h2
        rw [if_pos ⟨hn.1, hn.2, hw⟩] at h1
        subst h2
        have HC := Lib.hid h1
        have dw : decide (262144 < (b : Int) - (a : Int)) = false := decide_eq_false (by omega)
        obtain ⟨d, hd⟩ : ∃ d : Nat, (b : Int) - (a : Int) = (d : Int) := ⟨b - a, by omega⟩
        obtain ⟨u, HU⟩ : ∃ u, Hid (ksU ks = u) := ⟨_, rfl⟩
        obtain ⟨z, HZ⟩ : ∃ z, Hid (u.length = z) := ⟨_, rfl⟩
        have hz : z ≤ 240 := by rw [← HZ.out, ← HU.out]; exact ksU_len HV.out.kok HV.out.kl HV.out.m6
        have HS : Hid (u.Pairwise (· < ·)) := by rw [Hid, ← HU.out]; exact ksU_sorted ks
        have HLt : Hid (∀ a ∈ u, a < 16777216) := by rw [Hid, ← HU.out]; exact ksU_lt HV.out.kok
        have HKl := Lib.hid HV.out.kl
        have HRF : Hid (∀ (zz : Nat), zz < 16777216 → zz ∉ u → ∀ i : Nat, i < 16777216 → i ∉ u → exTell l (ksS ks) (n : Nat) (i : Nat) = exTell l (ksS ks) (n : Nat) (zz : Nat)) := fun zz h1 h2 i h3 h4 =>
          exTell_free h3 h1 (by rw [HU.out]; exact h4) (by rw [HU.out]; exact h2)
        obtain ⟨z0, hz0, hz1⟩ := free_one HZ.out
        obtain ⟨rest, HRs⟩ : ∃ r, Hid (exTell l (ksS ks) (n : Nat) (z0 : Nat) = r) := ⟨_, rfl⟩
        have HRt : Hid (∀ i : Nat, i < 16777216 → i ∉ u → exTell l (ksS ks) (n : Nat) (i : Nat) = rest) := fun i h1 h2 => by rw [HRF.out z0 (by omega) hz1 i h1 h2, HRs.out]
        have HRp : Hid (∀ i : Nat, i < b → i ∉ u → tel l (ksS ks) (n : Nat) i = rest) := fun i h1 h2 => by unfold tel; exact HRt.out i (by omega) h2
        have HAB : Hid (a ≤ b) := by rw [Hid]; omega
        have HDA : Hid (d = b - a) := by rw [Hid]; omega
        have hd9 : d ≤ 262144 := by omega
        have dw2 : decide ((262144 : Int) < (d : Int)) = false := decide_eq_false (by omega)
        clear hn hba hw h1 HRF HRs hz0 hz1 dw
        cases rest with
        | true =>
          go_enter Tryd.func37, Tryd.ntmps37
          go_upto_region 10 with (first
            | (go_at_call 55; refine (all_v HV.out.kv HKl HV.out.m6 HV.out.kok HU HZ).mono ?_; rintro e w' ⟨A, cp, rfl, hs⟩))
          have HR0 : Hid (RdS w [own A z cp 3 1 (intv u)] A (intv u)) := RdS.own hs
          go_wp2_with (first
            | (go_at_call 57; refine (rnone_v HS HZ (by omega) hs HR0).mono ?_; rintro e w' ⟨i0, rfl, HI0, hi0, hg⟩; replace hs := hs.grew hg; clear hg)
            | (go_at_call 56; refine (tells_v (HV.out.grew hs.made_grew) n i0 (Lib.hid (HRt.out i0 (by omega) HI0.out))).mono ?_; rintro e w' ⟨rfl, hg⟩; replace hs := hs.grew hg; clear hg)
            | (go_at_call 46; refine (at_c HS.out HZ.out (by omega) hs HR0.out (a : Int)).mono ?_; rintro e w' ⟨k0, rfl, hk, hg⟩; replace hs := hs.grew hg; clear hg; have HK := Lib.hid hk; clear hk))
          have hk0 : k0 ≤ z := by rw [← HZ.out]; exact HK.out.1
          have HI0' : Hid (CoI (tel l (ksS ks) (n : Nat)) u true a b a k0 d) := by
            have h1 := CoI.start (p := tel l (ksS ks) (n : Nat)) (r := true) HAB.out HK.out
            rw [← HDA.out] at h1
            exact h1
          clear HK HI0 hi0
          go_loopw [13, 14] (fun xv kv wr => ∃ k c x : Nat, kv = .int .i64 (k : Nat) ∧ xv = .int .i64 (x : Nat) ∧ k ≤ z ∧ Hid (CoI (tel l (ksS ks) (n : Nat)) u true a b c k x) ∧ St w [own A z cp 3 1 (intv u)] wr) (fun _ kv _ => z - (intOf kv).toNat)
          case atStart => exact ⟨k0, a, d, rfl, rfl, hk0, HI0', hs⟩
          case round =>
            clear hs HI0' hk0
            obtain ⟨k, cc, x, rfl, rfl, hk, HI, hs⟩ := hrel
            have hx8 : x ≤ 16777216 := by have := HI.out.le; omega
            by_cases hkz : k < z
            · obtain ⟨v, hv⟩ : ∃ v, u[k]? = some v := ⟨_, List.getElem?_eq_getElem (by rw [HZ.out]; exact hkz)⟩
              have hv24 := HLt.out v (List.mem_of_getElem? hv)
              obtain ⟨bb, oo, rfl, hrd⟩ := HR0.out.get (intv_get hv)
              have r1 := hrd _ hs
              have dk : decide (k < z) = true := decide_eq_true hkz
              clear hrd
              by_cases hvb : v < b
              · have dv : decide (v < b) = true := decide_eq_true hvb
                obtain ⟨is, HIs⟩ : ∃ i, Hid (exTell l (ksS ks) (n : Nat) (v : Nat) = i) := ⟨_, rfl⟩
                cases is with
                | true =>
                  have HSx : Hid (∃ x', x' + (if true = true then 1 else 0) = x + (if true = true then 1 else 0) ∧ CoI (tel l (ksS ks) (n : Nat)) u true a b (v + 1) (k + 1) x') := by
                    have h1 := HI.out.step HS.out HRp.out hv hvb
                    rw [show tel l (ksS ks) (n : Nat) v = true from by unfold tel; exact HIs.out] at h1
                    exact h1
                  obtain ⟨x2, hx2, hI2⟩ := HSx.out
                  replace hx2 : x2 + 1 = x + 1 := hx2
                  have HI2 := Lib.hid hI2
                  have HX2 : Hid ((x : Int) = (x2 : Int)) := by rw [Hid]; omega
                  have hx9 : x2 ≤ 16777216 := by have := hI2.le; omega
                  clear hv hI2 HSx hx2
                  go_wp2_with (first
                    | (go_at_call 57; refine (rnone_v HS HZ (by omega) hs HR0).mono ?_; rintro e w' ⟨i1, rfl, HI1, hi1, hg⟩; replace hs := hs.grew hg; clear hg)
                    | (go_at_call 56; refine (tells_v (HV.out.grew hs.made_grew) n v HIs).mono ?_; rintro e w' ⟨rfl, hg⟩; replace hs := hs.grew hg; clear hg)
                    | (go_at_call 56; refine (tells_v (HV.out.grew hs.made_grew) n i1 (Lib.hid (HRt.out i1 (by omega) HI1.out))).mono ?_; rintro e w' ⟨rfl, hg⟩; replace hs := hs.grew hg; clear hg))
                  go_roundw
                  case rel => exact ⟨k + 1, v + 1, x2, by first | rfl | go_num, by rw [← HX2.out], by omega, HI2, hs⟩
                  case measure => simp [intOf] <;> omega
                | false =>
                  have HSx : Hid (∃ x', x' + (if true = true then 1 else 0) = x + (if false = true then 1 else 0) ∧ CoI (tel l (ksS ks) (n : Nat)) u true a b (v + 1) (k + 1) x') := by
                    have h1 := HI.out.step HS.out HRp.out hv hvb
                    rw [show tel l (ksS ks) (n : Nat) v = false from by unfold tel; exact HIs.out] at h1
                    exact h1
                  obtain ⟨x2, hx2, hI2⟩ := HSx.out
                  replace hx2 : x2 + 1 = x + 0 := hx2
                  have HI2 := Lib.hid hI2
                  have HX2 : Hid (((x : Int) - 1) = (x2 : Int)) := by rw [Hid]; omega
                  have hx9 : x2 ≤ 16777216 := by have := hI2.le; omega
                  clear hv hI2 HSx hx2
                  go_wp2_with (first
                    | (go_at_call 57; refine (rnone_v HS HZ (by omega) hs HR0).mono ?_; rintro e w' ⟨i1, rfl, HI1, hi1, hg⟩; replace hs := hs.grew hg; clear hg)
                    | (go_at_call 56; refine (tells_v (HV.out.grew hs.made_grew) n v HIs).mono ?_; rintro e w' ⟨rfl, hg⟩; replace hs := hs.grew hg; clear hg)
                    | (go_at_call 56; refine (tells_v (HV.out.grew hs.made_grew) n i1 (Lib.hid (HRt.out i1 (by omega) HI1.out))).mono ?_; rintro e w' ⟨rfl, hg⟩; replace hs := hs.grew hg; clear hg))
                  go_roundw
                  case rel => exact ⟨k + 1, v + 1, x2, by first | rfl | go_num, by rw [← HX2.out], by omega, HI2, hs⟩
                  case measure => simp [intOf] <;> omega
              · have dv : decide (v < b) = false := decide_eq_false hvb
                have HE : Hid (x = c) := by rw [Hid, ← HC.out]; exact (HI.out.done HS.out HRp.out (.inr ⟨v, hv, by omega⟩)).symm
                clear hv hvb
                go_wp2
                refine bodyPost_ret (results_tmp2 rfl _ _ _) rfl ?_
                exact ⟨by rw [← HE.out]; rfl, hs.made_grew⟩
            · have hkz2 : k = z := by omega
              have dk : decide (k < z) = false := decide_eq_false hkz
              have HE : Hid (x = c) := by rw [Hid, ← HC.out]; exact (HI.out.done HS.out HRp.out (.inl (by rw [HZ.out]; exact hkz2))).symm
              clear hkz hkz2
              go_wp2
              refine bodyPost_ret (results_tmp2 rfl _ _ _) rfl ?_
              exact ⟨by rw [← HE.out]; rfl, hs.made_grew⟩
        | false =>
          go_enter Tryd.func37, Tryd.ntmps37
          go_upto_region 10 with (first
            | (go_at_call 55; refine (all_v HV.out.kv HKl HV.out.m6 HV.out.kok HU HZ).mono ?_; rintro e w' ⟨A, cp, rfl, hs⟩))
          have HR0 : Hid (RdS w [own A z cp 3 1 (intv u)] A (intv u)) := RdS.own hs
          go_wp2_with (first
            | (go_at_call 57; refine (rnone_v HS HZ (by omega) hs HR0).mono ?_; rintro e w' ⟨i0, rfl, HI0, hi0, hg⟩; replace hs := hs.grew hg; clear hg)
            | (go_at_call 56; refine (tells_v (HV.out.grew hs.made_grew) n i0 (Lib.hid (HRt.out i0 (by omega) HI0.out))).mono ?_; rintro e w' ⟨rfl, hg⟩; replace hs := hs.grew hg; clear hg)
            | (go_at_call 46; refine (at_c HS.out HZ.out (by omega) hs HR0.out (a : Int)).mono ?_; rintro e w' ⟨k0, rfl, hk, hg⟩; replace hs := hs.grew hg; clear hg; have HK := Lib.hid hk; clear hk))
          have hk0 : k0 ≤ z := by rw [← HZ.out]; exact HK.out.1
          have HI0' : Hid (CoI (tel l (ksS ks) (n : Nat)) u false a b a k0 0) := by
            have h1 := CoI.start (p := tel l (ksS ks) (n : Nat)) (r := false) HAB.out HK.out
            rw [← HDA.out] at h1
            exact h1
          clear HK HI0 hi0
          go_loopw [13, 14] (fun xv kv wr => ∃ k c x : Nat, kv = .int .i64 (k : Nat) ∧ xv = .int .i64 (x : Nat) ∧ k ≤ z ∧ Hid (CoI (tel l (ksS ks) (n : Nat)) u false a b c k x) ∧ St w [own A z cp 3 1 (intv u)] wr) (fun _ kv _ => z - (intOf kv).toNat)
          case atStart => exact ⟨k0, a, 0, rfl, rfl, hk0, HI0', hs⟩
          case round =>
            clear hs HI0' hk0
            obtain ⟨k, cc, x, rfl, rfl, hk, HI, hs⟩ := hrel
            have hx8 : x ≤ 16777216 := by have := HI.out.le; omega
            by_cases hkz : k < z
            · obtain ⟨v, hv⟩ : ∃ v, u[k]? = some v := ⟨_, List.getElem?_eq_getElem (by rw [HZ.out]; exact hkz)⟩
              have hv24 := HLt.out v (List.mem_of_getElem? hv)
              obtain ⟨bb, oo, rfl, hrd⟩ := HR0.out.get (intv_get hv)
              have r1 := hrd _ hs
              have dk : decide (k < z) = true := decide_eq_true hkz
              clear hrd
              by_cases hvb : v < b
              · have dv : decide (v < b) = true := decide_eq_true hvb
                obtain ⟨is, HIs⟩ : ∃ i, Hid (exTell l (ksS ks) (n : Nat) (v : Nat) = i) := ⟨_, rfl⟩
                cases is with
                | true =>
                  have HSx : Hid (∃ x', x' + (if false = true then 1 else 0) = x + (if true = true then 1 else 0) ∧ CoI (tel l (ksS ks) (n : Nat)) u false a b (v + 1) (k + 1) x') := by
                    have h1 := HI.out.step HS.out HRp.out hv hvb
                    rw [show tel l (ksS ks) (n : Nat) v = true from by unfold tel; exact HIs.out] at h1
                    exact h1
                  obtain ⟨x2, hx2, hI2⟩ := HSx.out
                  replace hx2 : x2 + 0 = x + 1 := hx2
                  have HI2 := Lib.hid hI2
                  have HX2 : Hid (((x : Int) + 1) = (x2 : Int)) := by rw [Hid]; omega
                  have hx9 : x2 ≤ 16777216 := by have := hI2.le; omega
                  clear hv hI2 HSx hx2
                  go_wp2_with (first
                    | (go_at_call 57; refine (rnone_v HS HZ (by omega) hs HR0).mono ?_; rintro e w' ⟨i1, rfl, HI1, hi1, hg⟩; replace hs := hs.grew hg; clear hg)
                    | (go_at_call 56; refine (tells_v (HV.out.grew hs.made_grew) n v HIs).mono ?_; rintro e w' ⟨rfl, hg⟩; replace hs := hs.grew hg; clear hg)
                    | (go_at_call 56; refine (tells_v (HV.out.grew hs.made_grew) n i1 (Lib.hid (HRt.out i1 (by omega) HI1.out))).mono ?_; rintro e w' ⟨rfl, hg⟩; replace hs := hs.grew hg; clear hg))
                  go_roundw
                  case rel => exact ⟨k + 1, v + 1, x2, by first | rfl | go_num, by rw [← HX2.out], by omega, HI2, hs⟩
                  case measure => simp [intOf] <;> omega
                | false =>
                  have HSx : Hid (∃ x', x' + (if false = true then 1 else 0) = x + (if false = true then 1 else 0) ∧ CoI (tel l (ksS ks) (n : Nat)) u false a b (v + 1) (k + 1) x') := by
                    have h1 := HI.out.step HS.out HRp.out hv hvb
                    rw [show tel l (ksS ks) (n : Nat) v = false from by unfold tel; exact HIs.out] at h1
                    exact h1
                  obtain ⟨x2, hx2, hI2⟩ := HSx.out
                  replace hx2 : x2 + 0 = x + 0 := hx2
                  have HI2 := Lib.hid hI2
                  have HX2 : Hid ((x : Int) = (x2 : Int)) := by rw [Hid]; omega
                  have hx9 : x2 ≤ 16777216 := by have := hI2.le; omega
                  clear hv hI2 HSx hx2
                  go_wp2_with (first
                    | (go_at_call 57; refine (rnone_v HS HZ (by omega) hs HR0).mono ?_; rintro e w' ⟨i1, rfl, HI1, hi1, hg⟩; replace hs := hs.grew hg; clear hg)
                    | (go_at_call 56; refine (tells_v (HV.out.grew hs.made_grew) n v HIs).mono ?_; rintro e w' ⟨rfl, hg⟩; replace hs := hs.grew hg; clear hg)
                    | (go_at_call 56; refine (tells_v (HV.out.grew hs.made_grew) n i1 (Lib.hid (HRt.out i1 (by omega) HI1.out))).mono ?_; rintro e w' ⟨rfl, hg⟩; replace hs := hs.grew hg; clear hg))
                  go_roundw
                  case rel => exact ⟨k + 1, v + 1, x2, by first | rfl | go_num, by rw [← HX2.out], by omega, HI2, hs⟩
                  case measure => simp [intOf] <;> omega
              · have dv : decide (v < b) = false := decide_eq_false hvb
                have HE : Hid (x = c) := by rw [Hid, ← HC.out]; exact (HI.out.done HS.out HRp.out (.inr ⟨v, hv, by omega⟩)).symm
                clear hv hvb
                go_wp2
                refine bodyPost_ret (results_tmp2 rfl _ _ _) rfl ?_
                exact ⟨by rw [← HE.out]; rfl, hs.made_grew⟩
            · have hkz2 : k = z := by omega
              have dk : decide (k < z) = false := decide_eq_false hkz
              have HE : Hid (x = c) := by rw [Hid, ← HC.out]; exact (HI.out.done HS.out HRp.out (.inl (by rw [HZ.out]; exact hkz2))).symm
              clear hkz hkz2
              go_wp2
              refine bodyPost_ret (results_tmp2 rfl _ _ _) rfl ?_
              exact ⟨by rw [← HE.out]; rfl, hs.made_grew⟩
      · rw [if_neg hw] at h2
        rw [if_neg (fun h => hw h.2.2)] at h1
        subst h1 h2
        have dw : decide (262144 < (b : Int) - (a : Int)) = true := decide_eq_true (by omega)
        clear hn hba hw
        go_enter Tryd.func37, Tryd.ntmps37
        go_wp2
        refine bodyPost_ret (results_tmp2 rfl _ _ _) rfl ?_
        exact ⟨rfl, Grew.refl _⟩
  · have hn2 : ¬ (0 ≤ n ∧ n < (q : Int)) := hn
    rw [if_neg hn2] at h2
    rw [if_neg (fun h => hn2 ⟨h.1, h.2.1⟩)] at h1
    subst h1 h2
    by_cases h0 : n < 0
    · have d0 : decide (n < 0) = true := decide_eq_true h0
      clear hn hn2 h0
      go_enter Tryd.func37, Tryd.ntmps37
      go_wp2
      refine bodyPost_ret (results_tmp2 rfl _ _ _) rfl ?_
      exact ⟨rfl, Grew.refl _⟩
    · have d0 : decide (n < 0) = false := decide_eq_false h0
      have d1 : decide ((q : Int) ≤ n) = true := decide_eq_true (by omega)
      clear hn hn2 h0
      go_enter Tryd.func37, Tryd.ntmps37
      go_wp2
      refine bodyPost_ret (results_tmp2 rfl _ _ _) rfl ?_
      exact ⟨rfl, Grew.refl _⟩
end Go.Proofs.YtpnjoeiohigjmaaDoor
