/-
  The document's answer for going over, 3: NextOf, ListOf, CountOf.
-/
import Derived.Test.YtpnjoeiohigjmaaDoorScDo2
set_option maxRecDepth 100000
namespace Go.Proofs.YtpnjoeiohigjmaaDoor
open Go Go.RowKit
attribute [local irreducible] wpList Calls Code.wp wordS exTell

theorem tel_far {l : List NodeE} {Ss : Nat → List Nat} {n : Int} {i : Nat} (h : 16777216 ≤ i) : tel l Ss n i = false := exTell_out (by omega)
theorem sel_far {l : List NodeE} {Ss : Nat → List Nat} {n : Int} {a c : Nat} {r : Int} (hn : Nx (tel l Ss n) c 16777216 r) (hr : r < 0) : sel (tel l Ss n) a 16777216 = sel (tel l Ss n) a c := by
  refine sorted_ext (sel_sorted _ _ _) (sel_sorted _ _ _) fun i => ?_
  rw [mem_sel, mem_sel]
  have h1 := hn.neg hr
  constructor
  · rintro ⟨h2, h3, h4⟩
    refine ⟨h2, Classical.byContradiction fun h5 => ?_, h4⟩
    rw [h1 i (by omega) h3] at h4
    cases h4
  · rintro ⟨h2, h3, h4⟩
    refine ⟨h2, Classical.byContradiction fun h5 => ?_, h4⟩
    rw [tel_far (by omega)] at h4
    cases h4
/-- Where a number would stand: the next one of the row. -/
theorem AtI.next {S : List Nat} {c k : Nat} (h : AtI S (c : Int) k) : (k = S.length → ∀ i, c ≤ i → i ∉ S) ∧ ∀ v, S[k]? = some v → c ≤ v ∧ v ∈ S := by
  obtain ⟨h1, h2, h3⟩ := h
  refine ⟨fun hk i hi hm => ?_, fun v hv => ?_⟩
  · rw [← List.take_append_drop k S, List.mem_append] at hm
    rcases hm with hm | hm
    · have := h2 i hm; omega
    · rw [List.drop_of_length_le (by omega)] at hm
      cases hm
  · have : v ∈ S.drop k := List.mem_of_getElem? (i := 0) (by rw [List.getElem?_drop, Nat.add_zero]; exact hv)
    have := h3 v this
    exact ⟨by omega, List.mem_of_getElem? hv⟩
theorem AtI.gap {S : List Nat} (hS : S.Pairwise (· < ·)) {c k v i : Nat} (h : AtI S (c : Int) k) (hv : S[k]? = some v) (h1 : c ≤ i) (h2 : i < v) : i ∉ S := fun hm => by
  obtain ⟨_, h3, _⟩ := h
  obtain ⟨j, hj⟩ := List.mem_iff_getElem?.1 hm
  by_cases hjk : j < k
  · have : i ∈ S.take k := List.mem_of_getElem? (i := j) (by rw [List.getElem?_take_of_lt hjk]; exact hj)
    have := h3 i this
    omega
  · obtain ⟨hkl, ev⟩ := List.getElem?_eq_some_iff.1 hv
    obtain ⟨hjl, ei⟩ := List.getElem?_eq_some_iff.1 hj
    by_cases e : j = k
    · subst e; omega
    · have := List.pairwise_iff_getElem.1 hS k j hkl hjl (by omega)
      omega
attribute [local irreducible] tel nxt lst sel ksS ksU
set_option maxHeartbeats 1000000 in
theorem rnextof_c {w : World} {E B C : Option Addr} {l : List NodeE} {ks : List KS} {q m ce c2 : Nat} (h : RfV w E B C l ks q m) (n f : Int) {r : Int} (hr : Hid (nxt (tel l (ksS ks) n) f.toNat 16777216 = r)) :
    Calls Tryd.prog 34 #[.slice E q ce, .slice C m c2, .int .i64 n, .int .i64 f] w fun e w' => e = .returned (.int .i64 r) ∧ Grew w w' := by
  have HV := Lib.hid h
  have hq := h.ok.few
  rw [h.len] at hq
  clear h
  by_cases hn : 0 ≤ n ∧ n < q
  · obtain ⟨n, rfl⟩ := Int.eq_ofNat_of_zero_le hn.1
    have hnq : n < q := by omega
    have d0 : decide ((n : Int) < 0) = false := decide_eq_false (by omega)
    have d1 : decide (q ≤ n) = false := decide_eq_false (by omega)
    obtain ⟨u, HU⟩ : ∃ u, Hid (ksU ks = u) := ⟨_, rfl⟩
    obtain ⟨z, HZ⟩ : ∃ z, Hid (u.length = z) := ⟨_, rfl⟩
    have hz : z ≤ 240 := by rw [← HZ.out, ← HU.out]; exact ksU_len HV.out.kok HV.out.kl HV.out.m6
    have HS : Hid (u.Pairwise (· < ·)) := by rw [Hid, ← HU.out]; exact ksU_sorted ks
    have HLt : Hid (∀ a ∈ u, a < 16777216) := by rw [Hid, ← HU.out]; exact ksU_lt HV.out.kok
    have HKl := Lib.hid HV.out.kl
    obtain ⟨lo, hlo⟩ : ∃ lo, f.toNat = lo := ⟨_, rfl⟩
    rw [hlo] at hr
    have hmx : max f 0 = (lo : Int) := by omega
    have HRF : Hid (∀ (zz : Nat), zz < 16777216 → zz ∉ u → ∀ i : Nat, i < 16777216 → i ∉ u → tel l (ksS ks) (n : Nat) i = exTell l (ksS ks) (n : Nat) (zz : Nat)) := fun zz h1 h2 i h3 h4 => by
      unfold tel
      exact exTell_free h3 h1 (by rw [HU.out]; exact h4) (by rw [HU.out]; exact h2)
    clear hn hlo hnq
    go_enter Tryd.func34, Tryd.ntmps34
    go_upto_region 4 with (first
      | (go_at_call 55; refine (all_v HV.out.kv HKl HV.out.m6 HV.out.kok HU HZ).mono ?_; rintro e w' ⟨A, cp, rfl, hs⟩))
    have HR0 : Hid (RdS w [own A z cp 3 1 (intv u)] A (intv u)) := RdS.own hs
    go_wp2_with (first
      | (go_at_call 57; refine (rnone_v HS HZ (by omega) hs HR0).mono ?_; rintro e w' ⟨i0, rfl, HI0, hi0, hg⟩; replace hs := hs.grew hg; clear hg)
      | (go_at_call 56; obtain ⟨rest, HRs⟩ : ∃ b, Hid (exTell l (ksS ks) (n : Nat) (i0 : Nat) = b) := ⟨_, rfl⟩; refine (tells_v (HV.out.grew hs.made_grew) n i0 HRs).mono ?_; rintro e w' ⟨rfl, hg⟩; replace hs := hs.grew hg; clear hg))
    have HRt : Hid (∀ i : Nat, i < 16777216 → i ∉ u → tel l (ksS ks) (n : Nat) i = rest) := fun i h1 h2 => by rw [HRF.out i0 (by omega) HI0.out i h1 h2, HRs.out]
    clear HRF HRs HI0 hi0
    go_loopw [3] (fun fv wr => ∃ c : Nat, fv = .int .i64 (c : Nat) ∧ lo ≤ c ∧ Hid (∀ i, lo ≤ i → i < c → i < 16777216 → tel l (ksS ks) (n : Nat) i = false) ∧ St w [own A z cp 3 1 (intv u)] wr) (fun fv _ => 16777216 - (intOf fv).toNat)
    case atStart => exact ⟨lo, rfl, Nat.le_refl _, fun i h1 h2 => by omega, hs⟩
    case round =>
      clear hs
      obtain ⟨c, rfl, hlc, HI, hs⟩ := hrel
      by_cases hc : c < 16777216
      · have hA := at_c (cap := cp) HS.out HZ.out (by omega) hs HR0.out (c : Int)
        have HA := Lib.hid hA
        have dc : decide ((c : Int) < 16777216) = true := decide_eq_true (by omega)
        clear hA
        obtain ⟨b, HB⟩ : ∃ b, Hid (memS u (c : Int) = b) := ⟨_, rfl⟩
        rw [HB.out] at HA
        cases b with
        | true =>
          obtain ⟨t, HTl⟩ : ∃ t, Hid (exTell l (ksS ks) (n : Nat) (c : Nat) = t) := ⟨_, rfl⟩
          cases t with
          | true =>
            have HE : Hid (r = (c : Int)) := by
              rw [Hid, ← hr.out]
              exact (Nx.eq (.inr ⟨c, rfl, hlc, hc, by unfold tel; exact HTl.out, fun i h1 h2 => HI.out i h1 h2 (by omega)⟩)).symm
            clear hc
            go_wp2_with (first
              | (go_at_call 46; refine HA.out.mono ?_; rintro e w' ⟨k, rfl, hk, hg⟩; replace hs := hs.grew hg; clear hg hk)
              | (go_at_call 56; refine (tells_v (HV.out.grew hs.made_grew) n c HTl).mono ?_; rintro e w' ⟨rfl, hg⟩; replace hs := hs.grew hg; clear hg))
            go_ret
            exact ⟨by rw [HE.out]; rfl, hs.made_grew⟩
          | false =>
            have HI2 : Hid (∀ i, lo ≤ i → i < c + 1 → i < 16777216 → tel l (ksS ks) (n : Nat) i = false) := fun i h1 h2 h3 => by
              by_cases h : i < c
              · exact HI.out i h1 h h3
              · rw [show i = c by omega]; unfold tel; exact HTl.out
            go_wp2_with (first
              | (go_at_call 46; refine HA.out.mono ?_; rintro e w' ⟨k, rfl, hk, hg⟩; replace hs := hs.grew hg; clear hg hk)
              | (go_at_call 56; refine (tells_v (HV.out.grew hs.made_grew) n c HTl).mono ?_; rintro e w' ⟨rfl, hg⟩; replace hs := hs.grew hg; clear hg))
            go_roundw
            case rel => exact ⟨c + 1, by go_num, by omega, HI2, hs⟩
            case measure => simp [intOf] <;> omega
        | false =>
          have HNo : Hid (c ∉ u) := fun h => by
            have := memS_nat.2 h
            rw [HB.out] at this
            cases this
          cases rest with
          | true =>
            have HE : Hid (r = (c : Int)) := by
              rw [Hid, ← hr.out]
              exact (Nx.eq (.inr ⟨c, rfl, hlc, hc, HRt.out c hc HNo.out, fun i h1 h2 => HI.out i h1 h2 (by omega)⟩)).symm
            clear hc
            go_wp2_with (first
              | (go_at_call 46; refine HA.out.mono ?_; rintro e w' ⟨k, rfl, hk, hg⟩; replace hs := hs.grew hg; clear hg hk))
            go_ret
            exact ⟨by rw [HE.out]; rfl, hs.made_grew⟩
          | false =>
            go_upto_region 14 with (first
              | (go_at_call 46; refine HA.out.mono ?_; rintro e w' ⟨k, rfl, hk, hg⟩; replace hs := hs.grew hg; clear hg; have HK := Lib.hid hk; clear hk))
            have hkz : k ≤ z := by rw [← HZ.out]; exact HK.out.1
            by_cases hke : k = z
            · subst hke
              have HE : Hid (r = -1) := by
                rw [Hid, ← hr.out]
                refine (Nx.eq (.inl ⟨rfl, fun i h1 h2 => ?_⟩)).symm
                by_cases h : i < c
                · exact HI.out i h1 h h2
                · exact HRt.out i h2 (HK.out.next.1 HZ.out.symm i (by omega))
              clear hc hkz
              go_wp2
              go_ret
              exact ⟨by rw [HE.out]; rfl, hs.made_grew⟩
            · obtain ⟨v, hv⟩ : ∃ v, u[k]? = some v := ⟨_, List.getElem?_eq_getElem (by rw [HZ.out]; omega)⟩
              have hcv := HK.out.next.2 v hv
              have hv24 := HLt.out v hcv.2
              have hcv2 : c < v := by
                have h1 := hcv.1
                by_cases e : c = v
                · exact absurd (e ▸ hcv.2) HNo.out
                · omega
              have HI2 : Hid (∀ i, lo ≤ i → i < v → i < 16777216 → tel l (ksS ks) (n : Nat) i = false) := fun i h1 h2 h3 => by
                by_cases h : i < c
                · exact HI.out i h1 h h3
                · exact HRt.out i h3 (AtI.gap HS.out HK.out hv (by omega) h2)
              obtain ⟨bb, oo, rfl, hrd⟩ := HR0.out.get (intv_get hv)
              have r1 := hrd _ hs
              have dk : decide ((k : Int) = (z : Int)) = false := decide_eq_false (by omega)
              have dk2 : ((k : Int) == (z : Int)) = false := by simp; omega
              have hkz2 : k < z := by omega
              clear hv hcv hrd
              go_wp2
              go_roundw
              case rel => exact ⟨v, by first | rfl | go_num, by omega, HI2, hs⟩
              case measure => simp [intOf] <;> omega
      · have HE : Hid (r = -1) := by
          rw [Hid, ← hr.out]
          exact (Nx.eq (.inl ⟨rfl, fun i h1 h2 => HI.out i h1 (by omega) h2⟩)).symm
        have dc : decide ((c : Int) < 16777216) = false := decide_eq_false (by omega)
        clear hc
        go_wp2
        go_ret
        exact ⟨by rw [HE.out]; rfl, hs.made_grew⟩
  · have HE : Hid (r = -1) := by
      rw [Hid, ← hr.out]
      exact nxt_out (tel_out (by rw [HV.out.len]; omega)) _ _
    by_cases h0 : n < 0
    · have d0 : decide (n < 0) = true := decide_eq_true h0
      clear hn h0
      go_enter Tryd.func34, Tryd.ntmps34
      go_wp2
      go_ret
      exact ⟨by rw [HE.out]; rfl, Grew.refl _⟩
    · have d0 : decide (n < 0) = false := decide_eq_false h0
      have d1 : decide ((q : Int) ≤ n) = true := decide_eq_true (by omega)
      clear hn h0
      go_enter Tryd.func34, Tryd.ntmps34
      go_wp2
      go_ret
      exact ⟨by rw [HE.out]; rfl, Grew.refl _⟩
structure LoI (p : Nat → Bool) (lo : Nat) (v : Int) (o : List Nat) : Prop where
  le : lo ≤ v.toNat
  o : o = sel p lo v.toNat
set_option maxHeartbeats 1000000 in
theorem rlistof_c {w : World} {E B C : Option Addr} {l : List NodeE} {ks : List KS} {q m ce c2 : Nat} (h : RfV w E B C l ks q m) (n f most : Int) (hm : most ≤ 1000) {o : List Nat} {z : Nat} (ho : Hid (lst (tel l (ksS ks) n) f.toNat 16777216 most.toNat = o)) (hz : Hid (o.length = z)) :
    Calls Tryd.prog 35 #[.slice E q ce, .slice C m c2, .int .i64 n, .int .i64 f, .int .i64 most] w fun e w' => ∃ A c, e = .returned (.slice A z c) ∧ St w [own A z c 3 1 (intv o)] w' := by
  have HV := Lib.hid h
  have hs := (St.start w).own_nil 3 1
  obtain ⟨lo, hlo⟩ : ∃ lo, f.toNat = lo := ⟨_, rfl⟩
  rw [hlo] at ho
  have HI0 : Hid (LoI (tel l (ksS ks) n) lo f []) := ⟨by omega, by rw [hlo, sel_empty (Nat.le_refl _)]⟩
  clear h hlo
  go_enter Tryd.func35, Tryd.ntmps35
  go_wp2
  go_loopw [11, 3] (fun ov fv wr => ∃ (A : Option Addr) (c y : Nat) (u : List Nat) (v : Int), ov = .slice A y c ∧ fv = .int .i64 v ∧ Hid (u.length = y) ∧ y ≤ most.toNat ∧ Hid (LoI (tel l (ksS ks) n) lo v u) ∧ St w [own A y c 3 1 (intv u)] wr) (fun ov _ _ => most.toNat - lenV ov)
  case atStart => exact ⟨none, 0, 0, [], f, rfl, rfl, rfl, Nat.zero_le _, HI0, hs⟩
  case round =>
    clear hs HI0
    obtain ⟨A, c, y, u, v, rfl, rfl, HY, hy, HI, hs⟩ := hrel
    by_cases hlt : (y : Int) < most
    · have dlt : decide ((y : Int) < most) = true := decide_eq_true hlt
      obtain ⟨r, HR⟩ : ∃ r, Hid (nxt (tel l (ksS ks) n) v.toNat 16777216 = r) := ⟨_, rfl⟩
      have hnx := nxt_nx (tel l (ksS ks) n) v.toNat 16777216
      rw [HR.out] at hnx
      by_cases hr : r < 0
      · have HE : Hid (u = o) := by
          rw [Hid, ← ho.out]
          have h1 := sel_far (a := lo) hnx hr
          rw [lst_all (by rw [h1, ← HI.out.o, HY.out]; exact hy), h1, HI.out.o]
        have HYZ : Hid (y = z) := by rw [Hid, ← HY.out, HE.out, hz.out]
        clear hnx
        go_wp2_with (first
          | (go_at_call 34; refine (rnextof_c (HV.out.grew hs.made_grew) n v HR).mono ?_; rintro e w' ⟨rfl, hg⟩; replace hs := hs.grew hg; clear hg))
        go_ret
        have h1 := HE.out
        have h2 := HYZ.out
        subst h1 h2
        exact ⟨A, c, rfl, hs⟩
      · obtain ⟨k, rfl⟩ := Int.eq_ofNat_of_zero_le (show 0 ≤ r by omega)
        have hk24 : k < 16777216 := by
          rcases hnx with ⟨h1, _⟩ | ⟨k', h1, h2, h3, _⟩
          · omega
          · omega
        have HI2 : Hid (LoI (tel l (ksS ks) n) lo ((k : Int) + 1) (u ++ [k])) := ⟨by
          have := HI.out.le
          rcases hnx with ⟨h1, _⟩ | ⟨k', h1, h2, h3, _⟩
          · omega
          · omega, by rw [show ((k : Int) + 1).toNat = k + 1 by omega, sel_next HI.out.le hnx, ← HI.out.o]⟩
        have HY2 : Hid ((u ++ [k]).length = y + 1) := by rw [Hid, List.length_append, HY.out]; rfl
        have HM : Hid (most.toNat - (y + 1) < most.toNat - y) := by rw [Hid]; omega
        have hy2 : y + 1 ≤ most.toNat := by omega
        clear hnx
        go_wp2_with (first
          | (go_at_call 34; refine (rnextof_c (HV.out.grew hs.made_grew) n v HR).mono ?_; rintro e w' ⟨rfl, hg⟩; replace hs := hs.grew hg; clear hg)
          | (refine wpl_build1 (v := .int .i64 (k : Nat)) elem24 (by decide) rfl rfl hs ?_; clear hs; intro gb w8 hs)
          | (refine wpl_append (A := A) (B := some ⟨gb, 0, none⟩) (n := y) (m := 1) (news := [.int .i64 (k : Nat)]) elem24 rfl rfl hs (Ent.skip (Ent.refl _)) RdS.blk rfl (ints_one (k : Int)) (by unfold maxLen; omega) (by omega) ?_; clear hs; intro A2 c3 w9 hs; rw [intv_append] at hs; replace hs := hs.rot.drop))
        go_roundw
        case rel => exact ⟨A2, c3, y + 1, u ++ [k], (k : Int) + 1, rfl, rfl, HY2, hy2, HI2, hs⟩
        case measure => exact HM.out
    · have dlt : decide ((y : Int) < most) = false := decide_eq_false hlt
      have HE : Hid (u = o) := by
        rw [Hid, ← ho.out]
        have hlo := HI.out.le
        have hyl : (sel (tel l (ksS ks) n) lo v.toNat).length = most.toNat := by rw [← HI.out.o, HY.out]; omega
        by_cases hv : v.toNat ≤ 16777216
        · rw [lst_full hlo hv hyl, HI.out.o]
        · have h1 := sel_far (l := l) (Ss := ksS ks) (n := n) (a := lo) (c := v.toNat) (r := -1) (.inl ⟨rfl, fun i a b => by omega⟩) (by decide)
          rw [lst_all (by rw [h1, hyl]; exact Nat.le_refl _), h1, HI.out.o]
      have HYZ : Hid (y = z) := by rw [Hid, ← HY.out, HE.out, hz.out]
      clear hlt
      go_wp2
      go_ret
      have h1 := HE.out
      have h2 := HYZ.out
      subst h1 h2
      exact ⟨A, c, rfl, hs⟩
end Go.Proofs.YtpnjoeiohigjmaaDoor
