/-
  The document's rising rows (vivariumref1), 2: Set, Same, In, Next.
-/
import Derived.Test.YtkcbjkadalebjaaRrow
set_option maxRecDepth 100000
namespace Go.Proofs.Ytkcbjkadalebjaa
open Go Go.RowKit
attribute [local irreducible] wpList Calls Code.wp

theorem setS_snoc {zs : List Int} {k : Nat} {z : Int} (hz : zs[k]? = some z) : setS (zs.take (k + 1)) = addS (setS (zs.take k)) z := by
  obtain ⟨hk, e⟩ := List.getElem?_eq_some_iff.1 hz
  rw [setS, setS, List.take_succ_eq_append_getElem hk, List.foldl_append, e]
  rfl
theorem addS_sorted {S : List Nat} (h : S.Pairwise (· < ·)) (z : Int) : (addS S z).Pairwise (· < ·) := by
  unfold addS
  split
  · exact sorted_insS h
  · exact h
theorem addS_lt {S : List Nat} (h : ∀ a ∈ S, a < 16777216) (z : Int) : ∀ a ∈ addS S z, a < 16777216 := by
  unfold addS
  split
  · rename_i ho
    have h1 : 0 ≤ z ∧ z < 16777216 := of_decide_eq_true ho
    intro a ha
    rcases mem_insS.1 ha with rfl | ha
    · omega
    · exact h a ha
  · exact h
theorem foldS_good : ∀ (zs : List Int) (S : List Nat), S.Pairwise (· < ·) → (∀ a ∈ S, a < 16777216) → (zs.foldl addS S).Pairwise (· < ·) ∧ ∀ a ∈ zs.foldl addS S, a < 16777216
  | [], _, h1, h2 => ⟨h1, h2⟩
  | z :: zs, S, h1, h2 => foldS_good zs (addS S z) (addS_sorted h1 z) (addS_lt h2 z)
theorem setS_sorted (zs : List Int) : (setS zs).Pairwise (· < ·) := (foldS_good zs [] List.Pairwise.nil (fun _ h => nomatch h)).1
theorem setS_lt (zs : List Int) : ∀ a ∈ setS zs, a < 16777216 := (foldS_good zs [] List.Pairwise.nil (fun _ h => nomatch h)).2
theorem okN_cases (z : Int) : (okN z = true ∧ 0 ≤ z ∧ z < 16777216) ∨ (okN z = false ∧ z < 0) ∨ (okN z = false ∧ 16777216 ≤ z) := by
  by_cases h1 : 0 ≤ z
  · by_cases h2 : z < 16777216
    · exact .inl ⟨decide_eq_true ⟨h1, h2⟩, h1, h2⟩
    · exact .inr (.inr ⟨decide_eq_false fun h => h2 h.2, by omega⟩)
  · exact .inr (.inl ⟨decide_eq_false fun h => h1 h.1, by omega⟩)
attribute [local irreducible] setS addS okN memS remS errN nextS fromS
set_option maxHeartbeats 400000 in
theorem rset_c {w0 w : World} {L : List As} {A : Option Addr} {zs : List Int} {c n : Nat} {S : List Nat} (hs : St w0 L w) (hr : RdS w0 L A (zs.map (Value.int .i64))) (hn : zs.length = n) (hl : n ≤ 4000000000) (HSE : Hid (setS zs = S)) :
    Calls Try.prog 45 #[.slice A n c] w fun e w' => ∃ B cap, e = .returned (.slice B S.length cap) ∧ St w0 (own B S.length cap 3 1 (intv S) :: L) w' := by
  subst hn
  go_enter Try.func45, Try.ntmps45
  go_wp2
  replace hs : St w0 (own none 0 0 3 1 (intv []) :: L) w := hs.own_nil _ _
  have HZ : Hid (setS (zs.take 0) = []) := by rw [Hid]; unfold setS; rfl
  go_loopw [3, 4] (fun ov iv wr => ∃ (k : Nat) (R : List Nat) (B : Option Addr) (cap : Nat), k ≤ zs.length ∧ ov = .slice B R.length cap ∧ iv = .int .i64 (k : Nat) ∧ Hid (setS (zs.take k) = R) ∧ St w0 (own B R.length cap 3 1 (intv R) :: L) wr) (fun _ iv _ => zs.length - (intOf iv).toNat)
  case atStart => exact ⟨0, [], none, 0, Nat.zero_le _, rfl, rfl, HZ, hs⟩
  case round =>
    clear hs HZ
    obtain ⟨k, R, B, cap, hk, rfl, rfl, HR, hs⟩ := hrel
    by_cases hlt : k < zs.length
    · obtain ⟨b, o, z, rfl, hc, hz⟩ := hr.int hlt
      have hc := hc.tail _ hs
      have HRS := Lib.hid (HR.out ▸ setS_sorted _ : R.Pairwise (· < ·))
      have HRl : Hid (R.length ≤ 4000000000) := by
        rw [Hid]
        have := setS_len (zs.take k)
        rw [HR.out, List.length_take] at this
        omega
      have HN := setS_snoc hz
      rw [HR.out] at HN
      clear hz
      rcases okN_cases z with ⟨ho, h1, h2⟩ | ⟨ho, h1⟩ | ⟨ho, h1⟩
      · obtain ⟨q, rfl⟩ := Int.eq_ofNat_of_zero_le h1
        have HI : Hid (setS (zs.take (k + 1)) = insS q R) := by rw [Hid, HN]; unfold addS; rw [ho, if_pos rfl]; rfl
        clear ho HN
        go_wp2_with (first
          | (go_at_call 55; refine (rwith_c HRS.out rfl HRl.out hs q).mono ?_; clear hs hc; rintro e w ⟨B2, cap2, rfl, hs⟩))
        go_roundw
        case rel => exact ⟨k + 1, insS q R, B2, cap2, by omega, rfl, by go_num, HI, hs⟩
        case measure => simp [intOf] <;> omega
      · have HI : Hid (setS (zs.take (k + 1)) = R) := by rw [Hid, HN]; unfold addS; rw [ho]; rfl
        clear ho HN
        go_wp2
        go_roundw
        case rel => exact ⟨k + 1, R, B, cap, by omega, rfl, by go_num, HI, hs⟩
        case measure => simp [intOf] <;> omega
      · have HI : Hid (setS (zs.take (k + 1)) = R) := by rw [Hid, HN]; unfold addS; rw [ho]; rfl
        clear ho HN
        go_wp2
        go_roundw
        case rel => exact ⟨k + 1, R, B, cap, by omega, rfl, by go_num, HI, hs⟩
        case measure => simp [intOf] <;> omega
    · have he : zs.take k = zs := List.take_of_length_le (by omega)
      obtain rfl : R = S := by rw [← HR.out, he, HSE.out]
      clear HR HSE he
      go_wp2
      go_ret
      exact ⟨B, cap, rfl, hs⟩
theorem take_snoc_eq {S1 S2 : List Nat} {k x y : Nat} (h : S1.take k = S2.take k) (hx : S1[k]? = some x) (hy : S2[k]? = some y) (e : x = y) : S1.take (k + 1) = S2.take (k + 1) := by
  obtain ⟨h1, e1⟩ := List.getElem?_eq_some_iff.1 hx
  obtain ⟨h2, e2⟩ := List.getElem?_eq_some_iff.1 hy
  rw [List.take_succ_eq_append_getElem h1, List.take_succ_eq_append_getElem h2, h, e1, e2, e]
theorem rsame_c {w0 w : World} {L : List As} {S1 S2 : List Nat} {A B : Option Addr} {n1 n2 c1 c2 : Nat} {b : Bool} (h1 : S1.length = n1) (h2 : S2.length = n2) (hm1 : n1 ≤ 4000000000) (hs : St w0 L w) (hr1 : RdS w0 L A (intv S1)) (hr2 : RdS w0 L B (intv S2)) (hb : b = true ↔ S1 = S2) :
    Calls Try.prog 40 #[.slice A n1 c1, .slice B n2 c2] w fun e w' => e = .returned (.bool b) ∧ Grew w w' := by
  have HL1 := Lib.hid h1
  have HL2 := Lib.hid h2
  by_cases hne : n1 = n2
  · have HB := Lib.hid hb
    clear hb h1 h2
    go_enter Try.func40, Try.ntmps40
    go_wp2
    go_loopw [5] (fun iv wr => ∃ k : Nat, k ≤ n1 ∧ iv = .int .i64 (k : Nat) ∧ Hid (S1.take k = S2.take k) ∧ Grew w wr) (fun iv _ => n1 - (intOf iv).toNat)
    case atStart => exact ⟨0, Nat.zero_le _, rfl, rfl, Grew.refl w⟩
    case round =>
      obtain ⟨k, hk, rfl, HT, hg⟩ := hrel
      by_cases hlt : k < n1
      · obtain ⟨x, hx⟩ : ∃ x, S1[k]? = some x := ⟨_, List.getElem?_eq_getElem (by rw [HL1.out]; omega)⟩
        obtain ⟨y, hy⟩ : ∃ y, S2[k]? = some y := ⟨_, List.getElem?_eq_getElem (by rw [HL2.out]; omega)⟩
        obtain ⟨p, o, rfl, hcx⟩ := hr1.get (intv_get hx)
        obtain ⟨p', o', rfl, hcy⟩ := hr2.get (intv_get hy)
        have hcx := hcx _ (hs.grew hg)
        have hcy := hcy _ (hs.grew hg)
        by_cases hxy : x = y
        · have HT2 := Lib.hid (take_snoc_eq HT.out hx hy hxy)
          clear HT hx hy
          go_wp2
          refine wp_region_grow (by kernel_rfl) (by kernel_rfl) fun hne2 => ?_
          have g1 := fun p : GW wr => p.grew.cell hcx
          have g2 := fun p : GW wr => p.grew.cell hcy
          repeat (go_big_quiet_step (fail))
          refine wpQuiet_nil ?_
          clear hne2 g1 g2
          intro u hu
          go_wp2
          go_roundw
          case rel => exact ⟨k + 1, by omega, by go_num, HT2, hg.trans hu⟩
          case measure => simp [intOf] <;> omega
        · have HF : Hid (b = false) := by
            rw [Hid]
            cases hbb : b with
            | false => rfl
            | true =>
              have e := HB.out.1 hbb
              rw [e, hy] at hx
              exact absurd (Option.some.inj hx).symm hxy
          clear HT hx hy HB
          go_wp2
          refine wp_region_grow (by kernel_rfl) (by kernel_rfl) fun hne2 => ?_
          have g1 := fun p : GW wr => p.grew.cell hcx
          have g2 := fun p : GW wr => p.grew.cell hcy
          repeat (go_big_quiet_step (fail))
          refine wpQuiet_nil ?_
          clear hne2 g1 g2
          intro u hu
          go_wp2
          go_ret
          exact ⟨by rw [HF.out]; rfl, hg.trans hu⟩
      · have HF : Hid (b = true) := by
          have e1 : S1.take k = S1 := List.take_of_length_le (by rw [HL1.out]; omega)
          have e2 : S2.take k = S2 := List.take_of_length_le (by rw [HL2.out]; omega)
          have := HT.out
          rw [e1, e2] at this
          exact HB.out.2 this
        clear HT HB
        go_wp2
        go_ret
        exact ⟨by rw [HF.out]; rfl, hg⟩
  · obtain rfl : b = false := by
      cases hbb : b with
      | false => rfl
      | true => exact absurd (by rw [← h1, ← h2, hb.1 hbb]) hne
    clear hb h1 h2
    go_enter Try.func40, Try.ntmps40
    go_wp2
    go_ret
    exact ⟨rfl, Grew.refl w⟩
end Go.Proofs.Ytkcbjkadalebjaa
