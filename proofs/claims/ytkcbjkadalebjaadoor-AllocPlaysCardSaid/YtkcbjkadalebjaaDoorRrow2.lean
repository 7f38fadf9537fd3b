/-
  The document's rising rows (vivariumref1), 2: Set, Same, In, Next.
-/
import Derived.Test.YtkcbjkadalebjaaDoorRrow
set_option maxRecDepth 100000
namespace Go.Proofs.YtkcbjkadalebjaaDoor
open Go Go.RowKit
attribute [local irreducible] wpList Calls Code.wp

theorem setS_snoc {zs : List Int} {k : Nat} {z : Int} (hz : zs[k]? = some z) : setS (zs.take (k + 1)) = addS (setS (zs.take k)) z := by
  obtain ⟨hk, e⟩ := List.getElem?_eq_some_iff.1 hz
  rw [setS, setS, List.take_succ_eq_append_getElem hk, List.foldl_append, e]
  rfl
theorem addS_sorted {S : List Nat} (h : S.Pairwise (· < ·)) (z : Int) : (addS S z).Pairwise (· < ·) := by
  unfold addS
  split
  · exact sorted_insS h
  · exact h
theorem addS_lt {S : List Nat} (h : ∀ a ∈ S, a < 16777216) (z : Int) : ∀ a ∈ addS S z, a < 16777216 := by
  unfold addS
  split
  · rename_i ho
    have h1 : 0 ≤ z ∧ z < 16777216 := of_decide_eq_true ho
    intro a ha
    rcases mem_insS.1 ha with rfl | ha
    · omega
    · exact h a ha
  · exact h
theorem foldS_good : ∀ (zs : List Int) (S : List Nat), S.Pairwise (· < ·) → (∀ a ∈ S, a < 16777216) → (zs.foldl addS S).Pairwise (· < ·) ∧ ∀ a ∈ zs.foldl addS S, a < 16777216
  | [], _, h1, h2 => ⟨h1, h2⟩
  | z :: zs, S, h1, h2 => foldS_good zs (addS S z) (addS_sorted h1 z) (addS_lt h2 z)
theorem setS_sorted (zs : List Int) : (setS zs).Pairwise (· < ·) := (foldS_good zs [] List.Pairwise.nil (fun _ h => nomatch h)).1
theorem setS_lt (zs : List Int) : ∀ a ∈ setS zs, a < 16777216 := (foldS_good zs [] List.Pairwise.nil (fun _ h => nomatch h)).2
theorem okN_cases (z : Int) : (okN z = true ∧ 0 ≤ z ∧ z < 16777216) ∨ (okN z = false ∧ z < 0) ∨ (okN z = false ∧ 16777216 ≤ z) := by
  by_cases h1 : 0 ≤ z
  · by_cases h2 : z < 16777216
    · exact .inl ⟨decide_eq_true ⟨h1, h2⟩, h1, h2⟩
    · exact .inr (.inr ⟨decide_eq_false fun h => h2 h.2, by omega⟩)
  · exact .inr (.inl ⟨decide_eq_false fun h => h1 h.1, by omega⟩)
attribute [local irreducible] setS addS okN memS remS errN nextS listS fromS
theorem take_snoc_eq {S1 S2 : List Nat} {k x y : Nat} (h : S1.take k = S2.take k) (hx : S1[k]? = some x) (hy : S2[k]? = some y) (e : x = y) : S1.take (k + 1) = S2.take (k + 1) := by
  obtain ⟨h1, e1⟩ := List.getElem?_eq_some_iff.1 hx
  obtain ⟨h2, e2⟩ := List.getElem?_eq_some_iff.1 hy
  rw [List.take_succ_eq_append_getElem h1, List.take_succ_eq_append_getElem h2, h, e1, e2, e]
theorem rsame_c {w0 w : World} {L : List As} {S1 S2 : List Nat} {A B : Option Addr} {n1 n2 c1 c2 : Nat} {b : Bool} (h1 : S1.length = n1) (h2 : S2.length = n2) (hm1 : n1 ≤ 4000000000) (hs : St w0 L w) (hr1 : RdS w0 L A (intv S1)) (hr2 : RdS w0 L B (intv S2)) (hb : b = true ↔ S1 = S2) :
    Calls Tryd.prog 45 #[.slice A n1 c1, .slice B n2 c2] w fun e w' => e = .returned (.bool b) ∧ Grew w w' := by
  have HL1 := Lib.hid h1
  have HL2 := Lib.hid h2
  by_cases hne : n1 = n2
  · have HB := Lib.hid hb
    clear hb h1 h2
    go_enter Tryd.func45, Tryd.ntmps45
    go_wp2
    go_loopw [5] (fun iv wr => ∃ k : Nat, k ≤ n1 ∧ iv = .int .i64 (k : Nat) ∧ Hid (S1.take k = S2.take k) ∧ Grew w wr) (fun iv _ => n1 - (intOf iv).toNat)
    case atStart => exact ⟨0, Nat.zero_le _, rfl, rfl, Grew.refl w⟩
    case round =>
      obtain ⟨k, hk, rfl, HT, hg⟩ := hrel
      by_cases hlt : k < n1
      · obtain ⟨x, hx⟩ : ∃ x, S1[k]? = some x := ⟨_, List.getElem?_eq_getElem (by rw [HL1.out]; omega)⟩
        obtain ⟨y, hy⟩ : ∃ y, S2[k]? = some y := ⟨_, List.getElem?_eq_getElem (by rw [HL2.out]; omega)⟩
        obtain ⟨p, o, rfl, hcx⟩ := hr1.get (intv_get hx)
        obtain ⟨p', o', rfl, hcy⟩ := hr2.get (intv_get hy)
        have hcx := hcx _ (hs.grew hg)
        have hcy := hcy _ (hs.grew hg)
        by_cases hxy : x = y
        · have HT2 := Lib.hid (take_snoc_eq HT.out hx hy hxy)
          clear HT hx hy
          go_wp2
          refine wp_region_grow (by kernel_rfl) (by kernel_rfl) fun hne2 => ?_
          have g1 := fun p : GW wr => p.grew.cell hcx
          have g2 := fun p : GW wr => p.grew.cell hcy
          repeat (go_big_quiet_step (fail))
          refine wpQuiet_nil ?_
          clear hne2 g1 g2
          intro u hu
          go_wp2
          go_roundw
          case rel => exact ⟨k + 1, by omega, by go_num, HT2, hg.trans hu⟩
          case measure => simp [intOf] <;> omega
        · have HF : Hid (b = false) := by
            rw [Hid]
            cases hbb : b with
            | false => rfl
            | true =>
              have e := HB.out.1 hbb
              rw [e, hy] at hx
              exact absurd (Option.some.inj hx).symm hxy
          clear HT hx hy HB
          go_wp2
          refine wp_region_grow (by kernel_rfl) (by kernel_rfl) fun hne2 => ?_
          have g1 := fun p : GW wr => p.grew.cell hcx
          have g2 := fun p : GW wr => p.grew.cell hcy
          repeat (go_big_quiet_step (fail))
          refine wpQuiet_nil ?_
          clear hne2 g1 g2
          intro u hu
          go_wp2
          go_ret
          exact ⟨by rw [HF.out]; rfl, hg.trans hu⟩
      · have HF : Hid (b = true) := by
          have e1 : S1.take k = S1 := List.take_of_length_le (by rw [HL1.out]; omega)
          have e2 : S2.take k = S2 := List.take_of_length_le (by rw [HL2.out]; omega)
          have := HT.out
          rw [e1, e2] at this
          exact HB.out.2 this
        clear HT HB
        go_wp2
        go_ret
        exact ⟨by rw [HF.out]; rfl, hg⟩
  · obtain rfl : b = false := by
      cases hbb : b with
      | false => rfl
      | true => exact absurd (by rw [← h1, ← h2, hb.1 hbb]) hne
    clear hb h1 h2
    go_enter Tryd.func45, Tryd.ntmps45
    go_wp2
    go_ret
    exact ⟨rfl, Grew.refl w⟩
theorem rin_c {w0 w : World} {L : List As} {S : List Nat} (hS : S.Pairwise (· < ·)) {A : Option Addr} {n cap : Nat} (hn : S.length = n) (hn2 : n ≤ 4000000000) (hs : St w0 L w) (hr : RdS w0 L A (intv S)) {f : Int} {b : Bool} (h : Hid (memS S f = b)) :
    Calls Tryd.prog 13 #[.slice A n cap, .int .i64 f] w fun e w' => e = .returned (.bool b) ∧ Grew w w' := by
  have HA := Lib.hid (at_c (cap := cap) hS hn hn2 hs hr f)
  clear hS hn hr
  go_enter Tryd.func13, Tryd.ntmps13
  go_wp2_with (first
    | (go_at_call 34; refine HA.out.mono ?_; rintro e w' ⟨k, rfl, hk, hg⟩))
  go_ret
  exact ⟨by rw [h.out]; rfl, hg⟩
end Go.Proofs.YtkcbjkadalebjaaDoor
