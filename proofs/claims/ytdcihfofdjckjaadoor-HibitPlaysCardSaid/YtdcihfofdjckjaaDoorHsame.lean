/-
  The contracts of node.same and of hibit.Same.
-/
import Derived.Test.YtdcihfofdjckjaaDoorHcp3
set_option maxRecDepth 100000
namespace Go.Proofs.YtdcihfofdjckjaaDoor
open Go Go.RowKit
attribute [local irreducible] wpList Calls Code.wp

/-- A tree of nodes that can be read in a world. -/
structure TreeR (S : List Nat) (G : Key → Option Nat) (w : World) : Prop where
  word : ∀ k g, G k = some g → k.1 ≤ 3 → w.cell? ⟨g, 0, none⟩ = some (.int .u64 (wordOf S k : Nat))
  kid : ∀ k g d, G k = some g → d < 64 → w.cell? ⟨g, 1 + d, none⟩ = some (kidV G k.1 k.2 d)
  there : ∀ k : Key, k.1 < 3 → (G k ≠ none ↔ wordOf S k ≠ 0)
theorem TreeR.grew {S : List Nat} {G : Key → Option Nat} {w w' : World} (h : TreeR S G w) (hg : Grew w w') : TreeR S G w' :=
  ⟨fun k g h1 h2 => hg.cell (h.word k g h1 h2), fun k g d h1 h2 => hg.cell (h.kid k g d h1 h2), h.there⟩
theorem Fits.tree {w0 w : World} {L : List As} {T n : Nat} {S : List Nat} {ks : List Key} {G : Key → Option Nat} {W : Key → Nat} (hf : Fits T S ks G W) (hs : St w0 (tbl ks G W n :: L) w) : TreeR S G w where
  word k g h1 h2 := by
    have hk : k ∈ ks := (hf.mem k).2 (by rw [h1]; exact Option.some_ne_none g)
    rw [← hf.word k h2]
    exact Rd.tbl_word hk h1 _ hs
  kid k g d h1 h2 := Rd.tbl_kid ((hf.mem k).2 (by rw [h1]; exact Option.some_ne_none g)) h1 h2 _ hs
  there := hf.there
theorem zero_tree {w0 w : World} {L : List As} {c : Nat} (hs : St w0 (blk c zeroCells.toArray 56 :: L) w) : TreeR [] (G0 c) w where
  word k g h1 _ := by
    have hk : k = (3, 0) := Classical.byContradiction fun h => by unfold G0 at h1; rw [upd_other _ _ h] at h1; cases h1
    subst hk
    unfold G0 at h1
    rw [upd_same] at h1
    injection h1 with h1
    subst h1
    have := Rd.blk (w0 := w0) (g := c) (k := 0) (cs := zeroCells.toArray) (t := 56) (v := .int .u64 0) (L := L) rfl w hs
    simpa [wordOf, allW] using this
  kid k g d h1 hd := by
    have hk : k = (3, 0) := Classical.byContradiction fun h => by unfold G0 at h1; rw [upd_other _ _ h] at h1; cases h1
    subst hk
    have e : kidV (G0 c) 3 0 d = .pointer none := by
      unfold kidV G0
      rw [if_neg (by decide), upd_other _ _ (by intro h; injection h with h2; exact absurd h2 (by decide))]
      rfl
    unfold G0 at h1
    rw [upd_same] at h1
    injection h1 with h1
    subst h1
    show w.cell? _ = some (kidV (G0 c) 3 0 d)
    rw [e]
    exact Rd.blk (w0 := w0) (g := c) (k := 1 + d) (cs := zeroCells.toArray) (t := 56) (v := .pointer none) (L := L) (by
      simp only [zeroCells, List.getElem?_toArray, Nat.add_comm 1 d, List.getElem?_cons_succ]
      rw [List.getElem?_replicate, if_pos hd]) w hs
  there k hk := by
    unfold G0
    rw [upd_other _ _ (by intro e; subst e; exact absurd hk (by decide))]
    simp [wordOf, allW]
theorem same_nil (w : World) : Calls Tryd.prog 39 #[.pointer none, .pointer none] w fun e w' => e = .returned (.bool true) ∧ Grew w w' := by
  go_enter Tryd.func39, Tryd.ntmps39
  go_wp2
  go_ret
  exact ⟨rfl, Grew.refl _⟩
theorem eql_nil_l (g : Nat) (w : World) : (binOp .eql 53 (.pointer none) (.pointer (some ⟨g, 0, none⟩))).run Tryd.prog w = .ok (.bool false) w := by kernel_rfl
theorem same_nil1 (w : World) (g : Nat) : Calls Tryd.prog 39 #[.pointer none, .pointer (some ⟨g, 0, none⟩)] w fun e w' => e = .returned (.bool false) ∧ Grew w w' := by
  have he := eql_nil_l g
  go_enter Tryd.func39, Tryd.ntmps39
  go_wp2
  go_ret
  exact ⟨rfl, Grew.refl _⟩
theorem same_nil2 (w : World) (g : Nat) : Calls Tryd.prog 39 #[.pointer (some ⟨g, 0, none⟩), .pointer none] w fun e w' => e = .returned (.bool false) ∧ Grew w w' := by
  go_enter Tryd.func39, Tryd.ntmps39
  go_wp2
  go_ret
  exact ⟨rfl, Grew.refl _⟩
def SamePost (b : Bool) (w : World) (e : Ending) (w' : World) : Prop := e = .returned (.bool b) ∧ Grew w w'
theorem same_step (K : Nat → Prop) {x1 x2 g1 g2 : Nat} {f1 f2 : Nat → Value} {w : World} (hx1 : w.cell? ⟨g1, 0, none⟩ = some (.int .u64 (x1 : Nat))) (hx2 : w.cell? ⟨g2, 0, none⟩ = some (.int .u64 (x2 : Nat)))
    (hf1 : ∀ d, d < 64 → w.cell? ⟨g1, 1 + d, none⟩ = some (f1 d)) (hf2 : ∀ d, d < 64 → w.cell? ⟨g2, 1 + d, none⟩ = some (f2 d))
    (ih : ∀ i, i < 64 → ∀ b : Bool, (b = true ↔ K i) → ∀ w', Grew w w' → Calls Tryd.prog 39 #[f1 i, f2 i] w' (SamePost b w'))
    {b : Bool} (hb : b = true ↔ x1 = x2 ∧ ∀ i, i < 64 → K i) : Calls Tryd.prog 39 #[.pointer (some ⟨g1, 0, none⟩), .pointer (some ⟨g2, 0, none⟩)] w (SamePost b w) := by
  have hg := Grew.refl w
  obtain ⟨kc, hkc⟩ : ∃ kc, Hid (kc = (List.range 64).map f1) := ⟨_, rfl⟩
  have hkl : kc.length = 64 := by rw [hkc.out]; simp
  have hkg : ∀ d, d < 64 → kc[d]? = some (f1 d) := fun d hd => by rw [hkc.out]; simp [hd]
  have hrk : ∀ j u, kc[j]? = some u → Rd w [] ⟨g1, 1 + j, none⟩ u := fun j u hj => by
    have hj64 : j < 64 := by
      rcases Nat.lt_or_ge j 64 with h | h
      · exact h
      · rw [List.getElem?_eq_none (by rw [hkl]; exact h)] at hj; cases hj
    rw [hkg j hj64] at hj
    rw [← Option.some.inj hj]
    exact Rd.old (hf1 j hj64)
  have IH := Lib.hid ih
  have HB := Lib.hid hb
  by_cases hx : x1 = x2
  · subst hx
    have hst := St.start w
    clear ih hb
    go_enter Tryd.func39, Tryd.ntmps39
    go_wp2
    refine wp_region_grow (by kernel_rfl) (by kernel_rfl) fun hne => ?_
    have c1 := fun p : GW w => p.grew.cell hx1
    have c2 := fun p : GW w => p.grew.cell hx2
    repeat (go_big_quiet_step (fail))
    refine wpQuiet_nil ?_
    clear hne c1 c2
    intro u hu
    replace hg := hg.trans hu
    replace hst := hst.grew hu
    go_wp2_with (first
      | (refine wpl_load_agg (cs := kc) rfl agg_kids (by rw [size_kids, hkl]) hst hrk ?_))
    go_loopw [29] (fun iv wr => ∃ i : Nat, i ≤ 64 ∧ iv = .int .i64 (i : Nat) ∧ Hid (∀ d, d < i → K d) ∧ Grew w wr) (fun iv _ => 64 - (intOf iv).toNat)
    case atStart => exact ⟨0, Nat.zero_le _, rfl, Lib.hid fun d hd => absurd hd (Nat.not_lt_zero d), hg⟩
    case round =>
      clear hst hu hg
      obtain ⟨i, hi, rfl, HK, hg⟩ := hrel
      by_cases hlt : i < 64
      · have hki := hkg i hlt
        have hc2 := hg.cell (hf2 i hlt)
        by_cases hK : K i
        · have IH1 := Lib.hid (IH.out i hlt true (by simp [hK]))
          have HK2 : Hid (∀ d, d < i + 1 → K d) := Lib.hid fun d hd => by
            rcases Nat.lt_or_ge d i with h | h
            · exact HK.out d h
            · have : d = i := by omega
              rw [this]; exact hK
          clear hK IH HB HK hf1 hf2 hkg hrk
          generalize f1 i = v1 at hki IH1
          generalize f2 i = v2 at hc2 IH1
          go_wp2_with (first
            | (refine wpl_index arr_kids one_kid size_kid rfl rfl hlt hki ?_)
            | (go_at_call 39; refine (IH1.out _ hg).mono ?_; rintro e w' ⟨rfl, hg2⟩; replace hg := hg.trans hg2; clear hg2))
          go_roundw
          case rel => exact ⟨i + 1, by omega, by go_num, HK2, hg⟩
          case measure => simp [intOf] <;> omega
        · have IH1 := Lib.hid (IH.out i hlt false (by simp [hK]))
          have hbf : b = false := by
            cases b with
            | false => rfl
            | true => exact absurd ((HB.out.1 rfl).2 i hlt) hK
          subst hbf
          clear hK IH HB HK hf1 hf2 hkg hrk
          generalize f1 i = v1 at hki IH1
          generalize f2 i = v2 at hc2 IH1
          go_wp2_with (first
            | (refine wpl_index arr_kids one_kid size_kid rfl rfl hlt hki ?_)
            | (go_at_call 39; refine (IH1.out _ hg).mono ?_; rintro e w' ⟨rfl, hg2⟩; replace hg := hg.trans hg2; clear hg2))
          go_ret
          exact ⟨rfl, hg⟩
      · obtain rfl : i = 64 := by omega
        have hbt : b = true := HB.out.2 ⟨trivial, HK.out⟩
        subst hbt
        clear HB HK IH hf1 hf2 hkg hrk
        go_wp2
        go_ret
        exact ⟨rfl, hg⟩
  · have hbf : b = false := by
      cases b with
      | false => rfl
      | true => exact absurd (HB.out.1 rfl).1 hx
    subst hbf
    have hx3 : ((x1 : Int) == x2) = false := by simp; omega
    clear ih hb HB IH
    go_enter Tryd.func39, Tryd.ntmps39
    go_wp2
    refine wp_region_grow (by kernel_rfl) (by kernel_rfl) fun hne => ?_
    have c1 := fun p : GW w => p.grew.cell hx1
    have c2 := fun p : GW w => p.grew.cell hx2
    repeat (go_big_quiet_step (fail))
    refine wpQuiet_nil ?_
    clear hne c1 c2
    intro u hu
    go_wp2
    go_ret
    exact ⟨rfl, hu⟩
end Go.Proofs.YtdcihfofdjckjaaDoor
