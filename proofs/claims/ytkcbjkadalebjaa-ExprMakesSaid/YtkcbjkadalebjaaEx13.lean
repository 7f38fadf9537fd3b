/-
  The document's Check of nodes.
-/
import Derived.Test.YtkcbjkadalebjaaEx12
set_option maxRecDepth 100000
namespace Go.Proofs.Ytkcbjkadalebjaa
open Go Go.RowKit
attribute [local irreducible] wpList Calls Code.wp nodeErr checkV

set_option maxHeartbeats 2000000 in
theorem nodeok_c {w : World} {x : RNode} {a m bc : Nat} {B : Option Addr} {sets v : Int} (hm : Hid (x.kids.length = m)) (hm2 : m ≤ 4000000000) (hr : KidsR w B x.kids) (hv : Hid (nodeErr x a sets = v)) :
    Calls Try.prog 46 #[.agg (ndC x.k B m bc).toArray, .int .i64 (a : Nat), .int .i64 sets] w fun e w' => e = .returned (.int .i64 v) ∧ Grew w w' := by
  have hw := St.start w
  have HR := Lib.hid hr
  have hml := hm.out
  rw [← hv.out]
  clear hr hv v
  obtain ⟨bo, HA⟩ : ∃ b, Hid (x.kids.any (bad a) = b) := ⟨_, rfl⟩
  have hE1 : (x.k < 1 ∨ 5 < x.k ∨ 64 < x.kids.length ∨ ((x.k = 1 ∨ x.k = 5) ∧ x.kids.length ≠ 1)) → nodeErr x a sets = 1 := fun h => by unfold nodeErr; rw [if_pos h]
  have hE2 : x.k = 1 → x.kids.length = 1 → nodeErr x a sets = if x.kids.headD 0 < 0 ∨ sets ≤ x.kids.headD 0 then 1 else 0 := fun h h' => by unfold nodeErr; rw [if_neg (by omega), if_pos h]
  have hE3 : ¬ (x.k < 1 ∨ 5 < x.k ∨ 64 < x.kids.length ∨ ((x.k = 1 ∨ x.k = 5) ∧ x.kids.length ≠ 1)) → x.k ≠ 1 → nodeErr x a sets = if bo then 3 else 0 := fun h h' => by unfold nodeErr; rw [if_neg h, if_neg h', HA.out]
  rw [hml] at hE1 hE2 hE3
  have HY : Hid (∀ {w' : World}, Grew w w' → True) := fun _ => trivial
  by_cases h1 : x.k < 1
  · rw [hE1 (.inl h1)]
    have d1 : decide (x.k < 1) = true := decide_eq_true h1
    have e1 : (x.k == 1) = false := by simp; omega
    have e5 : (x.k == 5) = false := by simp; omega
    clear hE1 hE2 hE3 h1 hml
    go_enter Try.func46, Try.ntmps46
    go_wp2_with (first
      | (refine wpl_box_v (v := .agg (ndC x.k B m bc).toArray) rfl hw ?_; clear hw; intro g3 w3 hw; replace hw : St w (blk g3 (ndC x.k B m bc).toArray 38 :: _) w3 := hw; have c0 := Rd.blk (v := .int .i64 x.k) (k := 0) (by rfl) _ hw; have c1 := Rd.blk (v := .slice B m bc) (k := 1) (by rfl) _ hw; have hy1 := HY.out hw.made_grew))
    all_goals
      go_ret
      exact ⟨rfl, hw.made_grew⟩
  · have d1 : decide (x.k < 1) = false := decide_eq_false h1
    by_cases h5 : 5 < x.k
    · rw [hE1 (.inr (.inl h5))]
      have d5 : decide (5 < x.k) = true := decide_eq_true h5
      have e1 : (x.k == 1) = false := by simp; omega
      have e5 : (x.k == 5) = false := by simp; omega
      clear hE1 hE2 hE3 h1 h5 hml
      go_enter Try.func46, Try.ntmps46
      go_wp2_with (first
        | (refine wpl_box_v (v := .agg (ndC x.k B m bc).toArray) rfl hw ?_; clear hw; intro g3 w3 hw; replace hw : St w (blk g3 (ndC x.k B m bc).toArray 38 :: _) w3 := hw; have c0 := Rd.blk (v := .int .i64 x.k) (k := 0) (by rfl) _ hw; have c1 := Rd.blk (v := .slice B m bc) (k := 1) (by rfl) _ hw; have hy1 := HY.out hw.made_grew))
      all_goals
        go_ret
        exact ⟨rfl, hw.made_grew⟩
    · have d5 : decide (5 < x.k) = false := decide_eq_false h5
      by_cases h64 : 64 < m
      · rw [hE1 (.inr (.inr (.inl h64)))]
        have d6 : decide (64 < (m : Int)) = true := decide_eq_true (by omega)
        obtain ⟨p1, e1⟩ : ∃ p, (x.k == 1) = p := ⟨_, rfl⟩
        obtain ⟨p2, e5⟩ : ∃ p, (x.k == 5) = p := ⟨_, rfl⟩
        clear hE1 hE2 hE3 h1 h5 hml h64
        go_enter Try.func46, Try.ntmps46
        go_wp2_with (first
          | (refine wpl_box_v (v := .agg (ndC x.k B m bc).toArray) rfl hw ?_; clear hw; intro g3 w3 hw; replace hw : St w (blk g3 (ndC x.k B m bc).toArray 38 :: _) w3 := hw; have c0 := Rd.blk (v := .int .i64 x.k) (k := 0) (by rfl) _ hw; have c1 := Rd.blk (v := .slice B m bc) (k := 1) (by rfl) _ hw; have hy1 := HY.out hw.made_grew))
        all_goals
          go_ret
          exact ⟨rfl, hw.made_grew⟩
      · have d6 : decide (64 < (m : Int)) = false := decide_eq_false (by omega)
        by_cases k1 : x.k = 1
        · have e1 : (x.k == 1) = true := by simp; omega
          have e1n : (x.k != 1) = false := by simp; omega
          by_cases hm1 : m = 1
          · rw [hE2 k1 hm1]
            have n1 : ((m : Int) == 1) = true := by simp; omega
            have n2 : ((m : Int) != 1) = false := by simp; omega
            have m0 : 0 < m := by omega
            rw [hm1] at hml
            obtain ⟨y, hy⟩ : ∃ y, x.kids = [y] := List.length_eq_one_iff.1 hml
            obtain ⟨b, o, rfl, hc⟩ := HR.out 0 y (by rw [hy]; rfl)
            have hy0 : x.kids.headD 0 = y := by rw [hy]; rfl
            rw [hy0]
            clear HY
            have HY : Hid (∀ {w' : World}, Grew w w' → w'.cell? ⟨b, o, none⟩ = some (.int .i64 y)) := fun hg => hg.cell hc
            clear hE1 hE2 hE3 h1 h5 hml h64 k1 hy hy0 hc hm1
            by_cases hy0 : y < 0
            · rw [if_pos (.inl hy0)]
              have y0 : decide (y < 0) = true := decide_eq_true hy0
              clear hy0
              go_enter Try.func46, Try.ntmps46
              go_wp2_with (first
                | (refine wpl_box_v (v := .agg (ndC x.k (some ⟨b, o, none⟩) m bc).toArray) rfl hw ?_; clear hw; intro g3 w3 hw; replace hw : St w (blk g3 (ndC x.k (some ⟨b, o, none⟩) m bc).toArray 38 :: _) w3 := hw; have c0 := Rd.blk (v := .int .i64 x.k) (k := 0) (by rfl) _ hw; have c1 := Rd.blk (v := .slice (some ⟨b, o, none⟩) m bc) (k := 1) (by rfl) _ hw; have hy1 := HY.out hw.made_grew))
              all_goals
                go_ret
                exact ⟨rfl, hw.made_grew⟩
            · have y0 : decide (y < 0) = false := decide_eq_false hy0
              by_cases hys : sets ≤ y
              · rw [if_pos (.inr hys)]
                have y1 : decide (sets ≤ y) = true := decide_eq_true hys
                clear hys hy0
                go_enter Try.func46, Try.ntmps46
                go_wp2_with (first
                  | (refine wpl_box_v (v := .agg (ndC x.k (some ⟨b, o, none⟩) m bc).toArray) rfl hw ?_; clear hw; intro g3 w3 hw; replace hw : St w (blk g3 (ndC x.k (some ⟨b, o, none⟩) m bc).toArray 38 :: _) w3 := hw; have c0 := Rd.blk (v := .int .i64 x.k) (k := 0) (by rfl) _ hw; have c1 := Rd.blk (v := .slice (some ⟨b, o, none⟩) m bc) (k := 1) (by rfl) _ hw; have hy1 := HY.out hw.made_grew))
                all_goals
                  go_ret
                  exact ⟨rfl, hw.made_grew⟩
              · rw [if_neg (by omega)]
                have y1 : decide (sets ≤ y) = false := decide_eq_false hys
                clear hys hy0
                go_enter Try.func46, Try.ntmps46
                go_wp2_with (first
                  | (refine wpl_box_v (v := .agg (ndC x.k (some ⟨b, o, none⟩) m bc).toArray) rfl hw ?_; clear hw; intro g3 w3 hw; replace hw : St w (blk g3 (ndC x.k (some ⟨b, o, none⟩) m bc).toArray 38 :: _) w3 := hw; have c0 := Rd.blk (v := .int .i64 x.k) (k := 0) (by rfl) _ hw; have c1 := Rd.blk (v := .slice (some ⟨b, o, none⟩) m bc) (k := 1) (by rfl) _ hw; have hy1 := HY.out hw.made_grew))
                go_loopw [8] (fun cv wr => cv = .int .i64 0 ∧ wr = w3) (fun _ _ => 0)
                case atStart => exact ⟨rfl, rfl⟩
                case round =>
                  obtain ⟨rfl, rfl⟩ := hrel
                  go_wp2
                  all_goals
                    go_ret
                    exact ⟨rfl, hw.made_grew⟩
          · rw [hE1 (.inr (.inr (.inr ⟨.inl k1, hm1⟩)))]
            have n1 : ((m : Int) == 1) = false := by simp; omega
            have n2 : ((m : Int) != 1) = true := by simp; omega
            clear hE1 hE2 hE3 h1 h5 hml h64 k1 hm1
            go_enter Try.func46, Try.ntmps46
            go_wp2_with (first
              | (refine wpl_box_v (v := .agg (ndC x.k B m bc).toArray) rfl hw ?_; clear hw; intro g3 w3 hw; replace hw : St w (blk g3 (ndC x.k B m bc).toArray 38 :: _) w3 := hw; have c0 := Rd.blk (v := .int .i64 x.k) (k := 0) (by rfl) _ hw; have c1 := Rd.blk (v := .slice B m bc) (k := 1) (by rfl) _ hw; have hy1 := HY.out hw.made_grew))
            all_goals
              go_ret
              exact ⟨rfl, hw.made_grew⟩
        · have e1 : (x.k == 1) = false := by simp; omega
          have e1n : (x.k != 1) = true := by simp; omega
          by_cases k5 : x.k = 5
          · have e5 : (x.k == 5) = true := by simp; omega
            by_cases hm1 : m = 1
            · rw [hE3 (by omega) k1]
              have n1 : ((m : Int) == 1) = true := by simp; omega
              have n2 : ((m : Int) != 1) = false := by simp; omega
              clear hE1 hE2 hE3 h1 h5 hml h64 k1 k5 hm1
              obtain ⟨vv, hvv⟩ : ∃ vv : Int, Hid ((if bo = true then 3 else 0) = vv) := ⟨_, rfl⟩
              rw [hvv.out]
              go_enter Try.func46, Try.ntmps46
              go_wp2_with (first
                | (refine wpl_box_v (v := .agg (ndC x.k B m bc).toArray) rfl hw ?_; clear hw; intro g3 w3 hw; replace hw : St w (blk g3 (ndC x.k B m bc).toArray 38 :: _) w3 := hw; have c0 := Rd.blk (v := .int .i64 x.k) (k := 0) (by rfl) _ hw; have c1 := Rd.blk (v := .slice B m bc) (k := 1) (by rfl) _ hw; have hy1 := HY.out hw.made_grew))
              all_goals
                go_loopw [8] (fun cv wr => ∃ j : Nat, j ≤ m ∧ cv = .int .i64 (j : Nat) ∧ Hid ((x.kids.take j).any (bad a) = false) ∧ wr = w3) (fun cv _ => m - (intOf cv).toNat)
                case atStart => exact ⟨0, Nat.zero_le _, rfl, rfl, rfl⟩
                case round =>
                  obtain ⟨j, hj, rfl, HT, rfl⟩ := hrel
                  clear hy1
                  by_cases hlt : j < m
                  · obtain ⟨y, hy⟩ : ∃ y, x.kids[j]? = some y := ⟨_, List.getElem?_eq_getElem (by rw [hm.out]; exact hlt)⟩
                    obtain ⟨b, o, rfl, hc⟩ := HR.out j y hy
                    replace hc := hw.made_grew.cell hc
                    have HN := Lib.hid (any_take (n := a) hy)
                    clear hy
                    have hb1 : bad a y = true → Hid (bo = true) := fun hb => by
                      have h3 := HN.out
                      rw [hb, Bool.or_true] at h3
                      rw [Hid, ← HA.out, ← List.take_append_drop (j + 1) x.kids, List.any_append, h3, Bool.true_or]
                    by_cases h1 : y < 0
                    · have hb := hb1 (by unfold bad; rw [decide_eq_true h1, Bool.true_or])
                      clear hb1
                      go_wp2
                      go_ret
                      exact ⟨by rw [← hvv.out, hb.out]; rfl, hw.made_grew⟩
                    · by_cases h3 : (a : Int) ≤ y
                      · have hb := hb1 (by unfold bad; rw [decide_eq_true h3, Bool.or_true])
                        clear hb1
                        go_wp2
                        go_ret
                        exact ⟨by rw [← hvv.out, hb.out]; rfl, hw.made_grew⟩
                      · have HT2 : Hid ((x.kids.take (j + 1)).any (bad a) = false) := by
                          rw [Hid, HN.out, HT.out]
                          unfold bad
                          rw [decide_eq_false h1, decide_eq_false h3]
                          rfl
                        clear hb1
                        go_wp2
                        go_roundw
                        case rel => exact ⟨j + 1, by omega, by go_num, HT2, by trivial⟩
                        case measure => simp [intOf] <;> omega
                  · have hjm : j = m := by omega
                    subst hjm
                    have hb : Hid (bo = false) := by
                      have h3 := HT.out
                      rw [List.take_of_length_le (by rw [hm.out]; exact Nat.le_refl _), HA.out] at h3
                      exact h3
                    go_wp2
                    go_ret
                    exact ⟨by rw [← hvv.out, hb.out]; rfl, hw.made_grew⟩
            · rw [hE1 (.inr (.inr (.inr ⟨.inr k5, hm1⟩)))]
              have n1 : ((m : Int) == 1) = false := by simp; omega
              have n2 : ((m : Int) != 1) = true := by simp; omega
              clear hE1 hE2 hE3 h1 h5 hml h64 k1 hm1 k5
              go_enter Try.func46, Try.ntmps46
              go_wp2_with (first
                | (refine wpl_box_v (v := .agg (ndC x.k B m bc).toArray) rfl hw ?_; clear hw; intro g3 w3 hw; replace hw : St w (blk g3 (ndC x.k B m bc).toArray 38 :: _) w3 := hw; have c0 := Rd.blk (v := .int .i64 x.k) (k := 0) (by rfl) _ hw; have c1 := Rd.blk (v := .slice B m bc) (k := 1) (by rfl) _ hw; have hy1 := HY.out hw.made_grew))
              all_goals
                go_ret
                exact ⟨rfl, hw.made_grew⟩
          · rw [hE3 (by omega) k1]
            have e5 : (x.k == 5) = false := by simp; omega
            clear hE1 hE2 hE3 h1 h5 hml h64 k1 k5
            obtain ⟨vv, hvv⟩ : ∃ vv : Int, Hid ((if bo = true then 3 else 0) = vv) := ⟨_, rfl⟩
            rw [hvv.out]
            go_enter Try.func46, Try.ntmps46
            go_wp2_with (first
              | (refine wpl_box_v (v := .agg (ndC x.k B m bc).toArray) rfl hw ?_; clear hw; intro g3 w3 hw; replace hw : St w (blk g3 (ndC x.k B m bc).toArray 38 :: _) w3 := hw; have c0 := Rd.blk (v := .int .i64 x.k) (k := 0) (by rfl) _ hw; have c1 := Rd.blk (v := .slice B m bc) (k := 1) (by rfl) _ hw; have hy1 := HY.out hw.made_grew))
            all_goals
              go_loopw [8] (fun cv wr => ∃ j : Nat, j ≤ m ∧ cv = .int .i64 (j : Nat) ∧ Hid ((x.kids.take j).any (bad a) = false) ∧ wr = w3) (fun cv _ => m - (intOf cv).toNat)
              case atStart => exact ⟨0, Nat.zero_le _, rfl, rfl, rfl⟩
              case round =>
                obtain ⟨j, hj, rfl, HT, rfl⟩ := hrel
                clear hy1
                by_cases hlt : j < m
                · obtain ⟨y, hy⟩ : ∃ y, x.kids[j]? = some y := ⟨_, List.getElem?_eq_getElem (by rw [hm.out]; exact hlt)⟩
                  obtain ⟨b, o, rfl, hc⟩ := HR.out j y hy
                  replace hc := hw.made_grew.cell hc
                  have HN := Lib.hid (any_take (n := a) hy)
                  clear hy
                  have hb1 : bad a y = true → Hid (bo = true) := fun hb => by
                    have h3 := HN.out
                    rw [hb, Bool.or_true] at h3
                    rw [Hid, ← HA.out, ← List.take_append_drop (j + 1) x.kids, List.any_append, h3, Bool.true_or]
                  by_cases h1 : y < 0
                  · have hb := hb1 (by unfold bad; rw [decide_eq_true h1, Bool.true_or])
                    clear hb1
                    go_wp2
                    go_ret
                    exact ⟨by rw [← hvv.out, hb.out]; rfl, hw.made_grew⟩
                  · by_cases h3 : (a : Int) ≤ y
                    · have hb := hb1 (by unfold bad; rw [decide_eq_true h3, Bool.or_true])
                      clear hb1
                      go_wp2
                      go_ret
                      exact ⟨by rw [← hvv.out, hb.out]; rfl, hw.made_grew⟩
                    · have HT2 : Hid ((x.kids.take (j + 1)).any (bad a) = false) := by
                        rw [Hid, HN.out, HT.out]
                        unfold bad
                        rw [decide_eq_false h1, decide_eq_false h3]
                        rfl
                      clear hb1
                      go_wp2
                      go_roundw
                      case rel => exact ⟨j + 1, by omega, by go_num, HT2, by trivial⟩
                      case measure => simp [intOf] <;> omega
                · have hjm : j = m := by omega
                  subst hjm
                  have hb : Hid (bo = false) := by
                    have h3 := HT.out
                    rw [List.take_of_length_le (by rw [hm.out]; exact Nat.le_refl _), HA.out] at h3
                    exact h3
                  go_wp2
                  go_ret
                  exact ⟨by rw [← hvv.out, hb.out]; rfl, hw.made_grew⟩
set_option maxHeartbeats 1000000 in
theorem refchk_c {w : World} {A : Option Addr} {xs : List RNode} {n cap : Nat} (hn : Hid (xs.length = n)) (hm : n ≤ 4000000000) (hv : NdV w A xs) {sets v : Int} (hc : Hid (checkV xs sets = v)) :
    Calls Try.prog 31 #[.slice A n cap, .int .i64 sets] w fun e w' => e = .returned (.int .i64 v) ∧ Grew w w' := by
  have HV := Lib.hid hv
  rw [← hc.out]
  clear hv hc v
  have hE : checkV xs sets = if 1000 < n then 2 else nodesErr sets xs 0 := by unfold checkV; rw [hn.out]
  rw [hE]
  clear hE
  by_cases h1 : 1000 < n
  · rw [if_pos h1]
    have d1 : decide (1000 < (n : Int)) = true := decide_eq_true (by omega)
    clear h1
    go_enter Try.func31, Try.ntmps31
    go_wp2
    go_ret
    exact ⟨rfl, Grew.refl _⟩
  · rw [if_neg h1]
    have d1 : decide (1000 < (n : Int)) = false := decide_eq_false (by omega)
    clear h1
    go_enter Try.func31, Try.ntmps31
    go_wp2
    go_loopw [5] (fun cv wr => ∃ i : Nat, i ≤ n ∧ cv = .int .i64 (i : Nat) ∧ Hid (nodesErr sets xs 0 = nodesErr sets (xs.drop i) i) ∧ Grew w wr) (fun cv _ => n - (intOf cv).toNat)
    case atStart => exact ⟨0, Nat.zero_le _, rfl, rfl, Grew.refl _⟩
    case round =>
      obtain ⟨i, hi, rfl, HE, hg⟩ := hrel
      by_cases hlt : i < n
      · obtain ⟨x, hx⟩ : ∃ x, xs[i]? = some x := ⟨_, List.getElem?_eq_getElem (by rw [hn.out]; exact hlt)⟩
        have HD := Lib.hid (nodesErr_drop (sets := sets) hx)
        obtain ⟨b, o, B, bc, rfl, r1, r2, r3, r4, r5⟩ := HV.out.row i x hx
        replace r1 := hg.cell r1
        replace r2 := hg.cell r2
        have R3 := Lib.hid (r3.grew hg)
        obtain ⟨v, HN⟩ : ∃ v, Hid (nodeErr x i sets = v) := ⟨_, rfl⟩
        rw [HN.out] at HD
        clear hx r3 r5
        obtain ⟨m, HM⟩ : ∃ m, Hid (x.kids.length = m) := ⟨_, rfl⟩
        rw [HM.out] at r2 r4
        by_cases hv0 : v = 0
        · subst hv0
          have HE2 : Hid (nodesErr sets xs 0 = nodesErr sets (xs.drop (i + 1)) (i + 1)) := by rw [Hid, HE.out, HD.out]; rfl
          go_wp2_with (first
            | (go_at_call 46; refine (nodeok_c (x := x) (B := B) HM r4 R3.out HN).mono ?_; rintro e w' ⟨rfl, hg2⟩; replace hg := hg.trans hg2; clear hg2))
          go_roundw
          case rel => exact ⟨i + 1, by omega, by go_num, HE2, hg⟩
          case measure => simp [intOf] <;> omega
        · have HE2 : Hid (nodesErr sets xs 0 = v) := by rw [Hid, HE.out, HD.out, if_pos hv0]
          have hv1 : (v == 0) = false := by simp; exact hv0
          have hv2 : (v != 0) = true := by simp; exact hv0
          clear hv0
          go_wp2_with (first
            | (go_at_call 46; refine (nodeok_c (x := x) (B := B) HM r4 R3.out HN).mono ?_; rintro e w' ⟨rfl, hg2⟩; replace hg := hg.trans hg2; clear hg2))
          go_ret
          exact ⟨by rw [HE2.out]; rfl, hg⟩
      · have hin : i = n := by omega
        subst hin
        have h3 := HE.out
        rw [List.drop_of_length_le (by rw [hn.out]; exact Nat.le_refl _)] at h3
        replace h3 := Lib.hid h3
        go_wp2
        go_ret
        exact ⟨by rw [h3.out]; rfl, hg⟩
end Go.Proofs.Ytkcbjkadalebjaa
