/-
  The contract of a set's Remove.
-/
import Derived.Test.YtkcbjkadalebjaaHib3
import Derived.Test.YtkcbjkadalebjaaHlaw
set_option maxRecDepth 100000
namespace Go.Proofs.Ytkcbjkadalebjaa
open Go Go.RowKit
attribute [local irreducible] wpList Calls Code.wp

/-- The way down: the nodes from the top to below m. -/
def wayC (gw : Nat → Nat) (m : Nat) : Array Value := ((List.range 4).map fun l => if m ≤ l then Value.pointer (some ⟨gw l, 0, none⟩) else .pointer none).toArray
theorem wayC_size (gw : Nat → Nat) (m : Nat) : (wayC gw m).size = 4 := by simp [wayC]
theorem wayC_set (gw : Nat → Nat) {m : Nat} : (wayC gw (m + 1)).setIfInBounds m (.pointer (some ⟨gw m, 0, none⟩)) = wayC gw m := by
  apply Array.ext (by simp [wayC])
  intro i h1 h2
  rw [Array.getElem_setIfInBounds]
  · simp only [wayC, List.getElem_toArray, List.getElem_map, List.getElem_range]
    by_cases e : m = i
    · subst e; simp
    · rw [if_neg e]
      by_cases h : m ≤ i
      · rw [if_pos h, if_pos (by omega)]
      · rw [if_neg h, if_neg (by omega)]
  · simpa [wayC] using h1
theorem wayC_get (gw : Nat → Nat) {l : Nat} (hl : l < 4) : (wayC gw 0)[l]? = some (.pointer (some ⟨gw l, 0, none⟩)) := by
  simp [wayC, hl]
set_option maxHeartbeats 2000000 in
theorem remove_in {w0 w : World} {L : List As} {T : Nat} {S : List Nat} (hs : St w0 (HSet T S :: L) w) (i : Nat) (hi : i < 16777216) (him : i ∈ S) :
    Calls Try.prog 25 #[.pointer (some ⟨T, 0, none⟩), .int .i64 i] w fun e w' => e = .returned (.tuple #[.bool true, .int .i64 0]) ∧ St w0 (HSet T (delS i S) :: L) w' := by
  have HOK : Hid (decide ((0 : Int) ≤ (i : Int) ∧ (i : Int) < 16777216) = true) := by rw [Hid]; simp; omega
  have HM : Hid (memS S (i : Int) = true) := memS_nat.2 him
  go_enter Try.func25, Try.ntmps25
  go_wp2_with (first
    | (go_at_call 37; refine (ok_c _ _).mono ?_; rw [HOK.out]; rintro e w' ⟨rfl, rfl⟩)
    | (go_at_call 18; refine (has_s hs HM).mono ?_; clear hs; rintro e w ⟨rfl, hs⟩))
  clear HOK HM
  obtain ⟨ks, G, W, hf, hs⟩ := hs.hopen
  obtain ⟨gw, hg3, hway⟩ := hf.way hi him
  have hs := (hs.alloc (wayC gw 4) 80).rot
  generalize w.heap.size = gA at hs ⊢
  have HF := Lib.hid hf
  have HW := Lib.hid hway
  clear hway hf
  go_loopw [7, 8] (fun nd lv wr => ∃ m : Nat, m ≤ 3 ∧ lv = .int .i64 (m : Nat) ∧ nd = .pointer (some ⟨gw m, 0, none⟩) ∧ St w0 (tbl ks G W S.length :: blk gA (wayC gw (m + 1)) 80 :: L) wr) (fun _ lv _ => (intOf lv).toNat)
  case atStart => exact ⟨3, Nat.le_refl _, rfl, by rw [hg3], hs⟩
  case round =>
    clear hs
    obtain ⟨m, hm, rfl, rfl, hs⟩ := hrel
    cases m with
    | zero =>
      have hw0 := fun L => Wr.blk (w0 := w0) (g := gA) (cs := wayC gw (0 + 1)) (t := 80) (v := .pointer (some ⟨gw 0, 0, none⟩)) (L := L) (k := 0) (by rw [wayC_size]; decide)
      rw [wayC_set gw] at hw0
      have hw1 := fun L => (hw0 L).tail (p := tbl ks G W S.length)
      clear hw0
      go_wp2_with (first | (refine wpl_store rfl rfl rfl size_kid hs (hw1 _) ?_; clear hs hw1; intro w hs))
      have hr0 := HF.out.rem HW.out
      have hg0 := Lib.hid (gone_zero S i)
      have HS := Lib.hid (show S.Pairwise (· < ·) ∧ (∀ a ∈ S, a < 16777216) from ⟨HF.out.sorted, HF.out.small⟩)
      clear HF HW hg3 hm
      go_loopw [38] (fun c wr => ∃ m ks G W, m ≤ 4 ∧ Hid (RemPart T S i m ks G W gw) ∧ Hid (Gone S i m) ∧ c = .int .i64 (m : Nat) ∧ St w0 (tbl ks G W S.length :: blk gA (wayC gw 0) 80 :: L) wr) (fun c _ => 4 - (intOf c).toNat)
      case atStart => exact ⟨0, ks, G, W, by omega, hr0, hg0, rfl, hs⟩
      case round =>
        clear hs hg0 hr0
        obtain ⟨m, ks, G, W, hm, HR, HG, rfl, hs⟩ := hrel
        by_cases hm4 : m < 4
        · have hm3 : m ≤ 3 := by omega
          have hd := dig_lt i m
          have HD := Lib.hid fun w => digit_c i m (by omega) hm3 w
          obtain ⟨d, hdd⟩ : ∃ d, d = dig i m := ⟨_, rfl⟩
          rw [← hdd] at hd HD
          have hin := HR.out.in_ks (Nat.le_refl m) hm3
          have hhere := HR.out.way m (Nat.le_refl m) hm3
          have hrw := fun L => Rd.tbl_word (w0 := w0) (L := L) (W := W) (n := S.length) hin hhere
          rw [HR.out.word_here hm3] at hrw
          have hrway := fun L => (Rd.blk (w0 := w0) (g := gA) (t := 80) (L := L) (wayC_get gw hm4)).tail (p := tbl ks G W S.length)
          have hxl := wordOf_lt S (m, plc i m)
          obtain ⟨y, hy⟩ : ∃ y, y = wordOf (delS i S) (m, plc i m) := ⟨_, rfl⟩
          have HY : Hid (subW (wordOf S (m, plc i m)) (allW [(d : Int)]) = y) := by
            rw [Hid, hy, hdd, show plc i m = i / 64 ^ (m + 1) from rfl, wordOf_del_gone HG.out]; simp [allW, dig]
          have hww := fun L => Wr.tbl_word (w0 := w0) (L := L) (W := W) (n := S.length) HR.out.nodup hin hhere y
          generalize wordOf S (m, plc i m) = x at hrw hxl HY
          have HYD := Lib.hid (show y = wordOf (delS i S) (m, plc i m) ∧ d = dig i m from ⟨hy, hdd⟩)
          clear hy hdd hhere hin
          go_wp2_with (first
            | (go_at_call 39; refine (HD.out _).mono ?_; rintro e w' ⟨rfl, rfl⟩))
          refine wp_region_chain [false, false, false, false, false, false, false, false, false, false, true, true, false, false, true] (by kernel_rfl) (by kernel_rfl) ?_
          intro wb hb
          replace hs := hs.grew hb
          clear hb
          have hne : Nonempty (GW wb) := ⟨⟨wb, Grew.refl _⟩⟩
          have hc1 := (hrway _).gall hs
          have hc2 := (hrw _).gall hs
          simp only [pickOps]
          repeat (go_big_quiet_step (fail))
          refine wpQuiet_nil ?_
          clear hne hc1 hc2
          intro u hu
          replace hs := hs.grew hu
          clear hu
          simp only [chainIx]
          refine wpChain_next rfl ?_
          refine wpl_build1 (v := .int .i64 (d : Nat)) elem24 (by decide) rfl rfl (St.start u) ?_
          intro g2 w2 hm2
          refine wpList_nil ⟨rfl, hm2.made_grew, ?_⟩
          intro u2 hu2
          replace hs := (hs.made hm2).grew hu2
          clear hm2 hu2
          refine wpChain_next rfl ?_
          go_wp2_with (first | (go_at_call 43; refine (without_1 hxl HY hs).mono ?_; rintro e w' ⟨rfl, rfl⟩))
          refine ⟨Grew.refl _, ?_⟩
          intro u3 hu3
          replace hs := hs.drop.grew hu3
          clear hu3
          refine wpChain_last rfl ?_
          refine wpl_store rfl rfl rfl size_word hs (hww _) ?_
          clear hs hww hrw hrway
          intro w hs
          refine wpList_nil ⟨rfl, ?_⟩
          obtain ⟨ks', G', hr2, hin2, hhere2, hw2⟩ := HR.out.next him hm3 HYD.out.1
          rw [← HYD.out.2] at hw2
          have HR2 := Lib.hid hr2
          have hrway := (Rd.blk (w0 := w0) (g := gA) (t := 80) (L := L) (wayC_get gw hm4)).tail (p := tbl ks G (upd W (m, plc i m) y) S.length)
          have hc1 := hrway _ hs
          have hrw2 := fun L => Rd.tbl_word (w0 := w0) (L := L) (W := upd W (m, plc i m) y) (n := S.length) hin2 hhere2
          rw [upd_same] at hrw2
          have hrway2 := (Rd.blk (w0 := w0) (g := gA) (t := 80) (L := L) (wayC_get gw hm4)).tail (p := tbl ks' G' (upd W (m, plc i m) y) S.length)
          clear hin2 hhere2 hr2
          by_cases hy0 : y = 0
          · have HG2 : Hid (Gone S i (m + 1)) := gone_next (by rw [← HYD.out.1]; exact hy0)
            clear HYD HY
            subst hy0
            go_wp2_with (first
              | (refine wpl_store rfl rfl rfl size_kid hs (hw2 _ _ _) ?_; clear hs hc1; intro w hs; have hc1 := hrway2 _ hs; have hc2 := hrw2 _ _ hs))
            go_roundw
            case rel =>
              (repeat apply Exists.intro)
              refine ⟨?_, rfl⟩
              exact ⟨m + 1, ks', G', _, by omega, HR2, HG2, by go_num, hs⟩
            case measure => simp [intOf] <;> omega
          · have HFit := Lib.hid (HR2.out.done HS.out.1 HS.out.2 HG.out (by rw [← HYD.out.1]; exact hy0))
            clear HYD HY
            have hk3 : (3, 0) ∈ ks' := (HFit.out.mem _).2 (by rw [HFit.out.top]; exact Option.some_ne_none T)
            have hrn := fun L => Rd.tbl_n (w0 := w0) (L := L) (W := (upd W (m, plc i m) y)) (n := S.length) hk3 HFit.out.top
            have hwn := fun L => Wr.tbl_n (w0 := w0) (L := L) (W := (upd W (m, plc i m) y)) (n := S.length) HFit.out.nodup hk3 HFit.out.top (fun j hj => (HFit.out.lev j hj).2) (delS i S).length
            have hln := len_delS (sorted_nodup HS.out.1) him
            have hln2 := sorted_len (N := 16777216) (a := 0) HS.out.1 fun a ha => ⟨Nat.zero_le _, HS.out.2 a ha⟩
            have hln3 : (0 : Int) ≤ (S.length : Int) - 1 := by omega
            have hln4 : (S.length : Int) ≤ 16777216 := by omega
            rw [show ((delS i S).length : Int) = (S.length : Int) - 1 by omega] at hwn
            clear hln hln2 hk3
            go_wp2_with (first
              | (refine wpl_store rfl rfl rfl size_kid hs (hw2 _ _ _) ?_; clear hs hc1; intro w hs; have hc1 := hrway2 _ hs; have hc2 := hrw2 _ _ hs; have hc3 := hrn _ _ hs)
              | (refine wpl_store rfl rfl rfl size_int hs (hwn _) ?_; clear hs hc1 hc2 hc3; intro w hs))
            go_ret2
            exact ⟨rfl, (hs.hshut HFit.out).rot.drop⟩
        · obtain rfl : m = 4 := by omega
          obtain ⟨_, hfit⟩ := HR.out.empty HS.out.2 hi HG.out
          have HFit := Lib.hid hfit
          clear hfit HR HG
          have hk3 : (3, 0) ∈ ks := (HFit.out.mem _).2 (by rw [HFit.out.top]; exact Option.some_ne_none T)
          have hrn := fun L => Rd.tbl_n (w0 := w0) (L := L) (W := W) (n := S.length) hk3 HFit.out.top
          have hwn := fun L => Wr.tbl_n (w0 := w0) (L := L) (W := W) (n := S.length) HFit.out.nodup hk3 HFit.out.top (fun j hj => (HFit.out.lev j hj).2) (delS i S).length
          have hln := len_delS (sorted_nodup HS.out.1) him
          have hln2 := sorted_len (N := 16777216) (a := 0) HS.out.1 fun a ha => ⟨Nat.zero_le _, HS.out.2 a ha⟩
          have hln3 : (0 : Int) ≤ (S.length : Int) - 1 := by omega
          have hln4 : (S.length : Int) ≤ 16777216 := by omega
          rw [show ((delS i S).length : Int) = (S.length : Int) - 1 by omega] at hwn
          clear hln hln2 hk3
          have hc3 := hrn _ _ hs
          go_wp2_with (first
            | (refine wpl_store rfl rfl rfl size_int hs (hwn _) ?_; clear hs hc3; intro w hs))
          go_ret2
          exact ⟨rfl, (hs.hshut HFit.out).rot.drop⟩
    | succ m =>
      have hm3 : m + 1 ≤ 3 := hm
      have hd := dig_lt i (m + 1)
      have HD := Lib.hid fun w => digit_c i (m + 1) (by omega) hm3 w
      obtain ⟨d, hdd⟩ : ∃ d, d = dig i (m + 1) := ⟨_, rfl⟩
      have hgm := HW.out (m + 1) hm3
      have hgk := HW.out m (by omega)
      have hk := (HF.out.mem _).2 (by rw [hgm]; exact Option.some_ne_none _)
      have hrk := Rd.tbl_kid (w0 := w0) (L := blk gA (wayC gw (m + 1)) 80 :: L) (W := W) (n := S.length) hk hgm hd
      have e : ptrV (G (m, plc i m)) = .pointer (some ⟨gw m, 0, none⟩) := by rw [hgk]; rfl
      rw [kid_next, e] at hrk
      rw [← hdd] at hd HD hrk
      have hw0 := fun L => Wr.blk (w0 := w0) (g := gA) (cs := wayC gw (m + 1 + 1)) (t := 80) (v := .pointer (some ⟨gw (m + 1), 0, none⟩)) (L := L) (k := m + 1) (by rw [wayC_size]; omega)
      rw [wayC_set gw] at hw0
      have hw1 := fun L => (hw0 L).tail (p := tbl ks G W S.length)
      clear hw0 hgm hgk hk e hdd
      go_wp2_with (first | (refine wpl_store rfl rfl rfl size_kid hs (hw1 _) ?_; clear hs hw1; intro w hs))
      refine wp_region_grow (by kernel_rfl) (by kernel_rfl) fun hne => ?_
      have hc := hrk.gall hs
      repeat (go_big_quiet_step ((first
        | (go_at_call 39; exact in_gsame (HD.out _)))))
      refine wpQuiet_nil ?_
      clear hne hc
      intro u hu
      replace hs := hs.grew hu
      clear hu
      go_wp2
      go_roundw
      case rel => exact ⟨m, by omega, by go_num, rfl, hs⟩
      case measure => simp [intOf] <;> omega
/-- What Remove answers, and what it leaves. -/
def remS (S : List Nat) (i : Int) : List Nat := if okN i then delS i.toNat S else S
theorem remove_h {w0 w : World} {L : List As} {T : Nat} {S : List Nat} (hs : St w0 (HSet T S :: L) w) (i : Int) :
    Calls Try.prog 25 #[.pointer (some ⟨T, 0, none⟩), .int .i64 i] w fun e w' => e = .returned (.tuple #[.bool (memS S i), .int .i64 (errN i)]) ∧ St w0 (HSet T (remS S i) :: L) w' := by
  obtain ⟨hS, hS2⟩ := hs.sorted
  by_cases hi : 0 ≤ i ∧ i < 16777216
  · obtain ⟨j, rfl⟩ := Int.eq_ofNat_of_zero_le hi.1
    have hj : j < 16777216 := by omega
    have ok : okN (j : Int) = true := decide_eq_true hi
    have e1 : errN (j : Int) = 0 := by unfold errN; rw [ok]; rfl
    have e2 : remS S (j : Int) = delS j S := by unfold remS; rw [ok]; simp
    rw [e1, e2]
    by_cases hm : j ∈ S
    · have HM : memS S (j : Int) = true := memS_nat.2 hm
      rw [HM]
      exact remove_in hs j hj hm
    · have HM : Hid (memS S (j : Int) = false) := by rw [Hid, ← Bool.not_eq_true, memS_nat]; exact hm
      have HOK : Hid (decide ((0 : Int) ≤ (j : Int) ∧ (j : Int) < 16777216) = true) := ok
      rw [del_id hm, HM.out]
      clear hS hS2 hi ok e1 e2 hm
      go_enter Try.func25, Try.ntmps25
      go_wp2_with (first
        | (go_at_call 37; refine (ok_c _ _).mono ?_; rw [HOK.out]; rintro e w' ⟨rfl, rfl⟩)
        | (go_at_call 18; refine (has_s hs HM).mono ?_; clear hs; rintro e w ⟨rfl, hs⟩))
      go_ret2
      exact ⟨rfl, hs⟩
  · have ok : okN i = false := decide_eq_false hi
    have e1 : errN i = 1 := by unfold errN; rw [ok]; rfl
    have e2 : remS S i = S := by unfold remS; rw [ok]; rfl
    have HM : memS S i = false := memS_out hS2 hi
    rw [e1, e2, HM]
    have HOK : Hid (decide (0 ≤ i ∧ i < 16777216) = false) := ok
    clear hS hS2 hi ok e1 e2 HM
    go_enter Try.func25, Try.ntmps25
    go_wp2_with (first
      | (go_at_call 37; refine (ok_c _ _).mono ?_; rw [HOK.out]; rintro e w' ⟨rfl, rfl⟩))
    go_ret2
    exact ⟨rfl, hs⟩
end Go.Proofs.Ytkcbjkadalebjaa
