/-
  BitsTells: the walk.
-/
import Derived.Test.YtgdljjpdoocnnaaDoorLaw1d
import Derived.Test.YtgdljjpdoocnnaaDoorRefW
set_option maxRecDepth 100000
namespace Go.Proofs.YtgdljjpdoocnnaaDoor
open Go Go.RowKit
attribute [local irreducible] wpList Calls Code.wp

theorem rof_v {w0 w : World} {L : List As} {A : Option Addr} {zs : List Int} {c n : Nat} {v : Nat} (h : Hid (allW zs = v)) (hn : Hid (zs.length = n)) (hs : St w0 L w) (hr : RdS w0 L A (zs.map (Value.int .i64))) (hl : n ≤ maxLen) :
    Calls Tryd.prog 24 #[.slice A n c] w fun e w' => e = .returned (.int .u64 (v : Nat)) ∧ w = w' := by
  rw [← h.out]
  have hn := hn.out
  subst hn
  exact rof_c hs hr hl
theorem rfirst_v {x : Nat} (hx : x < 2 ^ 64) {f v : Int} (h : Hid (firstW x f = v)) (w : World) : Calls Tryd.prog 27 #[.int .u64 x, .int .i64 f] w fun e w' => e = .returned (.int .i64 v) ∧ w = w' := by
  rw [← h.out]; exact rfirst_c hx f w
/-- How many are below k, the last of these. -/
def cutN (x k : Nat) (n : Nat) (last : Int) : Prop := ∃ pre post, listW x = pre ++ post ∧ pre.length = n ∧ (∀ p ∈ pre, p < k) ∧ (∀ q ∈ post, k ≤ q) ∧ last = (match pre.getLast? with | some i => (i : Int) | none => -1)
theorem cutN.skip {x k n : Nat} {last : Int} (h : cutN x k n last) (hb : x.testBit k = false) : cutN x (k + 1) n last := by
  obtain ⟨pre, post, h1, h2, h3, h4, h5⟩ := h
  refine ⟨pre, post, h1, h2, fun p hp => by have := h3 p hp; omega, fun q hq => ?_, h5⟩
  have := h4 q hq
  have hm : q ∈ listW x := by rw [h1]; simp [hq]
  have hb2 := (mem_listW.1 hm).2
  rcases Nat.eq_or_lt_of_le this with h | h
  · subst h; rw [hb] at hb2; cases hb2
  · exact h
theorem cutN.take {x k n : Nat} {last : Int} (h : cutN x k n last) (hb : x.testBit k = true) (hk : k < 64) : cutN x (k + 1) (n + 1) k ∧ n < cntW x ∧ ((listW x).map fun i : Nat => Value.int .i64 (i : Int))[n]? = some (.int .i64 (k : Int)) := by
  obtain ⟨pre, post, h1, h2, h3, h4, h5⟩ := h
  have hm : k ∈ listW x := mem_listW.2 ⟨hk, hb⟩
  rw [h1, List.mem_append] at hm
  have hp : k ∈ post := hm.resolve_left fun h => Nat.lt_irrefl _ (h3 k h)
  cases post with
  | nil => cases hp
  | cons q post =>
    have hs := listW_sorted x
    rw [h1, List.pairwise_append, List.pairwise_cons] at hs
    have hq : k = q := by
      rcases List.mem_cons.1 hp with h | h
      · exact h
      · have := hs.2.1.1 k h; have := h4 q (by simp); omega
    subst hq
    refine ⟨⟨pre ++ [k], post, by simp [h1], by simp [h2], fun p hp => ?_, fun r hr => hs.2.1.1 r hr, by simp⟩, by unfold cntW; rw [h1]; simp; omega, ?_⟩
    · rcases List.mem_append.1 hp with h | h
      · have := h3 p h; omega
      · simp at h; omega
    · rw [h1, List.map_append, List.getElem?_append_right (by simp; omega)]
      simp [h2]
theorem cutN.all {x n : Nat} {last : Int} (h : cutN x 64 n last) : cntW x = n ∧ lastW x = last := by
  obtain ⟨pre, post, h1, h2, h3, h4, h5⟩ := h
  have : post = [] := List.eq_nil_iff_forall_not_mem.2 fun q hq => by
    have := h4 q hq
    have hm : q ∈ listW x := by rw [h1]; simp [hq]
    have := (mem_listW.1 hm).1
    omega
  subst this
  rw [List.append_nil] at h1
  exact ⟨by unfold cntW; rw [h1, h2], by rw [lastW_list, h1, h5]; cases pre.getLast? <;> rfl⟩
set_option maxHeartbeats 1000000 in
theorem tells_c {w0 : World} (hT : Tab w0) {va vb vc : Value} {za zb zc : List Int} (hva : IntArg w0 va za) (hvb : IntArg w0 vb zb) (hvc : IntArg w0 vc zc) (from_ : Int) :
    Calls Tryd.prog 7 #[va, vb, vc, .int .i64 from_] w0 (LawPost w0) := by
  have hs := St.start w0
  obtain ⟨A, na, ca, rfl, hlena, hnca, hcma, hra, hba⟩ := hva
  obtain ⟨B, nb, cb, rfl, hlenb, hncb, hcmb, hrb, hbb⟩ := hvb
  obtain ⟨C, nc, cc, rfl, hlenc, hncc, hcmc, hrc, hbc⟩ := hvc
  clear hba hbb hbc
  by_cases hbig : 100 < na ∨ 100 < nb ∨ 100 < nc
  · have hb2 : 100 < na ∨ (¬ 100 < na ∧ 100 < nb) ∨ (¬ 100 < na ∧ ¬ 100 < nb ∧ 100 < nc) := by omega
    rcases hb2 with h | ⟨h, h2⟩ | ⟨h, h2, h3⟩
    all_goals
      go_enter Tryd.func7, Tryd.ntmps7
      go_wp2_with (first | (go_at_call 17; refine (awake1_c hs hT).mono ?_; rintro e w' ⟨rfl, hs2⟩))
      go_ret
      exact ⟨rfl, hs2⟩
  · obtain ⟨h1, h2, h3⟩ : ¬ 100 < na ∧ ¬ 100 < nb ∧ ¬ 100 < nc := by omega
    have HA := Lib.hid hlena
    have HB := Lib.hid hlenb
    have HC := Lib.hid hlenc
    have mla : na ≤ maxLen := by unfold maxLen; omega
    have mlb : nb ≤ maxLen := by unfold maxLen; omega
    have mlc : nc ≤ maxLen := by unfold maxLen; omega
    clear hlena hlenb hlenc hbig
    have la := allW_lt za
    have lb := allW_lt zb
    have lc := allW_lt zc
    have lab : allW za ||| allW zb < 2 ^ 64 := Nat.or_lt_two_pow la lb
    have lx : subW (allW za ||| allW zb) (allW zc) < 2 ^ 64 := subW_lt _ _ lab
    have oab := or_u64 _ _ la lb
    have oabc := andNot_u64 _ _ lab lc
    obtain ⟨a, Wa⟩ : ∃ a, Hid (allW za = a) := ⟨_, rfl⟩
    obtain ⟨c, Wc⟩ : ∃ c, Hid (allW zc = c) := ⟨_, rfl⟩
    obtain ⟨b, Wb⟩ : ∃ b, Hid (allW zb = b) := ⟨_, rfl⟩
    rw [Wa.out, Wb.out] at oab lab
    rw [Wa.out, Wb.out, Wc.out] at oabc lx
    rw [Wa.out] at la
    rw [Wb.out] at lb
    rw [Wc.out] at lc
    obtain ⟨ab, Wab⟩ : ∃ ab, Hid (a ||| b = ab) := ⟨_, rfl⟩
    obtain ⟨x, Wx⟩ : ∃ x, Hid (subW ab c = x) := ⟨_, rfl⟩
    rw [Wab.out] at oab lab oabc lx
    rw [Wx.out] at oabc lx
    have Wab' : Hid (a ||| allW zb = ab) := by rw [Hid, Wb.out]; exact Wab.out
    have Wx' : Hid (subW ab (allW zc) = x) := by rw [Hid, Wc.out]; exact Wx.out
    obtain ⟨n, hn⟩ : ∃ n, Hid (cntW x = n) := ⟨_, rfl⟩
    have hn64 : n ≤ 64 := by rw [← hn.out]; exact cntW_le x
    have hn' : Hid ((cntW x : Int) = (n : Int)) := by rw [Hid, hn.out]
    have HM := Lib.hid (hasW_out (x := x) (i := -1) (by omega))
    have H64 := Lib.hid (hasW_out (x := x) (i := 64) (by omega))
    obtain ⟨fv, HF⟩ : ∃ v, Hid (firstW x from_ = v) := ⟨_, rfl⟩
    clear Wab Wx
    go_enter Tryd.func7, Tryd.ntmps7
    go_wp2_with (first
      | (go_at_call 23; refine (of_v Wa HA hs hra mla).mono ?_; rintro e w' ⟨rfl, rfl⟩)
      | (go_at_call 21; refine (with_v la Wab' HB hs hrb mlb).mono ?_; rintro e w' ⟨rfl, rfl⟩)
      | (go_at_call 22; refine (without_v lab Wx' HC hs hrc mlc).mono ?_; rintro e w' ⟨rfl, rfl⟩)
      | (go_at_call 24; refine (rof_v Wa HA hs hra mla).mono ?_; rintro e w' ⟨rfl, rfl⟩)
      | (go_at_call 24; refine (rof_v Wb HB hs hrb mlb).mono ?_; rintro e w' ⟨rfl, rfl⟩)
      | (go_at_call 24; refine (rof_v Wc HC hs hrc mlc).mono ?_; rintro e w' ⟨rfl, rfl⟩)
      | (go_at_call 14; refine (list_v lx hn hs hT).mono ?_; clear hs hra hrb hrc; rintro e w ⟨D, cap', rfl, hs⟩))
    go_loopw [12, 13, 14] (fun m last i wr => ∃ (k j : Nat) (lv : Int), k ≤ 64 ∧ j ≤ k ∧ St w0 [own D n cap' 3 1 ((listW x).map fun i : Nat => .int .i64 (i : Int))] wr ∧ i = .int .i64 (k : Int) ∧ m = .int .i64 (j : Int) ∧ last = .int .i64 lv ∧ Hid (cutN x k j lv)) (fun _ _ i _ => 64 - (intOf i).toNat)
    case atStart => exact ⟨0, 0, -1, by omega, by omega, hs, rfl, rfl, rfl, ⟨[], listW x, rfl, rfl, by simp, by simp, rfl⟩⟩
    case round =>
      clear hs oab oabc
      obtain ⟨k, j, lv, hk, hj, hs, rfl, rfl, rfl, HK⟩ := hrel
      by_cases h64 : k < 64
      · have hh := Lib.hid (hasW_in (x := x) (d := k) h64)
        cases hb : x.testBit k
        · have HH : Hid (hasW x (k : Int) = false) := by rw [Hid, hh.out, hb]
          have HN := Lib.hid (HK.out.skip hb)
          clear hh hb
          go_wp2_with (first
            | (go_at_call 25; refine (has_v lx HH _).mono ?_; rintro e w' ⟨rfl, rfl⟩)
            | (go_at_call 26; refine (rhas_v lx HH _).mono ?_; rintro e w' ⟨rfl, rfl⟩))
          go_roundw
          case rel => exact ⟨k + 1, j, lv, by omega, by omega, hs, by go_num, rfl, rfl, HN⟩
          case measure => simp [intOf] <;> omega
        · have HH : Hid (hasW x (k : Int) = true) := by rw [Hid, hh.out, hb]
          obtain ⟨t1, t2, t3⟩ := HK.out.take hb h64
          have HN := Lib.hid t1
          rw [hn.out] at t2
          obtain ⟨bb, oo, rfl, hc⟩ := (RdS.own hs).get t3
          have hc := hc _ hs
          clear hh hb t1 t3
          go_wp2_with (first
            | (go_at_call 25; refine (has_v lx HH _).mono ?_; rintro e w' ⟨rfl, rfl⟩)
            | (go_at_call 26; refine (rhas_v lx HH _).mono ?_; rintro e w' ⟨rfl, rfl⟩))
          go_roundw
          case rel => exact ⟨k + 1, j + 1, k, by omega, by omega, hs, by go_num, by go_num, rfl, HN⟩
          case measure => simp [intOf] <;> omega
      · obtain rfl : k = 64 := by omega
        obtain ⟨e1, e2⟩ := HK.out.all
        rw [hn.out] at e1
        subst e1
        have HL := Lib.hid e2
        clear e2 HK
        go_wp2_with (first
          | (go_at_call 20; refine (len_v lx hn' _).mono ?_; rintro e w' ⟨rfl, rfl⟩)
          | (go_at_call 16; refine (last_v lx HL _).mono ?_; rintro e w' ⟨rfl, rfl⟩)
          | (go_at_call 15; refine (first_v lx HF _ (hT.st hs)).mono ?_; rintro e w' ⟨rfl, rfl⟩)
          | (go_at_call 27; refine (rfirst_v lx HF _).mono ?_; rintro e w' ⟨rfl, rfl⟩)
          | (go_at_call 25; refine (has_v lx HM _).mono ?_; rintro e w' ⟨rfl, rfl⟩)
          | (go_at_call 25; refine (has_v lx H64 _).mono ?_; rintro e w' ⟨rfl, rfl⟩)
          | (go_at_call 17; refine (awake1_c hs hT).mono ?_; rintro e w' ⟨rfl, hs2⟩))
        go_ret
        exact ⟨rfl, hs2.drop⟩
end Go.Proofs.YtgdljjpdoocnnaaDoor
