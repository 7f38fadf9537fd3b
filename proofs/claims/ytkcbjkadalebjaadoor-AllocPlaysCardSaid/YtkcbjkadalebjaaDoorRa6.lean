/-
  The document's Alloc (vivariumref5), 6: NewAlloc, AllocMay; the statements' Same.
-/
import Derived.Test.YtkcbjkadalebjaaDoorRa5
set_option maxRecDepth 100000
namespace Go.Proofs.YtkcbjkadalebjaaDoor
open Go Go.RowKit
attribute [local irreducible] wpList Calls Code.wp

theorem build_ra (n top : Int) (w : World) : (Instr.build 73 #[(0, .int .i64 n), (1, .int .i64 top)]).run Tryd.prog w = .ok (.agg #[.int .i64 n, .int .i64 top, .slice none 0 0, .slice none 0 0]) w := by kernel_rfl
theorem raOk_nil {n : Nat} {top : Int} (h1 : n ≤ 65536) (h2' : 1 ≤ top) (h3 : top ≤ 4294967295) : RaOk n top [] := ⟨Nat.zero_le _, h1, h3, fun i hi => absurd hi (Nat.not_lt_zero i), fun i hi => absurd hi (Nat.not_lt_zero i), fun i hi => absurd hi (Nat.not_lt_zero i), h2'⟩
theorem rnew_c {w0 w : World} {L : List As} (hs : St w0 L w) {n : Nat} {top : Int} (h1 : n ≤ 65536) (h2' : 1 ≤ top) (h3 : top ≤ 4294967295) :
    Calls Tryd.prog 20 #[.int .i64 (n : Nat), .int .i64 top] w fun e w' => ∃ E, e = .returned (.pointer (some ⟨E, 0, none⟩)) ∧ St w0 (RaB E n top [] :: L) w' := by
  have hok := raOk_nil h1 h2' h3
  go_enter Tryd.func20, Tryd.ntmps20
  go_wp2_with (first
    | (refine wpl_buildS (build_ra _ _) rfl ?_)
    | (refine wpl_box_v (v := .agg (raC n top none 0 0 none 0).toArray) rfl hs ?_; clear hs; intro E w1 hs))
  go_ret
  refine ⟨E, rfl, ?_⟩
  have hs2 := ((hs.own_nil 3 1).own_nil 2 1).up2
  exact St.rashut (A := none) (B := none) (capA := 0) (capB := 0) hok rfl hs2
theorem rmay_c (n top : Int) (w : World) : Calls Tryd.prog 19 #[.int .i64 n, .int .i64 top] w fun e w' => e = .returned (.bool (alMay n top)) ∧ w = w' := by
  by_cases h1 : 1 ≤ n
  · by_cases h2' : n ≤ 65536
    · by_cases h3 : 1 ≤ top
      · by_cases h4 : top ≤ 4294967295
        · have HV : Hid (alMay n top = true) := by simp [Hid, alMay, h1, h2', h3, h4]
          go_enter Tryd.func19, Tryd.ntmps19
          go_wp2
          go_ret
          exact ⟨by rw [HV.out]; rfl, rfl⟩
        · have HV : Hid (alMay n top = false) := by simp [Hid, alMay, h1, h2', h3, h4]
          go_enter Tryd.func19, Tryd.ntmps19
          go_wp2
          go_ret
          exact ⟨by rw [HV.out]; first | rfl | simp; omega, rfl⟩
      · have HV : Hid (alMay n top = false) := by simp [Hid, alMay, h1, h2', h3]
        go_enter Tryd.func19, Tryd.ntmps19
        go_wp2
        go_ret
        exact ⟨by rw [HV.out]; first | rfl | simp; omega, rfl⟩
    · have HV : Hid (alMay n top = false) := by simp [Hid, alMay, h1, h2']
      go_enter Tryd.func19, Tryd.ntmps19
      go_wp2
      go_ret
      exact ⟨by rw [HV.out]; first | rfl | simp; omega, rfl⟩
  · have HV : Hid (alMay n top = false) := by simp [Hid, alMay, h1]
    go_enter Tryd.func19, Tryd.ntmps19
    go_wp2
    go_ret
    exact ⟨by rw [HV.out]; first | rfl | simp; omega, rfl⟩
attribute [local irreducible] idxS addS okN memS remS errN insS delS nextS stA gnA stV atA hsV mergeA giveV delA newA bsV padA idxU listS allH
set_option maxHeartbeats 1000000 in
/-- An Alloc stands as the document's. -/
theorem asame_c {w0 w : World} {L : List As} {D E n : Nat} {top : Int} {c : List ACell} (hT : Tab w0) (hs : St w0 (AlB D top (padA n c) :: RaB E n top c :: L) w) :
    Calls Tryd.prog 28 #[.pointer (some ⟨D, 0, none⟩), .pointer (some ⟨E, 0, none⟩)] w fun e w' => e = .returned (.bool true) ∧ Grew w w' := by
  have hok := hs.drop.raopen.1
  have hf := hok.fits
  have hfew : c.length ≤ 65536 := Nat.le_trans hok.fits hok.few
  have e1 := idxS_pad (s := 1) hf (by decide)
  have e2 := idxS_pad (s := 2) hf (by decide)
  have e9 := idxS_pad (s := 9) hf (by decide)
  have ea := all_pad (s := 1) hf (by decide)
  obtain ⟨a, HA⟩ : ∃ x, Hid ((idxS 1 c).length = x) := ⟨_, rfl⟩
  obtain ⟨b, HB⟩ : ∃ x, Hid ((idxS 2 c).length = x) := ⟨_, rfl⟩
  obtain ⟨d, HD⟩ : ∃ x, Hid ((idxS 9 c).length = x) := ⟨_, rfl⟩
  have HA' : Hid ((idxS 1 (padA n c)).length = a) := by rw [Hid, e1]; exact HA.out
  have HB' : Hid ((idxS 2 (padA n c)).length = b) := by rw [Hid, e2]; exact HB.out
  have HD' : Hid (retA (padA n c) = d) := by rw [Hid]; unfold retA; rw [e9]; exact HD.out
  have ha : a ≤ 65536 := by have := idx_len 1 c; rw [HA.out] at this; omega
  have HE1 := Lib.hid e1
  have HEA := Lib.hid ea
  have HLS : Hid (listS (idxS 1 (padA n c)) 0 ((a : Int) + 1) = idxS 1 c) := by rw [Hid, ← e1]; exact listS_all HA'.out (by omega)
  have HAL : Hid ((allH c (idxS 1 c)).length = a) := by rw [Hid, allH_len]; exact HA.out
  have h0 := St.start w
  have hs0 := hs
  clear e1 e2 e9 ea hok hf
  go_enter Tryd.func28, Tryd.ntmps28
  go_wp2_with (first
    | (go_at_call 16; refine (counts_c hs HA' HB' HD').mono ?_; rintro e w' ⟨rfl, hg⟩; replace hs := hs.grew hg; replace h0 := h0.grew hg; clear hg)
    | (go_at_call 42; refine (counts_r hs.drop HA HB HD).mono ?_; rintro e w' ⟨rfl, hg⟩; replace hs := hs.grew hg; replace h0 := h0.grew hg; clear hg)
    | (go_at_call 40; refine (in_c (s := 1) hs.drop HA).mono ?_; rintro e w' ⟨B, capB, rfl, hm⟩; replace hs := hs.made hm; replace h0 := h0.made hm; clear hm))
  replace h0 := h0.own_nil 3 1
  go_loopw [12, 13] (fun ov iv wr => ∃ (i : Nat) (G : Option Addr) (capG : Nat), i ≤ a ∧ ov = .slice G i capG ∧ iv = .int .i64 (i : Nat) ∧ St w [own G i capG 3 1 (intv ((idxS 1 c).take i)), own B a capB 30 2 (hsV (allH c (idxS 1 c)))] wr) (fun _ iv _ => a - (intOf iv).toNat)
  case atStart => exact ⟨0, none, 0, Nat.zero_le _, rfl, rfl, h0⟩
  case round =>
    clear h0
    obtain ⟨i, G, capG, hi, rfl, rfl, h0⟩ := hrel
    by_cases hlt : i < a
    · obtain ⟨gB, rfl⟩ := h0.rot.own_at (by omega)
      obtain ⟨q, hq⟩ : ∃ q, (idxS 1 c)[i]? = some q := ⟨_, List.getElem?_eq_getElem (by rw [HA.out]; exact hlt)⟩
      have hh : (allH c (idxS 1 c))[i]? = some ((q : Int), gnA c q) := by unfold allH; rw [List.getElem?_map, hq]; rfl
      have f0 := hsV_at (w0 := w) (B := gB) (n := a) (cap := capB) (L := [own G i capG 3 1 (intv ((idxS 1 c).take i))]) hh 0 (.int .i64 (q : Int)) rfl _ h0.rot
      simp only [Nat.add_zero] at f0
      have HX : Hid (intv ((idxS 1 c).take i) ++ [Value.int .i64 (q : Int)] = intv ((idxS 1 c).take (i + 1))) := by
        obtain ⟨hl, he⟩ := List.getElem?_eq_some_iff.1 hq
        rw [Hid, intv_append, List.take_succ_eq_append_getElem hl, he]
      clear hq hh
      go_wp2_with (first
        | (refine wpl_build1 (v := .int .i64 (q : Int)) elem24 (by decide) rfl rfl h0 ?_; clear h0 f0; intro gb w2 h0; replace h0 : St w (blk gb #[.int .i64 (q : Int)] 3 :: _) w2 := h0)
        | (refine wpl_append (B := some ⟨gb, 0, none⟩) (m := 1) (news := [.int .i64 (q : Int)]) elem24 rfl rfl h0 (Ent.skip (Ent.refl _)) RdS.blk rfl (ints_one _) (by unfold maxLen; omega) (by omega) ?_; clear h0; intro G' capG' w3 h0; rw [HX.out] at h0; replace h0 := h0.rot.drop))
      go_roundw
      case rel => first | exact ⟨i + 1, G', capG', by omega, rfl, by go_num, h0⟩ | ((repeat apply Exists.intro); refine ⟨?_, rfl⟩; exact ⟨i + 1, G', capG', by omega, rfl, by go_num, h0⟩)
      case measure => simp [intOf] <;> omega
    · obtain rfl : i = a := by omega
      rw [List.take_of_length_le (by rw [HA.out]; exact Nat.le_refl _)] at h0
      replace hs := hs0.grew h0.made_grew
      go_wp2_with (first
        | (go_at_call 43; refine (mask_c hs).mono ?_; rintro e w' ⟨T', rfl, hm⟩; replace hs := hs.grew hm.made_grew; replace h0 := h0.made hm; clear hm)
        | (go_at_call 44; refine (live_c (hT.grew hs.below) hs HA').mono ?_; rintro e w' ⟨Bl, capl, rfl, hm⟩; rw [HEA.out] at hm; replace hs := hs.grew hm.made_grew; replace h0 := h0.made hm; clear hm)
        | (go_at_call 18; refine (sameH_c HAL.out (by omega) h0 (RdS.own h0) (RdS.own h0.drop.drop.drop).tail.tail.tail).mono ?_; rintro e w5 ⟨rfl, hg⟩; replace hs := hs.grew hg; replace h0 := h0.grew hg; clear hg)
        | (go_at_call 35; refine (hlen_v h0.rot HA').mono ?_; rintro e w' ⟨rfl, rfl⟩)
        | (go_at_call 46; refine (hlist_n h0.rot (hT.grew hs.below) HLS HA).mono ?_; rintro e w' ⟨Bm, capm, rfl, hm⟩; replace hs := hs.grew hm.made_grew; replace h0 := h0.made hm; clear hm)
        | (go_at_call 45; refine (rsame_c (b := true) HA.out HA.out (by omega) h0 (RdS.own h0) (RdS.own h0.drop.drop.drop).tail.tail.tail ⟨fun _ => rfl, fun _ => rfl⟩).mono ?_; rintro e w5 ⟨rfl, hg⟩; replace h0 := h0.grew hg; clear hg))
      go_ret
      exact ⟨rfl, h0.made_grew⟩
end Go.Proofs.YtkcbjkadalebjaaDoor
