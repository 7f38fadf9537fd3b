/-
  The document's Words and Tells, 2.
-/
import Derived.Test.YtkcbjkadalebjaaEx16
set_option maxRecDepth 100000
namespace Go.Proofs.Ytkcbjkadalebjaa
open Go Go.RowKit
attribute [local irreducible] wpList Calls Code.wp joinA joinW wordS exTell

theorem words_snoc (sw : Nat → Nat) (l : List NodeE) (x : NodeE) : wordsE sw (l ++ [x]) = wordsE sw l ++ [wordE sw x (wordsE sw l)] := by simp [wordsE]
theorem words_len (sw : Nat → Nat) (l : List NodeE) : (wordsE sw l).length = l.length := by rw [← mays_words, mays_len]
theorem elem64 : ElemOk Try.prog 83 23 1 8 := ElemOk.of Try.underlying83 (z := .int .u64 0) (by kernel_rfl) rfl (by decide)
theorem u64s_snoc (W : List Nat) (x : Nat) : u64s W ++ [.int .u64 (x : Nat)] = u64s (W ++ [x]) := by simp [u64s]
theorem u64_one (x : Nat) : ∀ u ∈ [Value.int .u64 (x : Nat)], u.oneCell' = true := by simp; rfl
theorem ksS_at {ks : List KS} {s : Nat} {k : KS} (hk : ks[s]? = some k) : ksS ks s = k.S := by unfold ksS; rw [List.getD_eq_getElem?_getD, List.getElem?_map, hk]; rfl
theorem words_zero (sw : Nat → Nat) (l : List NodeE) : u64s (wordsE sw (l.take 0)) = [] := rfl
attribute [local irreducible] wordsE wordE notW ksS
set_option maxHeartbeats 2000000 in
theorem refwords_c {w : World} {E B C : Option Addr} {l : List NodeE} {ks : List KS} {q ce m c2 : Nat} {at_ : Int} (HLl : Hid (l.length = q)) (hok : ArOk l m) (hv : NdV w E (l.map toR)) (hkv : KsV w B C ks) (HKl : Hid (ks.length = m)) (hko : KsOk ks) {sw : Nat → Nat} (hsw : Hid ((fun s => wordS (ksS ks s) 0 at_) = sw)) :
    Calls Try.prog 47 #[.slice E q ce, .slice C m c2, .int .i64 at_] w fun e w' => ∃ A c, e = .returned (.slice A q c) ∧ St w [own A q c 23 1 (u64s (wordsE sw l))] w' := by
  have hfew : q ≤ 1000 := by have := hok.few; rw [HLl.out] at this; exact this
  have HV := Lib.hid hv
  have HO := Lib.hid hok
  have HKv := Lib.hid hkv
  have HKo := Lib.hid hko
  have hlt64 : ∀ s, sw s < 2 ^ 64 := fun s => by rw [← hsw.out]; exact wordS_lt _ _ _
  have HLt := Lib.hid hlt64
  have hs : St w [own none 0 0 23 1 (u64s (wordsE sw (l.take 0)))] w := by rw [words_zero]; exact (St.start w).own_nil 23 1
  clear hv hok hkv hko hlt64
  go_enter Try.func47, Try.ntmps47
  go_wp2
  go_loopw [7, 8] (fun ov cv wr => ∃ (i : Nat) (A : Option Addr) (c : Nat), i ≤ q ∧ ov = .slice A i c ∧ cv = .int .i64 (i : Nat) ∧ St w [own A i c 23 1 (u64s (wordsE sw (l.take i)))] wr) (fun _ cv _ => q - (intOf cv).toNat)
  case atStart => exact ⟨0, none, 0, Nat.zero_le _, rfl, rfl, hs⟩
  case round =>
    clear hs
    obtain ⟨i, A, c, hi, rfl, rfl, hs⟩ := hrel
    by_cases hlt : i < q
    · obtain ⟨x, hx⟩ : ∃ x, l[i]? = some x := ⟨_, List.getElem?_eq_getElem (by rw [HLl.out]; exact hlt)⟩
      obtain ⟨b, o, X, bx, rfl, x1, x2, x3, x4, x5⟩ := HV.out.row i _ (toR_get hx)
      replace x1 : w.cell? ⟨b, o + i * 2, none⟩ = some (.int .i64 ((x.k : Nat) : Int)) := x1
      rw [toR_len] at x2
      have HT := Lib.hid (take_snocE hx)
      obtain ⟨k1, k5, k64⟩ := HO.out.kind i x hx
      have hset := HO.out.set i x hx
      have hnot := HO.out.not i x hx
      have hlow := HO.out.low i x hx
      have HWl : Hid ((wordsE sw (l.take i)).length = i) := by rw [Hid, words_len, List.length_take, HLl.out]; omega
      have HW64 : Hid (∀ v ∈ wordsE sw (l.take i), v < 2 ^ 64) := wordsE_lt HLt.out _
      have X3 : Hid (KidsR w X (natI x.kids)) := x3
      clear x3 x5 x4 hx
      obtain ⟨y, HX⟩ : ∃ y, Hid (wordE sw x (wordsE sw (l.take i)) = y) := ⟨_, rfl⟩
      by_cases h1 : x.k = 1
      · obtain ⟨s, hks, hsm⟩ := hset h1
        obtain ⟨k, hk⟩ : ∃ k, ks[s]? = some k := ⟨_, List.getElem?_eq_getElem (by rw [HKl.out]; exact hsm)⟩
        obtain ⟨b2, o2, rfl, r1, r2⟩ := HKv.out.row s k hk
        obtain ⟨b3, o3, rfl, r3⟩ := X3.out 0 (s : Int) (by rw [hks]; rfl)
        rw [Nat.add_zero] at r3
        have hkm := List.mem_of_getElem? hk
        have HSo := Lib.hid (HKo.out.sorted k hkm)
        have HSm := Lib.hid (HKo.out.small k hkm)
        have hS40 := HKo.out.few k hkm
        have HR2 := Lib.hid r2
        have HY : Hid (wordS k.S 0 at_ = y) := by
          rw [Hid, ← HX.out]
          unfold wordE
          rw [if_pos h1, hks, ← hsw.out]
          show wordS k.S 0 at_ = wordS (ksS ks s) 0 at_
          rw [ksS_at hk]
        rw [h1] at x1
        rw [hks] at x2
        replace x2 : w.cell? ⟨b, o + i * 2 + 1, none⟩ = some (.slice (some ⟨b3, o3, none⟩) 1 bx) := x2
        replace x1 := hs.made_grew.cell x1
        replace x2 := hs.made_grew.cell x2
        replace r1 := hs.made_grew.cell r1
        replace r3 := hs.made_grew.cell r3
        obtain ⟨N, HNs⟩ : ∃ n, Hid (k.S.length = n) := ⟨_, rfl⟩
        rw [HNs.out] at r1 hS40
        clear hset hnot hlow h1 hks hk hkm r2
        go_wp2_with (first
          | (go_at_call 56; refine (rword_c (n := N) HSo.out HSm.out HNs.out (by omega) (St.start _) (kidsR_nat (HR2.out.grew hs.made_grew)) HY).mono ?_; clear x1 x2 r1 r3; rintro e w' ⟨rfl, hg⟩; replace hs := hs.grew hg; clear hg)
          | (refine wpl_build1 (v := .int .u64 (y : Nat)) elem64 (by decide) rfl rfl hs ?_; clear hs; intro gb w8 hs)
          | (refine wpl_append (A := A) (B := some ⟨gb, 0, none⟩) (n := i) (m := 1) (news := [.int .u64 (y : Nat)]) elem64 rfl rfl hs (Ent.skip (Ent.refl _)) RdS.blk rfl (u64_one y) (by unfold maxLen; omega) (by omega) ?_; clear hs; intro A2 c3 w9 hs; replace hs := hs.rot.drop))
        have hs3 : St w [own A2 (i + 1) c3 23 1 (u64s (wordsE sw (l.take (i + 1))))] w9 := by
          rw [HT.out, words_snoc, ← u64s_snoc, HX.out]
          exact hs
        go_roundw
        case rel => exact ⟨i + 1, A2, c3, by omega, rfl, by go_num, hs3⟩
        case measure => simp [intOf] <;> omega
      · have e1 : ((x.k : Int) == 1) = false := by simp; omega
        have HI : Hid (∀ z ∈ x.kids, z < i) := hlow h1
        by_cases h5 : x.k = 5
        · obtain ⟨s, hks⟩ : ∃ s, x.kids = [s] := List.length_eq_one_iff.1 (hnot h5)
          have hsi : s < i := HI.out s (by rw [hks]; exact List.mem_cons_self)
          obtain ⟨v, hv⟩ : ∃ v, (wordsE sw (l.take i))[s]? = some v := ⟨_, List.getElem?_eq_getElem (by rw [HWl.out]; exact hsi)⟩
          have HVs := Lib.hid hv
          have HY : y = notW v := by
            rw [← HX.out]
            unfold wordE
            rw [if_neg h1, if_pos h5, hks]
            show notW ((wordsE sw (l.take i)).getD s 0) = _
            rw [List.getD_eq_getElem?_getD, hv]
            rfl
          subst HY
          rw [hks] at X3 x2
          rw [h5] at x1
          replace x2 : w.cell? ⟨b, o + i * 2 + 1, none⟩ = some (.slice X 1 bx) := x2
          have X1 := Lib.hid x1
          have X2 := Lib.hid x2
          replace x1 := hs.made_grew.cell x1
          replace x2 := hs.made_grew.cell x2
          clear hset hnot hlow h1 e1 hks hv
          obtain ⟨y, HYY⟩ : ∃ y, Hid (notW v = y) := ⟨_, rfl⟩
          rw [HYY.out] at HX
          go_upto_region 7 with (fail)
          have hsN := hs.nothing
          refine wp_region_plain [false, false, false, false, false, false, false, false, false, false, false, false, true, true, true, true] hsN (by kernel_rfl) (by kernel_rfl) fun hne => ?_
          have e0 := (Rd.old (L := []) X1.out).alln
          have e1 := (Rd.old (L := []) X2.out).alln
          simp only [pickOps]
          repeat (go_big_quiet_step (fail))
          refine wpQuiet_nil ?_
          clear hne e0 e1
          simp only [chainIx]
          replace hs := hs.drew
          clear hsN
          refine wpChainP_next rfl ?_
          go_wp2_with (first
            | (go_at_call 57; refine (rjoin_not (m := i) (X3.out.grew hs.made_grew) HWl (WdsR.own hs) HW64.out HVs.out).mono ?_; rw [HYY.out]; rintro e w' ⟨rfl, hg⟩; replace hs := hs.grew hg; clear hg))
          refine ⟨hs.nothing, ?_⟩
          refine wpChainP_next rfl ?_
          refine wpl_build1 (v := .int .u64 (y : Nat)) elem64 (by decide) rfl rfl hs ?_
          clear hs
          intro gb w8 hs
          refine wpList_nil ⟨rfl, hs.nothing, ?_⟩
          refine wpChainP_next rfl ?_
          refine wpl_append (A := A) (B := some ⟨gb, 0, none⟩) (n := i) (m := 1) (news := [.int .u64 (y : Nat)]) elem64 rfl rfl hs (Ent.skip (Ent.refl _)) RdS.blk rfl (u64_one y) (by unfold maxLen; omega) (by omega) ?_
          clear hs
          intro A2 c3 w9 hs
          replace hs := hs.rot.drop
          refine wpList_nil ⟨rfl, hs.nothing, ?_⟩
          refine wpChain_last rfl ?_
          go_wp2
          have hs3 : St w [own A2 (i + 1) c3 23 1 (u64s (wordsE sw (l.take (i + 1))))] w9 := by
            rw [HT.out, words_snoc, ← u64s_snoc, HX.out]
            exact hs
          go_roundw
          case rel => exact ⟨i + 1, A2, c3, by omega, rfl, by go_num, hs3⟩
          case measure => simp [intOf] <;> omega
        · have h234 : x.k = 2 ∨ x.k = 3 ∨ x.k = 4 := by omega
          have HY : Hid (joinW x.k (x.kids.map fun i' => ((wordsE sw (l.take i)).getD i' 0)) = y) := by
            rw [Hid, ← HX.out]
            unfold wordE
            rw [if_neg h1, if_neg h5]
          obtain ⟨kk, HKK⟩ : ∃ kk, Hid (x.k = kk) := ⟨_, rfl⟩
          rw [HKK.out] at HY x1 h234
          obtain ⟨p, HP⟩ : ∃ p, Hid (x.kids.length = p) := ⟨_, rfl⟩
          rw [HP.out] at x2 k64
          have e1' : ((kk : Int) == 1) = false := by rw [HKK.out] at e1; exact e1
          have H234 := Lib.hid h234
          have X1 := Lib.hid x1
          have X2 := Lib.hid x2
          replace x1 := hs.made_grew.cell x1
          replace x2 := hs.made_grew.cell x2
          clear hset hnot hlow h1 e1 h5 h234 k1 k5
          go_upto_region 7 with (fail)
          have hsN := hs.nothing
          refine wp_region_plain [false, false, false, false, false, false, false, false, false, false, false, false, true, true, true, true] hsN (by kernel_rfl) (by kernel_rfl) fun hne => ?_
          have e0 := (Rd.old (L := []) X1.out).alln
          have e1 := (Rd.old (L := []) X2.out).alln
          simp only [pickOps]
          repeat (go_big_quiet_step (fail))
          refine wpQuiet_nil ?_
          clear hne e0 e1
          simp only [chainIx]
          replace hs := hs.drew
          clear hsN
          refine wpChainP_next rfl ?_
          go_wp2_with (first
            | (go_at_call 57; refine (rjoin_c (m := i) H234.out HP k64 (X3.out.grew hs.made_grew) HWl (WdsR.own hs) HW64.out HI HY).mono ?_; rintro e w' ⟨rfl, hg⟩; replace hs := hs.grew hg; clear hg))
          refine ⟨hs.nothing, ?_⟩
          refine wpChainP_next rfl ?_
          refine wpl_build1 (v := .int .u64 (y : Nat)) elem64 (by decide) rfl rfl hs ?_
          clear hs
          intro gb w8 hs
          refine wpList_nil ⟨rfl, hs.nothing, ?_⟩
          refine wpChainP_next rfl ?_
          refine wpl_append (A := A) (B := some ⟨gb, 0, none⟩) (n := i) (m := 1) (news := [.int .u64 (y : Nat)]) elem64 rfl rfl hs (Ent.skip (Ent.refl _)) RdS.blk rfl (u64_one y) (by unfold maxLen; omega) (by omega) ?_
          clear hs
          intro A2 c3 w9 hs
          replace hs := hs.rot.drop
          refine wpList_nil ⟨rfl, hs.nothing, ?_⟩
          refine wpChain_last rfl ?_
          go_wp2
          have hs3 : St w [own A2 (i + 1) c3 23 1 (u64s (wordsE sw (l.take (i + 1))))] w9 := by
            rw [HT.out, words_snoc, ← u64s_snoc, HX.out]
            exact hs
          go_roundw
          case rel => exact ⟨i + 1, A2, c3, by omega, rfl, by go_num, hs3⟩
          case measure => simp [intOf] <;> omega
    · have hiq : i = q := by omega
      subst hiq
      have hT : l.take i = l := List.take_of_length_le (by rw [HLl.out]; exact Nat.le_refl _)
      rw [hT] at hs
      clear hT
      go_wp2
      go_ret
      exact ⟨A, c, rfl, hs⟩
theorem shr_one {x d : Nat} (hx : x < 2 ^ 64) : bits .and .u64 ((x : Int) / 2 ^ d) 1 = if x.testBit d then 1 else 0 := by
  have e : (x : Int) / 2 ^ d = ((x / 2 ^ d : Nat) : Int) := by push_cast; rfl
  have hy : x / 2 ^ d < 2 ^ 64 := Nat.lt_of_le_of_lt (Nat.div_le_self _ _) hx
  rw [e, show (1 : Int) = ((1 : Nat) : Int) from rfl, and_u64 _ _ hy (by decide), Nat.and_one_is_mod]
  rw [Nat.testBit_eq_decide_div_mod_eq]
  rcases Nat.mod_two_eq_zero_or_one (x / 2 ^ d) with h | h <;> rw [h] <;> rfl
theorem exTell_bit {l : List NodeE} {Ss : Nat → List Nat} {n i : Nat} (hn : n < l.length) (hi : i < 16777216) :
    ((wordsE (fun s => wordS (Ss s) 0 ((i : Int) / 64)) l).getD n 0).testBit (i % 64) = exTell l Ss n i := by
  have hd : i % 64 < 64 := Nat.mod_lt _ (by decide)
  rw [wordsE_bit (fun s => wordS_lt _ _ _) hd]
  unfold exTell
  rw [decide_eq_true ⟨by omega, by omega, by omega, by omega⟩, Bool.true_and, Int.toNat_natCast]
  congr 2
  funext s
  rw [show (i : Int) / 64 = ((i / 64 : Nat) : Int) by omega]
  exact word_mem hi
set_option maxHeartbeats 1000000 in
theorem reftells_c {w : World} {E B C : Option Addr} {l : List NodeE} {ks : List KS} {q ce m c2 : Nat} (HLl : Hid (l.length = q)) (hok : ArOk l m) (hv : NdV w E (l.map toR)) (hkv : KsV w B C ks) (HKl : Hid (ks.length = m)) (hko : KsOk ks) (n i : Int) {b : Bool} (hb : Hid (exTell l (ksS ks) n i = b)) :
    Calls Try.prog 32 #[.slice E q ce, .slice C m c2, .int .i64 n, .int .i64 i] w fun e w' => e = .returned (.bool b) ∧ Grew w w' := by
  have hfew : q ≤ 1000 := by have := hok.few; rw [HLl.out] at this; exact this
  by_cases hin : 0 ≤ n ∧ n < q ∧ 0 ≤ i ∧ i < 16777216
  · obtain ⟨h1, h2, h3, h4⟩ := hin
    obtain ⟨n, rfl⟩ := Int.eq_ofNat_of_zero_le h1
    obtain ⟨i, rfl⟩ := Int.eq_ofNat_of_zero_le h3
    have hn : n < q := by omega
    have hi : i < 16777216 := by omega
    have d1 : decide ((n : Int) < 0) = false := decide_eq_false (by omega)
    have d2 : decide (q ≤ n) = false := decide_eq_false (by omega)
    have d3 : decide ((i : Int) < 0) = false := decide_eq_false (by omega)
    have d4 : decide ((16777216 : Int) ≤ (i : Int)) = false := decide_eq_false (by omega)
    have hi4 : (i : Int) ≤ 9223372036854775807 := by omega
    have ha : bits .and .i64 (i : Int) 63 = (i : Int) % 64 := by rw [i64_and63 i (by omega)]; omega
    have ha0 : 0 ≤ (i : Int) % 64 := by omega
    have ha1 : (i : Int) % 64 < 64 := by omega
    obtain ⟨sw, HSW⟩ : ∃ sw, Hid ((fun s => wordS (ksS ks s) 0 ((i : Int) / 64)) = sw) := ⟨_, rfl⟩
    have hbit := exTell_bit (l := l) (Ss := ksS ks) (n := n) (i := i) (by rw [HLl.out]; exact hn) hi
    rw [hb.out, HSW.out] at hbit
    obtain ⟨x, hx⟩ : ∃ x, (wordsE sw l)[n]? = some x := ⟨_, List.getElem?_eq_getElem (by rw [words_len, HLl.out]; exact hn)⟩
    rw [List.getD_eq_getElem?_getD, hx] at hbit
    have hx64 : x < 2 ^ 64 := wordsE_lt (fun s => by rw [← HSW.out]; exact wordS_lt _ _ _) l x (List.mem_of_getElem? hx)
    have hsh := shr_one (d := i % 64) hx64
    rw [show x.testBit (i % 64) = b from hbit] at hsh
    have HXX := Lib.hid hx
    clear hbit hx h1 h2 h3 h4 hi
    cases b
    all_goals
      simp only [Bool.false_eq_true, if_false, if_true] at hsh
      go_enter Try.func32, Try.ntmps32
      go_wp2_with (first
        | (go_at_call 47; refine (refwords_c HLl hok hv hkv HKl hko HSW).mono ?_; rintro e w' ⟨A, c, rfl, hl⟩; obtain ⟨b9, rfl, hc9⟩ := WdsR.own hl _ _ HXX.out))
      go_ret
      exact ⟨rfl, hl.made_grew⟩
  · have hb2 : exTell l (ksS ks) n i = false := exTell_out (fun h => hin (by rw [HLl.out] at h; exact h))
    rw [hb.out] at hb2
    subst hb2
    by_cases h1 : n < 0
    · have d1 : decide (n < 0) = true := decide_eq_true h1
      clear hin h1
      go_enter Try.func32, Try.ntmps32
      go_wp2
      go_ret
      exact ⟨rfl, Grew.refl _⟩
    · have d1 : decide (n < 0) = false := decide_eq_false h1
      by_cases h2 : (q : Int) ≤ n
      · have d2 : decide ((q : Int) ≤ n) = true := decide_eq_true h2
        clear hin h1 h2
        go_enter Try.func32, Try.ntmps32
        go_wp2
        go_ret
        exact ⟨rfl, Grew.refl _⟩
      · have d2 : decide ((q : Int) ≤ n) = false := decide_eq_false h2
        by_cases h3 : i < 0
        · have d3 : decide (i < 0) = true := decide_eq_true h3
          clear hin h1 h2 h3
          go_enter Try.func32, Try.ntmps32
          go_wp2
          go_ret
          exact ⟨rfl, Grew.refl _⟩
        · have d3 : decide (i < 0) = false := decide_eq_false h3
          have d4 : decide ((16777216 : Int) ≤ i) = true := decide_eq_true (by omega)
          clear hin h1 h2 h3
          go_enter Try.func32, Try.ntmps32
          go_wp2
          go_ret
          exact ⟨rfl, Grew.refl _⟩
end Go.Proofs.Ytkcbjkadalebjaa
