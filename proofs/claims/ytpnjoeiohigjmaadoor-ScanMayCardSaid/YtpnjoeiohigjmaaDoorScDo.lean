/-
  The document's answer for going over: Mays, all, none.
-/
import Derived.Test.YtpnjoeiohigjmaaDoorScWo
set_option maxRecDepth 100000
namespace Go.Proofs.YtpnjoeiohigjmaaDoor
open Go Go.RowKit
attribute [local irreducible] wpList Calls Code.wp joinA joinW wordS exTell

theorem mays_snoc (lv : Bool) (sw : Nat → Nat) (l : List NodeE) (x : NodeE) : maysE lv sw (l ++ [x]) = maysE lv sw l ++ [mayF lv sw x fun i => (maysE lv sw l).getD i 0] := by simp [maysE]
theorem mays_zero (sw : Nat → Nat) (l : List NodeE) : u64s (maysE true sw (l.take 0)) = [] := rfl
theorem mays_all_lt {lv : Bool} {sw : Nat → Nat} (hs : ∀ s, sw s < 2 ^ 64) (l : List NodeE) : ∀ v ∈ maysE lv sw l, v < 2 ^ 64 := fun v hv => by
  obtain ⟨i, hi, rfl⟩ := List.getElem_of_mem hv
  have := mays_lt (lv := lv) hs l i
  rw [List.getD_eq_getElem?_getD, List.getElem?_eq_getElem hi, Option.getD_some] at this
  exact this
attribute [local irreducible] maysE mayF notW ksS
set_option maxHeartbeats 2000000 in
theorem refmays_c {w : World} {E B C : Option Addr} {l : List NodeE} {ks : List KS} {q ce m c2 : Nat} {level at_ : Int} (h0 : 0 < level) (HLl : Hid (l.length = q)) (hok : ArOk l m) (hv : NdV w E (l.map toR)) (hkv : KsV w B C ks) (HKl : Hid (ks.length = m)) (hko : KsOk ks) {sw : Nat → Nat} (hsw : Hid ((fun s => wordS (ksS ks s) level at_) = sw)) :
    Calls Tryd.prog 33 #[.slice E q ce, .slice C m c2, .int .i64 level, .int .i64 at_] w fun e w' => ∃ A c, e = .returned (.slice A q c) ∧ St w [own A q c 31 1 (u64s (maysE true sw l))] w' := by
  have hfew : q ≤ 1000 := by have := hok.few; rw [HLl.out] at this; exact this
  have HV := Lib.hid hv
  have HO := Lib.hid hok
  have HKv := Lib.hid hkv
  have HKo := Lib.hid hko
  have hlt64 : ∀ s, sw s < 2 ^ 64 := fun s => by rw [← hsw.out]; exact wordS_lt _ _ _
  have HLt := Lib.hid hlt64
  have hl0 : (level == 0) = false := by simp; omega
  have hs : St w [own none 0 0 31 1 (u64s (maysE true sw (l.take 0)))] w := by rw [mays_zero]; exact (St.start w).own_nil 31 1
  clear hv hok hkv hko hlt64 h0
  go_enter Tryd.func33, Tryd.ntmps33
  go_wp2
  go_loopw [9, 10] (fun ov cv wr => ∃ (i : Nat) (A : Option Addr) (c : Nat), i ≤ q ∧ ov = .slice A i c ∧ cv = .int .i64 (i : Nat) ∧ St w [own A i c 31 1 (u64s (maysE true sw (l.take i)))] wr) (fun _ cv _ => q - (intOf cv).toNat)
  case atStart => exact ⟨0, none, 0, Nat.zero_le _, rfl, rfl, hs⟩
  case round =>
    clear hs
    obtain ⟨i, A, c, hi, rfl, rfl, hs⟩ := hrel
    by_cases hlt : i < q
    · obtain ⟨x, hx⟩ : ∃ x, l[i]? = some x := ⟨_, List.getElem?_eq_getElem (by rw [HLl.out]; exact hlt)⟩
      obtain ⟨b, o, X, bx, rfl, x1, x2, x3, x4, x5⟩ := HV.out.row i _ (toR_get hx)
      replace x1 : w.cell? ⟨b, o + i * 2, none⟩ = some (.int .i64 ((x.k : Nat) : Int)) := x1
      rw [toR_len] at x2
      have HT := Lib.hid (take_snocE hx)
      obtain ⟨k1, k5, k64⟩ := HO.out.kind i x hx
      have hset := HO.out.set i x hx
      have hnot := HO.out.not i x hx
      have hlow := HO.out.low i x hx
      have HWl : Hid ((maysE true sw (l.take i)).length = i) := by rw [Hid, mays_len, List.length_take, HLl.out]; omega
      have HW64 : Hid (∀ v ∈ maysE true sw (l.take i), v < 2 ^ 64) := mays_all_lt HLt.out _
      have X3 : Hid (KidsR w X (natI x.kids)) := x3
      clear x3 x5 x4 hx
      obtain ⟨y, HX⟩ : ∃ y, Hid (mayF true sw x (fun i' => (maysE true sw (l.take i)).getD i' 0) = y) := ⟨_, rfl⟩
      by_cases h1 : x.k = 1
      · obtain ⟨s, hks, hsm⟩ := hset h1
        obtain ⟨k, hk⟩ : ∃ k, ks[s]? = some k := ⟨_, List.getElem?_eq_getElem (by rw [HKl.out]; exact hsm)⟩
        obtain ⟨b2, o2, rfl, r1, r2⟩ := HKv.out.row s k hk
        obtain ⟨b3, o3, rfl, r3⟩ := X3.out 0 (s : Int) (by rw [hks]; rfl)
        rw [Nat.add_zero] at r3
        have hkm := List.mem_of_getElem? hk
        have HSo := Lib.hid (HKo.out.sorted k hkm)
        have HSm := Lib.hid (HKo.out.small k hkm)
        have hS40 := HKo.out.few k hkm
        have HR2 := Lib.hid r2
        have HY : Hid (wordS k.S level at_ = y) := by
          rw [Hid, ← HX.out]
          unfold mayF
          rw [if_pos h1, hks, ← hsw.out]
          show wordS k.S level at_ = wordS (ksS ks s) level at_
          rw [ksS_at hk]
        rw [h1] at x1
        rw [hks] at x2
        replace x2 : w.cell? ⟨b, o + i * 2 + 1, none⟩ = some (.slice (some ⟨b3, o3, none⟩) 1 bx) := x2
        replace x1 := hs.made_grew.cell x1
        replace x2 := hs.made_grew.cell x2
        replace r1 := hs.made_grew.cell r1
        replace r3 := hs.made_grew.cell r3
        obtain ⟨N, HNs⟩ : ∃ n, Hid (k.S.length = n) := ⟨_, rfl⟩
        rw [HNs.out] at r1 hS40
        clear hset hnot hlow h1 hks hk hkm r2
        go_wp2_with (first
          | (go_at_call 53; refine (rword_c (n := N) HSo.out HSm.out HNs.out (by omega) (St.start _) (kidsR_nat (HR2.out.grew hs.made_grew)) HY).mono ?_; clear x1 x2 r1 r3; rintro e w' ⟨rfl, hg⟩; replace hs := hs.grew hg; clear hg)
          | (refine wpl_build1 (v := .int .u64 (y : Nat)) elem64 (by decide) rfl rfl hs ?_; clear hs; intro gb w8 hs)
          | (refine wpl_append (A := A) (B := some ⟨gb, 0, none⟩) (n := i) (m := 1) (news := [.int .u64 (y : Nat)]) elem64 rfl rfl hs (Ent.skip (Ent.refl _)) RdS.blk rfl (u64_one y) (by unfold maxLen; omega) (by omega) ?_; clear hs; intro A2 c3 w9 hs; replace hs := hs.rot.drop))
        have hs3 : St w [own A2 (i + 1) c3 31 1 (u64s (maysE true sw (l.take (i + 1))))] w9 := by
          rw [HT.out, mays_snoc, ← u64s_snoc, HX.out]
          exact hs
        go_roundw
        case rel => exact ⟨i + 1, A2, c3, by omega, rfl, by go_num, hs3⟩
        case measure => simp [intOf] <;> omega
      · have e1 : ((x.k : Int) == 1) = false := by simp; omega
        have HI : Hid (∀ z ∈ x.kids, z < i) := hlow h1
        by_cases h5 : x.k = 5
        · have HY : y = 18446744073709551615 := by
            rw [← HX.out]
            unfold mayF
            rw [if_neg h1, if_pos h5]
            rfl
          subst HY
          rw [h5] at x1
          replace x1 := hs.made_grew.cell x1
          clear hset hnot hlow h1 e1 x2
          go_wp2_with (first
            | (refine wpl_build1 (v := .int .u64 (18446744073709551615 : Nat)) elem64 (by decide) rfl rfl hs ?_; clear hs; intro gb w8 hs)
            | (refine wpl_append (A := A) (B := some ⟨gb, 0, none⟩) (n := i) (m := 1) (news := [.int .u64 (18446744073709551615 : Nat)]) elem64 rfl rfl hs (Ent.skip (Ent.refl _)) RdS.blk rfl (u64_one 18446744073709551615) (by unfold maxLen; omega) (by omega) ?_; clear hs; intro A2 c3 w9 hs; replace hs := hs.rot.drop))
          have hs3 : St w [own A2 (i + 1) c3 31 1 (u64s (maysE true sw (l.take (i + 1))))] w9 := by
            rw [HT.out, mays_snoc, ← u64s_snoc, HX.out]
            exact hs
          go_roundw
          case rel => exact ⟨i + 1, A2, c3, by omega, rfl, by go_num, hs3⟩
          case measure => simp [intOf] <;> omega
        · have hks0 : mayK true x.k = if x.k = 4 then 3 else x.k := by unfold mayK; by_cases h4 : x.k = 4 <;> simp [h4]
          have HY : Hid (joinW (if x.k = 4 then 3 else x.k) (x.kids.map fun i' => ((maysE true sw (l.take i)).getD i' 0)) = y) := by
            rw [Hid, ← HX.out]
            unfold mayF
            rw [if_neg h1, if_neg h5, hks0]
          obtain ⟨p, HP⟩ : ∃ p, Hid (x.kids.length = p) := ⟨_, rfl⟩
          rw [HP.out] at x2 k64
          by_cases h4 : x.k = 4
          · rw [if_pos h4] at HY
            rw [h4] at x1
            replace x1 := hs.made_grew.cell x1
            replace x2 := hs.made_grew.cell x2
            clear hset hnot hlow h1 e1 h5 k1 k5 hks0
            go_wp2_with (first
              | (go_at_call 54; refine (rjoin_c (k := 3) (m := i) (by decide) HP k64 (X3.out.grew hs.made_grew) HWl (WdsR.own hs) HW64.out HI HY).mono ?_; rintro e w' ⟨rfl, hg⟩; replace hs := hs.grew hg; clear hg)
              | (refine wpl_build1 (v := .int .u64 (y : Nat)) elem64 (by decide) rfl rfl hs ?_; clear hs; intro gb w8 hs)
              | (refine wpl_append (A := A) (B := some ⟨gb, 0, none⟩) (n := i) (m := 1) (news := [.int .u64 (y : Nat)]) elem64 rfl rfl hs (Ent.skip (Ent.refl _)) RdS.blk rfl (u64_one y) (by unfold maxLen; omega) (by omega) ?_; clear hs; intro A2 c3 w9 hs; replace hs := hs.rot.drop))
            have hs3 : St w [own A2 (i + 1) c3 31 1 (u64s (maysE true sw (l.take (i + 1))))] w9 := by
              rw [HT.out, mays_snoc, ← u64s_snoc, HX.out]
              exact hs
            go_roundw
            case rel => exact ⟨i + 1, A2, c3, by omega, rfl, by go_num, hs3⟩
            case measure => simp [intOf] <;> omega
          · rw [if_neg h4] at HY
            have h23 : x.k = 2 ∨ x.k = 3 ∨ x.k = 4 := by omega
            obtain ⟨kk, HKK⟩ : ∃ kk, Hid (x.k = kk) := ⟨_, rfl⟩
            rw [HKK.out] at HY x1 h23
            have e1' : ((kk : Int) == 1) = false := by rw [HKK.out] at e1; exact e1
            have e4' : ((kk : Int) == 4) = false := by rw [← HKK.out]; simp; omega
            have e5' : ((kk : Int) == 5) = false := by rw [← HKK.out]; simp; omega
            have H23 := Lib.hid h23
            have X1 := Lib.hid x1
            have X2 := Lib.hid x2
            replace x1 := hs.made_grew.cell x1
            replace x2 := hs.made_grew.cell x2
            clear hset hnot hlow h1 e1 h5 h23 k1 k5 hks0 h4
            go_upto_region 8 with (fail)
            have hsN := hs.nothing
            refine wp_region_plain [false, false, false, false, false, false, false, false, false, false, false, false, true, true, true, true] hsN (by kernel_rfl) (by kernel_rfl) fun hne => ?_
            have e0 := (Rd.old (L := []) X1.out).alln
            have e1 := (Rd.old (L := []) X2.out).alln
            simp only [pickOps]
            repeat (go_big_quiet_step (fail))
            refine wpQuiet_nil ?_
            clear hne e0 e1
            simp only [chainIx]
            replace hs := hs.drew
            clear hsN
            refine wpChainP_next rfl ?_
            go_wp2_with (first
              | (go_at_call 54; refine (rjoin_c (m := i) H23.out HP k64 (X3.out.grew hs.made_grew) HWl (WdsR.own hs) HW64.out HI HY).mono ?_; rintro e w' ⟨rfl, hg⟩; replace hs := hs.grew hg; clear hg))
            refine ⟨hs.nothing, ?_⟩
            refine wpChainP_next rfl ?_
            refine wpl_build1 (v := .int .u64 (y : Nat)) elem64 (by decide) rfl rfl hs ?_
            clear hs
            intro gb w8 hs
            refine wpList_nil ⟨rfl, hs.nothing, ?_⟩
            refine wpChainP_next rfl ?_
            refine wpl_append (A := A) (B := some ⟨gb, 0, none⟩) (n := i) (m := 1) (news := [.int .u64 (y : Nat)]) elem64 rfl rfl hs (Ent.skip (Ent.refl _)) RdS.blk rfl (u64_one y) (by unfold maxLen; omega) (by omega) ?_
            clear hs
            intro A2 c3 w9 hs
            replace hs := hs.rot.drop
            refine wpList_nil ⟨rfl, hs.nothing, ?_⟩
            refine wpChain_last rfl ?_
            go_wp2
            have hs3 : St w [own A2 (i + 1) c3 31 1 (u64s (maysE true sw (l.take (i + 1))))] w9 := by
              rw [HT.out, mays_snoc, ← u64s_snoc, HX.out]
              exact hs
            go_roundw
            case rel => exact ⟨i + 1, A2, c3, by omega, rfl, by go_num, hs3⟩
            case measure => simp [intOf] <;> omega
    · have hiq : i = q := by omega
      subst hiq
      have hT : l.take i = l := List.take_of_length_le (by rw [HLl.out]; exact Nat.le_refl _)
      rw [hT] at hs
      clear hT
      go_wp2
      go_ret
      exact ⟨A, c, rfl, hs⟩
end Go.Proofs.YtpnjoeiohigjmaaDoor
