/-
  Expressions (expr.Arena), 7: Words.
-/
import Derived.Test.YtkcbjkadalebjaaEx6
set_option maxRecDepth 100000
namespace Go.Proofs.Ytkcbjkadalebjaa
open Go Go.RowKit
attribute [local irreducible] wpList Calls Code.wp joinA joinW mayF maysE wordS

theorem nil_at {i l : Int} (w : World) : Calls Try.prog 38 #[.pointer none, .int .i64 i, .int .i64 l] w fun e w' => e = .returned (.pointer none) ∧ w' = w := by
  go_enter Try.func38, Try.ntmps38
  go_wp2
  go_ret
  exact ⟨rfl, rfl⟩
theorem nil_word (level a : Int) (w : World) : Calls Try.prog 50 #[.pointer none, .int .i64 level, .int .i64 a] w fun e w' => e = .returned (.int .u64 0) ∧ w' = w := by
  by_cases h0 : level < 0
  · go_enter Try.func50, Try.ntmps50
    go_wp2
    go_ret
    exact ⟨rfl, rfl⟩
  · by_cases h4 : 4 ≤ level
    · go_enter Try.func50, Try.ntmps50
      go_wp2
      go_ret
      exact ⟨rfl, rfl⟩
    · go_enter Try.func50, Try.ntmps50
      go_wp2_with (first
        | (go_at_call 38; refine (nil_at _).mono ?_; rintro e w' ⟨rfl, rfl⟩))
      all_goals
        go_ret
        exact ⟨rfl, rfl⟩
/-- A set's pointer, and its numbers: nil has none. -/
def SetW (w : World) (v : Value) (S : List Nat) : Prop := (v = .pointer none ∧ S = []) ∨ ∃ T w0 M, v = ptr T ∧ St w0 (HSet T S :: M) w
theorem SetW.grew {w w' : World} {v : Value} {S : List Nat} (h : SetW w v S) (hg : Grew w w') : SetW w' v S := by
  rcases h with h | ⟨T, w0, M, rfl, hs⟩
  · exact .inl h
  · exact .inr ⟨T, w0, M, rfl, hs.grew hg⟩
theorem wordS_nil (level a : Int) : wordS [] level a = 0 := by
  unfold wordS
  split
  · exact Classical.byContradiction fun h => by
      obtain ⟨i, hi, _⟩ := wordOf_ne.1 h
      cases hi
  · rfl
theorem wordS_lt (S : List Nat) (level a : Int) : wordS S level a < 2 ^ 64 := by
  unfold wordS
  split
  · exact wordOf_lt _ _
  · decide
theorem setw_word {w wb : World} {v : Value} {S : List Nat} (hv : SetW w v S) (hg : Grew w wb) (level a : Int) {x : Nat} (hx : Hid (wordS S level a = x)) :
    Calls Try.prog 50 #[v, .int .i64 level, .int .i64 a] wb fun e w' => e = .returned (.int .u64 (x : Nat)) ∧ Grew wb w' := by
  rcases hv with ⟨rfl, rfl⟩ | ⟨T, w0, M, rfl, hs⟩
  · refine (nil_word level a wb).mono ?_
    rintro e w' ⟨rfl, rfl⟩
    rw [← hx.out, wordS_nil]
    exact ⟨rfl, Grew.refl _⟩
  · rw [← hx.out]
    exact hword_g (hs.grew hg) level a
theorem not_u64 {z : Nat} (hz : z < 2 ^ 64) : bits .xor .u64 (if IntKind.u64.signed = true then -1 else IntKind.u64.max) (z : Int) = (notW z : Nat) := by
  have e : (if IntKind.u64.signed = true then -1 else IntKind.u64.max) = ((18446744073709551615 : Nat) : Int) := by decide
  rw [e, xor_u64 _ _ (by decide) hz]
  congr 1
  refine word_ext (Nat.xor_lt_two_pow (by decide) hz) (notW_lt z) fun d hd => ?_
  rw [Nat.testBit_xor, full_bit hd, notW_bit hz hd, Bool.true_xor]
def u64s (W : List Nat) : List Value := W.map fun x => Value.int .u64 (x : Nat)
theorem u64s_len (W : List Nat) : (u64s W).length = W.length := by simp [u64s]
theorem u64s_get {W : List Nat} {i : Nat} (h : i < W.length) : (u64s W)[i]? = some (.int .u64 (W.getD i 0 : Nat)) := by
  unfold u64s
  rw [List.getElem?_map, List.getD_eq_getElem?_getD, List.getElem?_eq_getElem h]
  rfl
theorem u64s_set (W : List Nat) (i x : Nat) : (u64s W).set i (.int .u64 (x : Nat)) = u64s (W.set i x) := by
  unfold u64s
  rw [List.map_set]
/-- j of the needed nodes have their words. -/
structure WoI (R : List Nat) (M : List Nat) (n j : Nat) (W : List Nat) : Prop where
  len : W.length = n + 1
  at_ : ∀ i ∈ R.take j, W.getD i 0 = M.getD i 0
theorem WoI.step {R M W : List Nat} {n j i x : Nat} (h : WoI R M n j W) (hi : R[j]? = some i) (hn : i ≤ n) (hx : M.getD i 0 = x) : WoI R M n (j + 1) (W.set i x) := by
  refine ⟨by rw [List.length_set]; exact h.len, fun k hk => ?_⟩
  rw [List.take_add_one, hi] at hk
  rw [List.getD_eq_getElem?_getD, List.getElem?_set]
  split
  · rename_i e
    subst e
    rw [if_pos (by rw [h.len]; omega), hx]
    rfl
  · rename_i e
    rcases List.mem_append.1 hk with h1 | h1
    · rw [← List.getD_eq_getElem?_getD]; exact h.at_ k h1
    · simp at h1; omega
theorem mem_take_of_lt {R : List Nat} {j i y : Nat} (hs : R.Pairwise (· < ·)) (hi : R[j]? = some i) (hy : y ∈ R) (hlt : y < i) : y ∈ R.take j := by
  obtain ⟨k, hk, rfl⟩ := List.getElem_of_mem hy
  obtain ⟨hj, rfl⟩ := List.getElem?_eq_some_iff.1 hi
  have : k < j := by
    rcases Nat.lt_trichotomy k j with h | h | h
    · exact h
    · subst h; omega
    · have := List.pairwise_iff_getElem.1 hs j k hj hk h; omega
  exact List.mem_take_iff_getElem.2 ⟨k, by omega, rfl⟩
def arrW (xs : List Nat) (q : Nat) : List Nat := xs.take q ++ List.replicate (64 - q) 0
theorem arrW_set {xs : List Nat} {q x : Nat} (h : xs[q]? = some x) (h64 : xs.length ≤ 64) : (arrW xs q).set q x = arrW xs (q + 1) := by
  obtain ⟨hq, rfl⟩ := List.getElem?_eq_some_iff.1 h
  unfold arrW
  rw [List.set_append_right _ _ (by rw [List.length_take]; omega), List.length_take, show q - min q xs.length = 0 by omega, show 64 - q = (64 - (q + 1)) + 1 by omega, List.replicate_succ, List.set_cons_zero, List.take_succ_eq_append_getElem hq, List.append_assoc]
  rfl
theorem arrW_get {xs : List Nat} {q x : Nat} (h : xs[q]? = some x) : (arrW xs xs.length)[q]? = some x := by
  unfold arrW
  rw [List.take_length, List.getElem?_append_left (List.getElem?_eq_some_iff.1 h).1]
  exact h
theorem arrW_len {xs : List Nat} {q : Nat} (h : q ≤ xs.length) (h64 : xs.length ≤ 64) : (arrW xs q).length = 64 := by
  unfold arrW
  rw [List.length_append, List.length_take, List.length_replicate]
  omega
theorem zero_arr : (Value.agg (List.replicate 64 (Value.int .u64 0)).toArray).cells = (u64s (arrW [] 0)).toArray := by
  unfold arrW u64s
  simp [Value.cells]
theorem len_arr64 : Try.prog.arrayLen 87 = 64 := by kernel_rfl
theorem und_arr64 : Try.prog.underlying 87 = some (.array (Try.prog.arrayLen 87) (Try.prog.elem 87)) := by kernel_rfl
theorem elem_arr64 : (Try.prog.info? (Try.prog.elem 87)).map (·.size) = some 1 := by kernel_rfl
theorem slice_arr64 (g n : Nat) (h : n ≤ 64) (w : World) : (Instr.sliceAt 87 (.pointer (some ⟨g, 0, none⟩)) none (some (.int .i64 (n : Nat))) none).run Try.prog w = .ok (.slice (some ⟨g, 0, none⟩) n 64) w := by
  have e := elem_arr64
  rw [run_sliceAt_array_h w _ _ und_arr64 .i64 (n : Nat) (by omega) (by rw [len_arr64]; omega), len_arr64]
  cases hq : Try.prog.info? (Try.prog.elem 87) with
  | none => rw [hq] at e; cases e
  | some i =>
    simp [sizeOf, typeInfo, hq, slicedAt, Addr.add]
theorem sorted_few {m : Nat} : ∀ (l : List Nat) (b : Nat), l.Pairwise (· < ·) → (∀ x ∈ l, b ≤ x ∧ x < m) → l.length ≤ m - b
  | [], _, _, _ => Nat.zero_le _
  | a :: l, b, h, hb => by
    rw [List.pairwise_cons] at h
    have h1 := hb a List.mem_cons_self
    have := sorted_few l (a + 1) h.2 fun x hx => ⟨h.1 x hx, (hb x (List.mem_cons_of_mem _ hx)).2⟩
    rw [List.length_cons]
    omega
set_option maxHeartbeats 2000000 in
theorem words_c {w0 w : World} {L : List As} {D g n : Nat} {l : List NodeE} {ss : List Value} {R : List Nat} {A : Option Addr} {capR : Nat} {W : List Nat} (hs : St w0 (own (some ⟨g, 0, none⟩) (n + 1) (n + 1) 63 1 (u64s W) :: L) w) {N0 P0 : Option Addr} {cap0 cap20 : Nat} (hv0 : ExV D l ss N0 cap0 P0 cap20 w0) (hW : W.length = n + 1) (hok : ArOk l ss.length) (hn : n < l.length)
    (hR : NeedOk l n R) {r : Nat} (hRl : Hid (R.length = r)) (hr : RdS w0 L A (ints (natI R))) {level at_ : Int} {lv : Bool} (hlv : Hid (decide (0 < level) = lv)) {Ss : Nat → List Nat} (hsets : ∀ s v, ss[s]? = some v → SetW w0 v (Ss s))
    {M : List Nat} (hM : Hid (maysE lv (fun s => wordS (Ss s) level at_) l = M)) {x : Nat} (hx : Hid (M.getD n 0 = x)) :
    Calls Try.prog 35 #[ptr D, .slice A r capR, .int .i64 level, .int .i64 at_, .slice (some ⟨g, 0, none⟩) (n + 1) (n + 1)] w fun e w' => e = .returned (.int .u64 (x : Nat)) ∧
      ∃ W', W'.length = n + 1 ∧ St w0 (own (some ⟨g, 0, none⟩) (n + 1) (n + 1) 63 1 (u64s W') :: L) w' := by
  have hfew := hok.few
  have HO := Lib.hid hok
  have HV0 := Lib.hid hv0
  have HR := Lib.hid hR
  have HS := Lib.hid hsets
  have hI : WoI R M n 0 W := ⟨hW, fun i hi => by simp at hi⟩
  clear hok hR hsets hW hv0
  have hrn : r ≤ 1000 := by
    rw [← hRl.out]
    have := sorted_few (m := n + 1) R 0 HR.out.sorted fun x hx => ⟨Nat.zero_le _, by have := HR.out.low x hx; omega⟩
    omega
  unfold ptr
  go_enter Try.func35, Try.ntmps35
  go_wp2
  go_loopw [20] (fun cv wr => ∃ (j : Nat) (W : List Nat), j ≤ r ∧ cv = .int .i64 (j : Nat) ∧ WoI R M n j W ∧ St w0 (own (some ⟨g, 0, none⟩) (n + 1) (n + 1) 63 1 (u64s W) :: L) wr) (fun cv _ => r - (intOf cv).toNat)
  case atStart => exact ⟨0, W, Nat.zero_le _, rfl, hI, hs⟩
  case round =>
    clear hs hI
    obtain ⟨j, W, hj, rfl, HI, hs⟩ := hrel
    by_cases hlt : j < r
    · obtain ⟨i, hi⟩ : ∃ i, R[j]? = some i := ⟨_, List.getElem?_eq_getElem (by rw [hRl.out]; exact hlt)⟩
      have hin := HR.out.low i (List.mem_of_getElem? hi)
      obtain ⟨y, hy⟩ : ∃ y, l[i]? = some y := ⟨_, List.getElem?_eq_getElem (by omega)⟩
      have hv := HV0.out.grew hs.made_grew
      obtain ⟨gn, B, bc, rfl, r1, r2, r3⟩ := hv.row i y hy
      have d0 := hv.d0
      have d1 := hv.d1
      obtain ⟨b, o, rfl, hcr⟩ := hr.get (ints_get (show (natI R)[j]? = some (i : Int) by unfold natI; rw [List.getElem?_map, hi]; rfl))
      have hcr := hcr _ hs.drop
      have hil : i < l.length := by omega
      have hw := St.start wr
      have hsx := Lib.hid hv.set
      clear hv hw
      by_cases k1 : y.k = 1
      · obtain ⟨s, hks, hsm⟩ := HO.out.set i y hy k1
        obtain ⟨v, hv⟩ : ∃ v, ss[s]? = some v := ⟨_, List.getElem?_eq_getElem hsm⟩
        obtain ⟨gp, rfl, d2⟩ := hsx.out s v hv
        obtain ⟨b2, rfl, r4⟩ := r3 0 s (by rw [hks]; rfl)
        have hst := HS.out s v hv
        have hM1 : M.getD i 0 = wordS (Ss s) level at_ := by
          rw [← hM.out, mays_at HO.out hy (f := fun _ => 0) (fun h => absurd k1 h)]
          unfold mayF
          rw [if_pos k1, hks]
          rfl
        have HI2 := Lib.hid (HI.step hi hin rfl)
        rw [hM1] at HI2
        obtain ⟨z, HZ⟩ : ∃ z, Hid (wordS (Ss s) level at_ = z) := ⟨_, rfl⟩
        rw [HZ.out] at HI2
        rw [k1] at r1
        rw [hks] at r2
        replace r2 : wr.cell? ⟨gn, i * 2 + 1, none⟩ = some (.slice (some ⟨b2, 0, none⟩) 1 bc) := r2
        have HWl := Lib.hid HI.len
        clear r3 hks hM1 HI k1 hi hy hv
        go_wp2
        have hw := (St.start wr).alloc #[.int .i64 1, .slice (some ⟨b2, 0, none⟩) 1 bc] 38
        generalize wr.heap.size = g13 at hw ⊢
        refine wp_gen hw ?_
        clear hw
        intro w1 hw
        replace hs := hs.made hw
        replace hcr := hw.made_grew.cell hcr
        replace d0 := hw.made_grew.cell d0
        replace d1 := hw.made_grew.cell d1
        replace d2 := hw.made_grew.cell d2
        replace r4 := hw.made_grew.cell r4
        have r5 : w1.cell? ⟨g13, 1, none⟩ = some (.slice (some ⟨b2, 0, none⟩) 1 bc) := Rd.blk (by rfl) w1 hs
        clear hw r1 r2 hcr d0
        refine wp_region_chain [false, false, false, false, false, false, false, false, false, false, false, false, false, false, false, false, true] (by kernel_rfl) (by kernel_rfl) ?_
        intro wb hb
        have hne : Nonempty (GW wb) := ⟨⟨wb, Grew.refl _⟩⟩
        replace hs := hs.grew hb
        have e1 : ∀ p : GW wb, p.w.cell? ⟨D, 1, none⟩ = _ := fun p => p.grew.cell (hb.cell d1)
        have e2 : ∀ p : GW wb, p.w.cell? ⟨gp, s, none⟩ = _ := fun p => p.grew.cell (hb.cell d2)
        have e3 : ∀ p : GW wb, p.w.cell? ⟨b2, 0, none⟩ = _ := fun p => p.grew.cell (hb.cell r4)
        have e4 : ∀ p : GW wb, p.w.cell? ⟨g13, 1, none⟩ = _ := fun p => p.grew.cell (hb.cell r5)
        clear d1 d2 r4 r5 hb
        simp only [pickOps]
        repeat (go_big_quiet_step ((first
          | (go_at_call 50; exact in_grew (setw_word hst (hs.made_grew.trans (GW.grew _)) level at_ HZ)))))
        refine wpQuiet_nil ?_
        intro u hu
        replace hs := hs.grew hu
        clear hne e1 e2 e3 e4 hu
        simp only [chainIx]
        refine wpChain_last rfl ?_
        refine wpl_store (v := .int .u64 (z : Nat)) rfl rfl rfl size_word hs (Wr.own (by rw [u64s_len, HWl.out]; omega)).tail ?_
        clear hs
        intro w3 hs
        rw [u64s_set] at hs
        replace hs := hs.drop
        refine wpList_nil ⟨rfl, ?_⟩
        go_wp2
        go_roundw
        case rel => exact ⟨j + 1, W.set i z, by omega, by go_num, HI2.out, hs⟩
        case measure => simp [intOf] <;> omega
      · have k1' : ((y.k : Int) == 1) = false := by simp; omega
        obtain ⟨c1, c2, c3⟩ := HO.out.kind i y hy
        by_cases k5 : y.k = 5
        · cases lv with
          | true =>
            have hM1 : M.getD i 0 = 18446744073709551615 := by
              rw [← hM.out, mays_at HO.out hy (f := fun q => (maysE true (fun s => wordS (Ss s) level at_) l).getD q 0) (fun _ _ _ => rfl)]
              unfold mayF
              rw [if_neg k1, if_pos k5]
              rfl
            have HI2 := Lib.hid (HI.step hi hin rfl)
            rw [hM1] at HI2
            have HWl := Lib.hid HI.len
            have hl : decide (0 < level) = true := hlv.out
            rw [k5] at r1
            clear r3 hM1 k1 hi hy HI k1'
            go_wp2_with (first
              | (refine wpl_store (v := .int .u64 (18446744073709551615 : Nat)) rfl rfl rfl size_word (hs.made ((St.start wr).alloc _ _)) (Wr.own (by rw [u64s_len, HWl.out]; omega)).tail ?_; clear hs r1 r2 d0 d1 hcr; intro w3 hs; rw [u64s_set] at hs; replace hs := hs.drop))
            go_roundw
            case rel => exact ⟨j + 1, W.set i 18446744073709551615, by omega, by go_num, HI2.out, hs⟩
            case measure => simp [intOf] <;> omega
          | false =>
            have hn1 := HO.out.not i y hy k5
            obtain ⟨q, hks⟩ : ∃ q, y.kids = [q] := List.length_eq_one_iff.1 hn1
            have hqm : q ∈ y.kids := by rw [hks]; exact List.mem_cons_self
            have hqi := HO.out.low i y hy k1 q hqm
            have hqR := mem_take_of_lt HR.out.sorted hi (HR.out.kids i (List.mem_of_getElem? hi) y hy k1 q hqm) hqi
            have hM1 : M.getD i 0 = notW (W.getD q 0) := by
              rw [← hM.out, mays_at HO.out hy (f := fun q => W.getD q 0) (fun _ q' hq' => by
                rw [hks, List.mem_singleton] at hq'
                subst hq'
                rw [hM.out]
                exact HI.at_ q' hqR)]
              unfold mayF
              rw [if_neg k1, if_pos k5, hks]
              rfl
            have HI2 := Lib.hid (HI.step hi hin rfl)
            have hWq : W.getD q 0 < 2 ^ 64 := by
              rw [HI.at_ q hqR, ← hM.out]
              exact mays_lt (fun s => wordS_lt _ _ _) l q
            have r5 := Rd.own (w0 := w0) (g := g) (n := n + 1) (cap := n + 1) (e := 63) (size := 1) (L := L) (u64s_get (show q < W.length by rw [HI.len]; omega)) _ hs
            rw [hM1] at HI2
            obtain ⟨z, HZ⟩ : ∃ z, Hid (W.getD q 0 = z) := ⟨_, rfl⟩
            rw [HZ.out] at HI2 r5 hWq
            obtain ⟨b2, rfl, r4⟩ := r3 0 q (by rw [hks]; rfl)
            have HWl := Lib.hid HI.len
            have hl : decide (0 < level) = false := hlv.out
            have hqn : q < n + 1 := by omega
            rw [k5] at r1
            rw [hks] at r2
            replace r2 : wr.cell? ⟨gn, i * 2 + 1, none⟩ = some (.slice (some ⟨b2, 0, none⟩) 1 bc) := r2
            clear r3 hM1 k1 hi hy HI k1' hks hqm hqR hn1
            have HNO := Lib.hid (not_u64 hWq)
            go_upto_region 10 with (fail)
            have hw := (St.start wr).alloc #[.int .i64 5, .slice (some ⟨b2, 0, none⟩) 1 bc] 38
            generalize wr.heap.size = g13 at hw ⊢
            refine wp_gen hw ?_
            clear hw
            intro w1 hw
            replace hs := hs.made hw
            replace r4 := hw.made_grew.cell r4
            replace r5 := hw.made_grew.cell r5
            have r6 : w1.cell? ⟨g13, 1, none⟩ = some (.slice (some ⟨b2, 0, none⟩) 1 bc) := Rd.blk (by rfl) w1 hs
            clear hw r1 r2 hcr d0 d1
            go_wp2_with (first
              | (refine wpl_store (v := .int .u64 (notW z : Nat)) rfl ?hx rfl size_word hs (Wr.own (k := i) (by rw [u64s_len, HWl.out]; omega)).tail ?_; (case hx => simp [Act.eval] <;> exact HNO.out); clear hs r4 r5 r6; intro w3 hs; rw [u64s_set] at hs; replace hs := hs.drop))
            go_roundw
            case rel => exact ⟨j + 1, W.set i (notW z), by omega, by go_num, HI2.out, hs⟩
            case measure => simp [intOf] <;> omega
        · have k5' : ((y.k : Int) == 5) = false := by simp; omega
          have hM1 : M.getD i 0 = joinW (mayK lv y.k) (y.kids.map fun q => W.getD q 0) := by
            rw [← hM.out, mays_at HO.out hy (f := fun q => W.getD q 0) (fun _ q hq => by
              rw [hM.out]
              exact HI.at_ q (mem_take_of_lt HR.out.sorted hi (HR.out.kids i (List.mem_of_getElem? hi) y hy k1 q hq) (HO.out.low i y hy k1 q hq)))]
            unfold mayF
            rw [if_neg k1, if_neg k5]
          have HI2 := Lib.hid (HI.step hi hin rfl)
          rw [hM1] at HI2
          have HWl := Lib.hid HI.len
          have hXlt : ∀ v ∈ y.kids.map (fun q => W.getD q 0), v < 2 ^ 64 := fun v hv => by
            obtain ⟨q, hq, rfl⟩ := List.mem_map.1 hv
            rw [HI.at_ q (mem_take_of_lt HR.out.sorted hi (HR.out.kids i (List.mem_of_getElem? hi) y hy k1 q hq) (HO.out.low i y hy k1 q hq)), ← hM.out]
            exact mays_lt (fun s => wordS_lt _ _ _) l q
          have HLo : Hid (∀ q ∈ y.kids, q < n + 1) := fun q hq => by
            have := HO.out.low i y hy k1 q hq
            omega
          have R3 := Lib.hid r3
          have HXl : Hid (∀ v ∈ y.kids.map (fun q => W.getD q 0), v < 2 ^ 64) := hXlt
          have hl : decide (0 < level) = lv := hlv.out
          clear hM1 hi hy HI hXlt r3 hsx
          obtain ⟨yk, ys⟩ := y
          simp only at *
          have h234 : yk = 2 ∨ yk = 3 ∨ yk = 4 := by omega
          clear k1 k1' k5 k5' c1 c2
          replace c3 : ys.length ≤ 64 := c3
          rcases h234 with rfl | rfl | rfl
          · skip
            go_upto_region 14 with (fail)
            have hw := (St.start wr).alloc #[.int .i64 2, .slice B ys.length bc] 38
            generalize wr.heap.size = g13 at hw ⊢
            refine wp_gen hw ?_
            clear hw
            intro w1 hw
            clear r1 r2 hcr d0 d1
            go_upto_region 15 with (first
              | (refine wpl_alloc (z := .agg (List.replicate 64 (Value.int .u64 0)).toArray) (by kernel_rfl) hw ?_; clear hw; intro g15 w2 hw; rw [zero_arr] at hw))
            obtain ⟨xs, hxs⟩ : ∃ xs, Hid (ys.map (fun q => W.getD q 0) = xs) := ⟨_, rfl⟩
            rw [hxs.out] at HXl HI2
            have hxl : xs.length = ys.length := by rw [← hxs.out, List.length_map]
            have r7 : w2.cell? ⟨g13, 1, none⟩ = some (.slice B ys.length bc) := Rd.blk (by rfl) w2 hw.rot
            have hb : Grew wr w2 := hw.made_grew
            go_wp2
            go_loopw [88] (fun cv wi => ∃ q : Nat, q ≤ ys.length ∧ cv = .int .i64 (q : Nat) ∧ St wr [blk g15 (u64s (arrW xs q)).toArray 87, blk g13 #[.int .i64 2, .slice B ys.length bc] 38] wi) (fun cv _ => ys.length - (intOf cv).toNat)
            case atStart => exact ⟨0, Nat.zero_le _, rfl, by rw [show arrW xs 0 = arrW [] 0 by unfold arrW; simp]; exact hw⟩
            case round =>
              clear hw r7 hb
              obtain ⟨q, hq, rfl, hw⟩ := hrel
              by_cases hlq : q < ys.length
              · obtain ⟨k, hk⟩ : ∃ k, ys[q]? = some k := ⟨_, List.getElem?_eq_getElem hlq⟩
                obtain ⟨b2, rfl, r4⟩ := R3.out q k hk
                have hkn := HLo.out k (List.mem_of_getElem? hk)
                have r5 := Rd.own (w0 := w0) (g := g) (n := n + 1) (cap := n + 1) (e := 63) (size := 1) (L := L) (u64s_get (show k < W.length by rw [HWl.out]; exact hkn)) _ hs
                replace r4 := hw.made_grew.cell r4
                replace r5 := hw.made_grew.cell r5
                have HA := Lib.hid (arrW_set (xs := xs) (q := q) (x := W.getD k 0) (by rw [← hxs.out, List.getElem?_map, hk]; rfl) (by omega))
                have HAl := Lib.hid (arrW_len (xs := xs) (q := q) (by omega) (by omega))
                have hq64 : q < 64 := by omega
                generalize W.getD k 0 = z at *
                clear hk
                go_wp2_with (first
                  | (refine wpl_store (v := .int .u64 (z : Nat)) rfl rfl rfl size_word hw (Wr.blk (by simp only [List.size_toArray, u64s_len]; rw [HAl.out]; omega)) ?_; clear hw r4 r5; intro w3 hw; rw [List.setIfInBounds_toArray, u64s_set, HA.out] at hw))
                go_roundw
                case rel => exact ⟨q + 1, by omega, by go_num, hw⟩
                case measure => simp [intOf] <;> omega
              · have hqn : q = ys.length := by omega
                subst hqn
                have hK : mayK lv 2 = 2 := by unfold mayK; simp
                rw [hK] at HI2
                obtain ⟨z, HZ⟩ : ∃ z, Hid (joinW 2 xs = z) := ⟨_, rfl⟩
                rw [HZ.out] at HI2
                have r7 := Rd.blk (v := .slice B ys.length bc) (k := 1) (by rfl) _ hw.rot
                have hs2 := hs.mades hw
                have hsl := slice_arr64 g15 ys.length c3
                have hcl : Hid (∀ (jj x : Nat), xs[jj]? = some x → ∃ b, (some ⟨g15, 0, none⟩ : Option Addr) = some ⟨b, 0, none⟩ ∧ wr.cell? ⟨b, jj, none⟩ = some (.int .u64 (x : Nat))) := fun jj x h => ⟨g15, rfl, Rd.blk (by rw [List.getElem?_toArray, ← hxl, u64s_get (by rw [arrW_len (Nat.le_refl _) (by omega)]; have := (List.getElem?_eq_some_iff.1 h).1; omega), List.getD_eq_getElem?_getD, arrW_get h]; rfl) _ hw⟩
                clear hs hK
                go_wp2_with (first
                  | (go_at_call 51; refine (join_c (k := 2) (xs := xs) (by decide) (Lib.hid hxl) c3 hcl.out HXl.out HZ).mono ?_; rintro e w' ⟨rfl, rfl⟩)
                  | (refine wpl_store (v := .int .u64 (z : Nat)) rfl rfl rfl size_word hs2 (Wr.own (k := i) (by rw [u64s_len, HWl.out]; omega)).tail.tail ?_; clear hs2 hw r7; intro w3 hs; rw [u64s_set] at hs; replace hs := hs.drop.drop))
                go_roundw
                case rel => exact ⟨j + 1, W.set i z, by omega, by go_num, HI2.out, hs⟩
                case measure => simp [intOf] <;> omega
          · skip
            go_upto_region 14 with (fail)
            have hw := (St.start wr).alloc #[.int .i64 3, .slice B ys.length bc] 38
            generalize wr.heap.size = g13 at hw ⊢
            refine wp_gen hw ?_
            clear hw
            intro w1 hw
            clear r1 r2 hcr d0 d1
            go_upto_region 15 with (first
              | (refine wpl_alloc (z := .agg (List.replicate 64 (Value.int .u64 0)).toArray) (by kernel_rfl) hw ?_; clear hw; intro g15 w2 hw; rw [zero_arr] at hw))
            obtain ⟨xs, hxs⟩ : ∃ xs, Hid (ys.map (fun q => W.getD q 0) = xs) := ⟨_, rfl⟩
            rw [hxs.out] at HXl HI2
            have hxl : xs.length = ys.length := by rw [← hxs.out, List.length_map]
            have r7 : w2.cell? ⟨g13, 1, none⟩ = some (.slice B ys.length bc) := Rd.blk (by rfl) w2 hw.rot
            have hb : Grew wr w2 := hw.made_grew
            go_wp2
            go_loopw [88] (fun cv wi => ∃ q : Nat, q ≤ ys.length ∧ cv = .int .i64 (q : Nat) ∧ St wr [blk g15 (u64s (arrW xs q)).toArray 87, blk g13 #[.int .i64 3, .slice B ys.length bc] 38] wi) (fun cv _ => ys.length - (intOf cv).toNat)
            case atStart => exact ⟨0, Nat.zero_le _, rfl, by rw [show arrW xs 0 = arrW [] 0 by unfold arrW; simp]; exact hw⟩
            case round =>
              clear hw r7 hb
              obtain ⟨q, hq, rfl, hw⟩ := hrel
              by_cases hlq : q < ys.length
              · obtain ⟨k, hk⟩ : ∃ k, ys[q]? = some k := ⟨_, List.getElem?_eq_getElem hlq⟩
                obtain ⟨b2, rfl, r4⟩ := R3.out q k hk
                have hkn := HLo.out k (List.mem_of_getElem? hk)
                have r5 := Rd.own (w0 := w0) (g := g) (n := n + 1) (cap := n + 1) (e := 63) (size := 1) (L := L) (u64s_get (show k < W.length by rw [HWl.out]; exact hkn)) _ hs
                replace r4 := hw.made_grew.cell r4
                replace r5 := hw.made_grew.cell r5
                have HA := Lib.hid (arrW_set (xs := xs) (q := q) (x := W.getD k 0) (by rw [← hxs.out, List.getElem?_map, hk]; rfl) (by omega))
                have HAl := Lib.hid (arrW_len (xs := xs) (q := q) (by omega) (by omega))
                have hq64 : q < 64 := by omega
                generalize W.getD k 0 = z at *
                clear hk
                go_wp2_with (first
                  | (refine wpl_store (v := .int .u64 (z : Nat)) rfl rfl rfl size_word hw (Wr.blk (by simp only [List.size_toArray, u64s_len]; rw [HAl.out]; omega)) ?_; clear hw r4 r5; intro w3 hw; rw [List.setIfInBounds_toArray, u64s_set, HA.out] at hw))
                go_roundw
                case rel => exact ⟨q + 1, by omega, by go_num, hw⟩
                case measure => simp [intOf] <;> omega
              · have hqn : q = ys.length := by omega
                subst hqn
                have hK : mayK lv 3 = 3 := by unfold mayK; simp
                rw [hK] at HI2
                obtain ⟨z, HZ⟩ : ∃ z, Hid (joinW 3 xs = z) := ⟨_, rfl⟩
                rw [HZ.out] at HI2
                have r7 := Rd.blk (v := .slice B ys.length bc) (k := 1) (by rfl) _ hw.rot
                have hs2 := hs.mades hw
                have hsl := slice_arr64 g15 ys.length c3
                have hcl : Hid (∀ (jj x : Nat), xs[jj]? = some x → ∃ b, (some ⟨g15, 0, none⟩ : Option Addr) = some ⟨b, 0, none⟩ ∧ wr.cell? ⟨b, jj, none⟩ = some (.int .u64 (x : Nat))) := fun jj x h => ⟨g15, rfl, Rd.blk (by rw [List.getElem?_toArray, ← hxl, u64s_get (by rw [arrW_len (Nat.le_refl _) (by omega)]; have := (List.getElem?_eq_some_iff.1 h).1; omega), List.getD_eq_getElem?_getD, arrW_get h]; rfl) _ hw⟩
                clear hs hK
                go_wp2_with (first
                  | (go_at_call 51; refine (join_c (k := 3) (xs := xs) (by decide) (Lib.hid hxl) c3 hcl.out HXl.out HZ).mono ?_; rintro e w' ⟨rfl, rfl⟩)
                  | (refine wpl_store (v := .int .u64 (z : Nat)) rfl rfl rfl size_word hs2 (Wr.own (k := i) (by rw [u64s_len, HWl.out]; omega)).tail.tail ?_; clear hs2 hw r7; intro w3 hs; rw [u64s_set] at hs; replace hs := hs.drop.drop))
                go_roundw
                case rel => exact ⟨j + 1, W.set i z, by omega, by go_num, HI2.out, hs⟩
                case measure => simp [intOf] <;> omega
          · cases lv with
            | true =>
              go_upto_region 14 with (fail)
              have hw := (St.start wr).alloc #[.int .i64 4, .slice B ys.length bc] 38
              generalize wr.heap.size = g13 at hw ⊢
              refine wp_gen hw ?_
              clear hw
              intro w1 hw
              clear r1 r2 hcr d0 d1
              go_upto_region 15 with (first
                | (refine wpl_alloc (z := .agg (List.replicate 64 (Value.int .u64 0)).toArray) (by kernel_rfl) hw ?_; clear hw; intro g15 w2 hw; rw [zero_arr] at hw))
              obtain ⟨xs, hxs⟩ : ∃ xs, Hid (ys.map (fun q => W.getD q 0) = xs) := ⟨_, rfl⟩
              rw [hxs.out] at HXl HI2
              have hxl : xs.length = ys.length := by rw [← hxs.out, List.length_map]
              have r7 : w2.cell? ⟨g13, 1, none⟩ = some (.slice B ys.length bc) := Rd.blk (by rfl) w2 hw.rot
              have hb : Grew wr w2 := hw.made_grew
              go_wp2
              go_loopw [88] (fun cv wi => ∃ q : Nat, q ≤ ys.length ∧ cv = .int .i64 (q : Nat) ∧ St wr [blk g15 (u64s (arrW xs q)).toArray 87, blk g13 #[.int .i64 4, .slice B ys.length bc] 38] wi) (fun cv _ => ys.length - (intOf cv).toNat)
              case atStart => exact ⟨0, Nat.zero_le _, rfl, by rw [show arrW xs 0 = arrW [] 0 by unfold arrW; simp]; exact hw⟩
              case round =>
                clear hw r7 hb
                obtain ⟨q, hq, rfl, hw⟩ := hrel
                by_cases hlq : q < ys.length
                · obtain ⟨k, hk⟩ : ∃ k, ys[q]? = some k := ⟨_, List.getElem?_eq_getElem hlq⟩
                  obtain ⟨b2, rfl, r4⟩ := R3.out q k hk
                  have hkn := HLo.out k (List.mem_of_getElem? hk)
                  have r5 := Rd.own (w0 := w0) (g := g) (n := n + 1) (cap := n + 1) (e := 63) (size := 1) (L := L) (u64s_get (show k < W.length by rw [HWl.out]; exact hkn)) _ hs
                  replace r4 := hw.made_grew.cell r4
                  replace r5 := hw.made_grew.cell r5
                  have HA := Lib.hid (arrW_set (xs := xs) (q := q) (x := W.getD k 0) (by rw [← hxs.out, List.getElem?_map, hk]; rfl) (by omega))
                  have HAl := Lib.hid (arrW_len (xs := xs) (q := q) (by omega) (by omega))
                  have hq64 : q < 64 := by omega
                  generalize W.getD k 0 = z at *
                  clear hk
                  go_wp2_with (first
                    | (refine wpl_store (v := .int .u64 (z : Nat)) rfl rfl rfl size_word hw (Wr.blk (by simp only [List.size_toArray, u64s_len]; rw [HAl.out]; omega)) ?_; clear hw r4 r5; intro w3 hw; rw [List.setIfInBounds_toArray, u64s_set, HA.out] at hw))
                  go_roundw
                  case rel => exact ⟨q + 1, by omega, by go_num, hw⟩
                  case measure => simp [intOf] <;> omega
                · have hqn : q = ys.length := by omega
                  subst hqn
                  have hK : mayK true 4 = 3 := by unfold mayK; simp
                  rw [hK] at HI2
                  obtain ⟨z, HZ⟩ : ∃ z, Hid (joinW 3 xs = z) := ⟨_, rfl⟩
                  rw [HZ.out] at HI2
                  have r7 := Rd.blk (v := .slice B ys.length bc) (k := 1) (by rfl) _ hw.rot
                  have hs2 := hs.mades hw
                  have hsl := slice_arr64 g15 ys.length c3
                  have hcl : Hid (∀ (jj x : Nat), xs[jj]? = some x → ∃ b, (some ⟨g15, 0, none⟩ : Option Addr) = some ⟨b, 0, none⟩ ∧ wr.cell? ⟨b, jj, none⟩ = some (.int .u64 (x : Nat))) := fun jj x h => ⟨g15, rfl, Rd.blk (by rw [List.getElem?_toArray, ← hxl, u64s_get (by rw [arrW_len (Nat.le_refl _) (by omega)]; have := (List.getElem?_eq_some_iff.1 h).1; omega), List.getD_eq_getElem?_getD, arrW_get h]; rfl) _ hw⟩
                  clear hs hK
                  go_wp2_with (first
                    | (go_at_call 51; refine (join_c (k := 3) (xs := xs) (by decide) (Lib.hid hxl) c3 hcl.out HXl.out HZ).mono ?_; rintro e w' ⟨rfl, rfl⟩)
                    | (refine wpl_store (v := .int .u64 (z : Nat)) rfl rfl rfl size_word hs2 (Wr.own (k := i) (by rw [u64s_len, HWl.out]; omega)).tail.tail ?_; clear hs2 hw r7; intro w3 hs; rw [u64s_set] at hs; replace hs := hs.drop.drop))
                  go_roundw
                  case rel => exact ⟨j + 1, W.set i z, by omega, by go_num, HI2.out, hs⟩
                  case measure => simp [intOf] <;> omega
            | false =>
              go_upto_region 14 with (fail)
              have hw := (St.start wr).alloc #[.int .i64 4, .slice B ys.length bc] 38
              generalize wr.heap.size = g13 at hw ⊢
              refine wp_gen hw ?_
              clear hw
              intro w1 hw
              clear r1 r2 hcr d0 d1
              go_upto_region 15 with (first
                | (refine wpl_alloc (z := .agg (List.replicate 64 (Value.int .u64 0)).toArray) (by kernel_rfl) hw ?_; clear hw; intro g15 w2 hw; rw [zero_arr] at hw))
              obtain ⟨xs, hxs⟩ : ∃ xs, Hid (ys.map (fun q => W.getD q 0) = xs) := ⟨_, rfl⟩
              rw [hxs.out] at HXl HI2
              have hxl : xs.length = ys.length := by rw [← hxs.out, List.length_map]
              have r7 : w2.cell? ⟨g13, 1, none⟩ = some (.slice B ys.length bc) := Rd.blk (by rfl) w2 hw.rot
              have hb : Grew wr w2 := hw.made_grew
              go_wp2
              go_loopw [88] (fun cv wi => ∃ q : Nat, q ≤ ys.length ∧ cv = .int .i64 (q : Nat) ∧ St wr [blk g15 (u64s (arrW xs q)).toArray 87, blk g13 #[.int .i64 4, .slice B ys.length bc] 38] wi) (fun cv _ => ys.length - (intOf cv).toNat)
              case atStart => exact ⟨0, Nat.zero_le _, rfl, by rw [show arrW xs 0 = arrW [] 0 by unfold arrW; simp]; exact hw⟩
              case round =>
                clear hw r7 hb
                obtain ⟨q, hq, rfl, hw⟩ := hrel
                by_cases hlq : q < ys.length
                · obtain ⟨k, hk⟩ : ∃ k, ys[q]? = some k := ⟨_, List.getElem?_eq_getElem hlq⟩
                  obtain ⟨b2, rfl, r4⟩ := R3.out q k hk
                  have hkn := HLo.out k (List.mem_of_getElem? hk)
                  have r5 := Rd.own (w0 := w0) (g := g) (n := n + 1) (cap := n + 1) (e := 63) (size := 1) (L := L) (u64s_get (show k < W.length by rw [HWl.out]; exact hkn)) _ hs
                  replace r4 := hw.made_grew.cell r4
                  replace r5 := hw.made_grew.cell r5
                  have HA := Lib.hid (arrW_set (xs := xs) (q := q) (x := W.getD k 0) (by rw [← hxs.out, List.getElem?_map, hk]; rfl) (by omega))
                  have HAl := Lib.hid (arrW_len (xs := xs) (q := q) (by omega) (by omega))
                  have hq64 : q < 64 := by omega
                  generalize W.getD k 0 = z at *
                  clear hk
                  go_wp2_with (first
                    | (refine wpl_store (v := .int .u64 (z : Nat)) rfl rfl rfl size_word hw (Wr.blk (by simp only [List.size_toArray, u64s_len]; rw [HAl.out]; omega)) ?_; clear hw r4 r5; intro w3 hw; rw [List.setIfInBounds_toArray, u64s_set, HA.out] at hw))
                  go_roundw
                  case rel => exact ⟨q + 1, by omega, by go_num, hw⟩
                  case measure => simp [intOf] <;> omega
                · have hqn : q = ys.length := by omega
                  subst hqn
                  have hK : mayK false 4 = 4 := by unfold mayK; simp
                  rw [hK] at HI2
                  obtain ⟨z, HZ⟩ : ∃ z, Hid (joinW 4 xs = z) := ⟨_, rfl⟩
                  rw [HZ.out] at HI2
                  have r7 := Rd.blk (v := .slice B ys.length bc) (k := 1) (by rfl) _ hw.rot
                  have hs2 := hs.mades hw
                  have hsl := slice_arr64 g15 ys.length c3
                  have hcl : Hid (∀ (jj x : Nat), xs[jj]? = some x → ∃ b, (some ⟨g15, 0, none⟩ : Option Addr) = some ⟨b, 0, none⟩ ∧ wr.cell? ⟨b, jj, none⟩ = some (.int .u64 (x : Nat))) := fun jj x h => ⟨g15, rfl, Rd.blk (by rw [List.getElem?_toArray, ← hxl, u64s_get (by rw [arrW_len (Nat.le_refl _) (by omega)]; have := (List.getElem?_eq_some_iff.1 h).1; omega), List.getD_eq_getElem?_getD, arrW_get h]; rfl) _ hw⟩
                  clear hs hK
                  go_wp2_with (first
                    | (go_at_call 51; refine (join_c (k := 4) (xs := xs) (by decide) (Lib.hid hxl) c3 hcl.out HXl.out HZ).mono ?_; rintro e w' ⟨rfl, rfl⟩)
                    | (refine wpl_store (v := .int .u64 (z : Nat)) rfl rfl rfl size_word hs2 (Wr.own (k := i) (by rw [u64s_len, HWl.out]; omega)).tail.tail ?_; clear hs2 hw r7; intro w3 hs; rw [u64s_set] at hs; replace hs := hs.drop.drop))
                  go_roundw
                  case rel => exact ⟨j + 1, W.set i z, by omega, by go_num, HI2.out, hs⟩
                  case measure => simp [intOf] <;> omega
    · have hjr : j = r := by omega
      subst hjr
      have hlast : R[j - 1]? = some n := by rw [← hRl.out, ← List.getLast?_eq_getElem?]; exact HR.out.last
      have hj1 : 1 ≤ j := by
        rcases Nat.eq_zero_or_pos j with h | h
        · have h1 := (List.getElem?_eq_some_iff.1 hlast).1
          rw [hRl.out] at h1
          omega
        · exact h
      obtain ⟨b, o, rfl, hcr⟩ := hr.get (ints_get (show (natI R)[j - 1]? = some (n : Int) by unfold natI; rw [List.getElem?_map, hlast]; rfl))
      have hcr := hcr _ hs.drop
      have hWn : W.getD n 0 = x := by
        rw [HI.at_ n (by rw [← hRl.out, List.take_length]; exact List.mem_of_getElem? hlast), hx.out]
      have r5 := Rd.own (w0 := w0) (g := g) (n := n + 1) (cap := n + 1) (e := 63) (size := 1) (L := L) (u64s_get (show n < W.length by rw [HI.len]; omega)) _ hs
      rw [hWn] at r5
      have HI2 := Lib.hid HI.len
      obtain ⟨jj, rfl⟩ : ∃ jj, j = jj + 1 := ⟨j - 1, by omega⟩
      rw [Nat.add_sub_cancel] at hcr
      clear hWn hlast HI hj1
      go_wp2
      go_ret
      exact ⟨rfl, W, HI2.out, hs⟩
end Go.Proofs.Ytkcbjkadalebjaa
