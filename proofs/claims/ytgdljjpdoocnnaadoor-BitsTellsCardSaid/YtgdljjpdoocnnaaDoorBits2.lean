/-
  The walks of package bits: First, Last, Len, List, Split, Join.
-/
import Derived.Test.YtgdljjpdoocnnaaDoorBits
set_option maxRecDepth 100000
namespace Go.Proofs.YtgdljjpdoocnnaaDoor
open Go Go.RowKit
attribute [local irreducible] wpList Calls Code.wp

theorem last_c {x : Nat} (hx : x < 2 ^ 64) (w : World) : Calls Tryd.prog 16 #[.int .u64 x] w fun e w' => e = .returned (.int .i64 (lastW x)) ∧ w = w' := by
  have hb : bitLen x ≤ 64 := by
    rw [← libBitLen hx]
    exact Lib.bitLenAux_le 64 x 64 hx
  go_enter Tryd.func16, Tryd.ntmps16
  go_wp2_with (first | (go_at_call 51; refine (len64_c _ hx _).mono ?_; rintro e w' ⟨rfl, rfl⟩))
  go_ret
  exact ⟨ret_int (lastW_bitLen hx).symm, rfl⟩
theorem len_c {x : Nat} (hx : x < 2 ^ 64) (w : World) : Calls Tryd.prog 20 #[.int .u64 x] w fun e w' => e = .returned (.int .i64 (cntW x : Nat)) ∧ w = w' := by
  go_enter Tryd.func20, Tryd.ntmps20
  go_wp2_with (first | (go_at_call 52; refine (ones_c _ hx _).mono ?_; rintro e w' ⟨rfl, rfl⟩))
  go_ret
  exact ⟨rfl, rfl⟩
theorem firstW_far {x : Nat} {f : Int} (h : 64 ≤ f) : firstW x f = -1 := firstW_none fun j h1 h2 => by omega
/-- At a number of 0 to 63. -/
theorem first_at {x d : Nat} (hx : x < 2 ^ 64) (hd : d < 64) (w : World) (hT : Tab w) : Calls Tryd.prog 15 #[.int .u64 x, .int .i64 (d : Int)] w fun e w' => e = .returned (.int .i64 (firstW x d)) ∧ w = w' := by
  have hs := firstW_shift (f := d) hx
  have hq : (x : Int) / 2 ^ d = ((x / 2 ^ d : Nat) : Int) := by simp
  have hle : x / 2 ^ d < 2 ^ 64 := Nat.lt_of_le_of_lt (Nat.div_le_self _ _) hx
  generalize x / 2 ^ d = y at *
  have HS := Lib.hid hs
  clear hs
  by_cases h0 : y = 0
  · have hz : ((y : Int) == 0) = true := by simpa using h0
    have HH := Lib.hid h0
    clear h0
    go_enter Tryd.func15, Tryd.ntmps15
    go_wp2
    go_ret
    exact ⟨by rw [HS.out, if_pos HH.out]; rfl, rfl⟩
  · have hz : ((y : Int) == 0) = false := by simpa using h0
    have hc : Lib.ctz 64 y < 64 := (ctz_spec h0 hle).1
    have HH := Lib.hid h0
    clear h0
    go_enter Tryd.func15, Tryd.ntmps15
    go_wp2_with (first | (go_at_call 50; refine (tz_c _ hle _ hT).mono ?_; rintro e w' ⟨rfl, rfl⟩))
    go_ret
    exact ⟨by rw [HS.out, if_neg HH.out]; rfl, rfl⟩
theorem first_c {x : Nat} (hx : x < 2 ^ 64) (f : Int) (w : World) (hT : Tab w) : Calls Tryd.prog 15 #[.int .u64 x, .int .i64 f] w fun e w' => e = .returned (.int .i64 (firstW x f)) ∧ w = w' := by
  by_cases h1 : 64 ≤ f
  · have H := Lib.hid (firstW_far (x := x) h1)
    go_enter Tryd.func15, Tryd.ntmps15
    go_wp2
    go_ret
    exact ⟨by rw [H.out]; rfl, rfl⟩
  · by_cases h2 : 0 ≤ f
    · obtain ⟨d, rfl⟩ := Int.eq_ofNat_of_zero_le h2
      exact first_at hx (by omega) w hT
    · have h3 : f < 0 := by omega
      have e : firstW x f = firstW x ((0 : Nat) : Int) := by rw [firstW_max]; congr 1; omega
      have hs := firstW_shift (f := 0) hx
      rw [← e] at hs
      simp only [Nat.pow_zero, Nat.div_one, Nat.zero_add] at hs
      have HS := Lib.hid hs
      clear hs e h1 h2
      have hmx : max f 0 = 0 := by omega
      by_cases h0 : x = 0
      · have hz : ((x : Int) == 0) = true := by simpa using h0
        have HH := Lib.hid h0
        clear h0
        go_enter Tryd.func15, Tryd.ntmps15
        go_wp2
        go_ret
        exact ⟨by rw [HS.out, if_pos HH.out]; rfl, rfl⟩
      · have hz : ((x : Int) == 0) = false := by simpa using h0
        have hc : Lib.ctz 64 x < 64 := (ctz_spec h0 hx).1
        have HH := Lib.hid h0
        clear h0
        go_enter Tryd.func15, Tryd.ntmps15
        go_wp2_with (first | (go_at_call 50; refine (tz_c _ hx _ hT).mono ?_; rintro e w' ⟨rfl, rfl⟩))
        go_ret
        exact ⟨by rw [HS.out, if_neg HH.out]; rfl, rfl⟩
theorem elem24 : ElemOk Tryd.prog 24 3 1 8 := ElemOk.of Tryd.underlying24 (z := .int .i64 0) (by kernel_rfl) rfl (by decide)
theorem ints_one (x : Int) : ∀ u ∈ [Value.int .i64 x], u.oneCell' = true := by simp; rfl
theorem intv_snoc (l : List Nat) (i : Nat) : (l.map fun i : Nat => Value.int .i64 (i : Int)) ++ [Value.int .i64 (i : Int)] = (l ++ [i]).map fun i : Nat => Value.int .i64 (i : Int) := by simp
theorem downM_first (x i : Nat) (hi : i < 64) : downM (firstW x ((i : Int) + 1)) < downM (i : Int) := by
  have h1 := firstW_lt x ((i : Int) + 1)
  unfold downM
  by_cases h : firstW x ((i : Int) + 1) < 0
  · rw [if_pos h, if_neg (by omega)]; omega
  · rw [if_neg h, if_neg (by omega)]
    have := firstW_ge (x := x) (k := (i : Int) + 1) (by omega)
    omega
theorem list_c {w0 w : World} {L : List As} {x : Nat} (hx : x < 2 ^ 64) (hs : St w0 L w) (hT : Tab w0) :
    Calls Tryd.prog 14 #[.int .u64 x] w fun e w' => ∃ A cap, e = .returned (.slice A (cntW x) cap) ∧ St w0 (own A (cntW x) cap 3 1 ((listW x).map fun i : Nat => .int .i64 (i : Int)) :: L) w' := by
  have hT' := hT.st hs
  go_enter Tryd.func14, Tryd.ntmps14
  go_wp2_with (first | (go_at_call 15; refine (first_c hx _ _ hT').mono ?_; rintro e w' ⟨rfl, rfl⟩))
  go_loopw [3, 4] (fun v i wr => ∃ k A cap, St w0 (own A (upW x k).length cap 3 1 ((upW x k).map fun i : Nat => .int .i64 (i : Int)) :: L) wr ∧ v = .slice A (upW x k).length cap ∧ ∃ q, i = .int .i64 q ∧ Hid (q = firstW x k)) (fun _ i _ => downM (intOf i))
  case atStart =>
    refine ⟨0, none, 0, ?_, by rw [upW_zero]; rfl, _, rfl, rfl⟩
    rw [upW_zero]
    exact hs.own_nil _ _
  case round =>
    clear hs hT'
    obtain ⟨k, A, cap, hs, rfl, q, rfl, HQ⟩ := hrel
    have hb := firstW_lt x k
    rw [← HQ.out] at hb
    by_cases h : 0 ≤ q
    · obtain ⟨i, rfl⟩ := Int.eq_ofNat_of_zero_le h
      have HN : Hid (upW x ((i : Int) + 1) = upW x k ++ [i]) := by
        have hnx := upW_next (x := x) (k := k) (by rw [← HQ.out]; exact h)
        rw [← HQ.out] at hnx
        exact hnx
      have hle := upW_le x k
      generalize upW x k = l at *
      go_wp2_with (first
        | (go_at_call 15; refine (first_c hx _ _ (hT.st hs)).mono ?_; rintro e w' ⟨rfl, rfl⟩)
        | (refine wpl_build1 elem24 (by decide) rfl rfl hs ?_; clear hs; intro g w hs)
        | (refine wpl_append (B := some ⟨g, 0, none⟩) (news := [.int .i64 (i : Int)]) elem24 rfl rfl hs (Ent.skip (Ent.refl _)) (RdS.blk) rfl (ints_one _) (by unfold maxLen; omega) (by omega) ?_; clear hs; intro A' cap' w hs; replace hs := hs.rot.drop; rw [intv_snoc] at hs))
      go_roundw
      case rel =>
        refine ⟨(i : Int) + 1, A', cap', ?_, ?_, _, rfl, rfl⟩
        · rw [HN.out]; simpa using hs
        · rw [HN.out]; simp
      case measure => exact downM_first x i (by omega)
    · have HA := Lib.hid (upW_all (x := x) (k := k) (by rw [← HQ.out]; omega))
      go_wp2
      go_ret
      refine ⟨A, cap, ?_, ?_⟩
      · show Ending.returned (Value.slice A (upW x k).length cap) = _
        rw [HA.out]; rfl
      · rw [HA.out] at hs; exact hs
theorem results_tmp5 {fn : Func} {t u v x y : Tmp} (h : fn.results = #[.tmp t, .tmp u, .tmp v, .tmp x, .tmp y]) (tmps : Array Value) (P : Program) (w : World) :
    (results fn tmps).run P w = .ok (.tuple #[tmps.getD t undef, tmps.getD u undef, tmps.getD v undef, tmps.getD x undef, tmps.getD y undef]) w := by simp [results, h]
theorem i64_and (a b : Nat) (ha : a < 9223372036854775808) (hb : b < 9223372036854775808) : bits .and .i64 (a : Int) (b : Int) = ((a &&& b : Nat) : Int) := by
  have hx : a &&& b < 2 ^ 63 := Nat.and_lt_two_pow _ (by omega)
  show IntKind.i64.wrap ((BitVec.ofInt 64 (a : Int) &&& BitVec.ofInt 64 (b : Int)).toNat : Int) = _
  rw [BitVec.toNat_and, ofInt_u64 a (by omega), ofInt_u64 b (by omega), IntKind.wrap_i64]
  omega
theorem i64_and63 (a : Nat) (ha : a < 9223372036854775808) : bits .and .i64 (a : Int) 63 = ((a % 64 : Nat) : Int) := by
  rw [show (63 : Int) = ((63 : Nat) : Int) from rfl, i64_and a 63 ha (by omega), nat_mask6]
/-- A number's four digits. -/
theorem split_yes (i : Nat) (hi : i < 16777216) (w : World) : Calls Tryd.prog 18 #[.int .i64 (i : Int)] w fun e w' =>
    e = .returned (.tuple #[.int .i64 ((i % 64 : Nat) : Int), .int .i64 ((i / 64 % 64 : Nat) : Int), .int .i64 ((i / 4096 % 64 : Nat) : Int), .int .i64 ((i / 262144 : Nat) : Int), .bool true]) ∧ w = w' := by
  have h1 := i64_and63 i (by omega)
  have h2 : bits .and .i64 ((i : Int) / 64) 63 = ((i / 64 % 64 : Nat) : Int) := i64_and63 (i / 64) (by omega)
  have h3 : bits .and .i64 ((i : Int) / 4096) 63 = ((i / 4096 % 64 : Nat) : Int) := i64_and63 (i / 4096) (by omega)
  have h4 : (i : Int) / 262144 = ((i / 262144 : Nat) : Int) := by omega
  generalize i % 64 = a at *
  generalize i / 64 % 64 = b at *
  generalize i / 4096 % 64 = c at *
  generalize i / 262144 = d at *
  go_enter Tryd.func18, Tryd.ntmps18
  go_wp2
  refine bodyPost_ret (results_tmp5 rfl _ _ _) rfl ?_
  exact ⟨rfl, rfl⟩
theorem split_no (i : Int) (hi : ¬ (0 ≤ i ∧ i < 16777216)) (w : World) : Calls Tryd.prog 18 #[.int .i64 i] w fun e w' =>
    e = .returned (.tuple #[.int .i64 0, .int .i64 0, .int .i64 0, .int .i64 0, .bool false]) ∧ w = w' := by
  by_cases h : i < 0
  · go_enter Tryd.func18, Tryd.ntmps18
    go_wp2
    refine bodyPost_ret (results_tmp5 rfl _ _ _) rfl ?_
    exact ⟨rfl, rfl⟩
  · have h2 : 16777216 ≤ i := by omega
    go_enter Tryd.func18, Tryd.ntmps18
    go_wp2
    refine bodyPost_ret (results_tmp5 rfl _ _ _) rfl ?_
    exact ⟨rfl, rfl⟩
theorem i64_or (a b : Nat) (ha : a < 9223372036854775808) (hb : b < 9223372036854775808) : bits .or .i64 (a : Int) (b : Int) = ((a ||| b : Nat) : Int) := by
  have hx : a ||| b < 2 ^ 63 := Nat.or_lt_two_pow (by omega) (by omega)
  show IntKind.i64.wrap ((BitVec.ofInt 64 (a : Int) ||| BitVec.ofInt 64 (b : Int)).toNat : Int) = _
  rw [BitVec.toNat_or, ofInt_u64 a (by omega), ofInt_u64 b (by omega), IntKind.wrap_i64]
  omega
theorem or_add {x y i : Nat} (hx : x < 2 ^ i) (hy : y % 2 ^ i = 0) : x ||| y = x + y := by rw [Nat.or_comm, nat_join i y x hy hx, Nat.add_comm]
def digOk (a : Int) : Prop := 0 ≤ a ∧ a < 64
theorem join_arith {a b c d : Int} (ha : digOk a) (hb : digOk b) (hc : digOk c) (hd : digOk d) :
    bits .or .i64 (bits .or .i64 (bits .or .i64 a (b * 64)) (c * 4096)) (d * 262144) = a + 64 * (b + 64 * (c + 64 * d)) := by
  obtain ⟨a1, a2⟩ := ha
  obtain ⟨b1, b2⟩ := hb
  obtain ⟨c1, c2⟩ := hc
  obtain ⟨d1, d2⟩ := hd
  obtain ⟨a, rfl⟩ := Int.eq_ofNat_of_zero_le a1
  obtain ⟨b, rfl⟩ := Int.eq_ofNat_of_zero_le b1
  obtain ⟨c, rfl⟩ := Int.eq_ofNat_of_zero_le c1
  obtain ⟨d, rfl⟩ := Int.eq_ofNat_of_zero_le d1
  rw [show (b : Int) * 64 = ((b * 64 : Nat) : Int) by omega, show (c : Int) * 4096 = ((c * 4096 : Nat) : Int) by omega, show (d : Int) * 262144 = ((d * 262144 : Nat) : Int) by omega,
    i64_or a _ (by omega) (by omega), or_add (i := 6) (show a < 2 ^ 6 by omega) (show b * 64 % 2 ^ 6 = 0 by omega),
    i64_or _ _ (by omega) (by omega), or_add (i := 12) (show a + b * 64 < 2 ^ 12 by omega) (show c * 4096 % 2 ^ 12 = 0 by omega),
    i64_or _ _ (by omega) (by omega), or_add (i := 18) (show a + b * 64 + c * 4096 < 2 ^ 18 by omega) (show d * 262144 % 2 ^ 18 = 0 by omega)]
  omega
def digs (a b c d : Int) : Nat → Int
  | 0 => a
  | 1 => b
  | 2 => c
  | _ => d
theorem ix4 (a b c d : Value) (w : World) : (Instr.index 69 (.agg #[a, b, c, d]) (.int .i64 0)).run Tryd.prog w = .ok a w ∧ (Instr.index 69 (.agg #[a, b, c, d]) (.int .i64 1)).run Tryd.prog w = .ok b w ∧
    (Instr.index 69 (.agg #[a, b, c, d]) (.int .i64 2)).run Tryd.prog w = .ok c w ∧ (Instr.index 69 (.agg #[a, b, c, d]) (.int .i64 3)).run Tryd.prog w = .ok d w :=
  ⟨by kernel_rfl, by kernel_rfl, by kernel_rfl, by kernel_rfl⟩
def JoinPost (a b c d : Int) (w : World) (e : Ending) (w' : World) : Prop :=
  (digOk a ∧ digOk b ∧ digOk c ∧ digOk d → e = .returned (.tuple #[.int .i64 (a + 64 * (b + 64 * (c + 64 * d))), .bool true])) ∧
    (¬ (digOk a ∧ digOk b ∧ digOk c ∧ digOk d) → e = .returned (.tuple #[.int .i64 0, .bool false])) ∧ w = w'
theorem join_c (a b c d : Int) (w : World) : Calls Tryd.prog 19 #[.int .i64 a, .int .i64 b, .int .i64 c, .int .i64 d] w (JoinPost a b c d w) := by
  have ix : ∀ (k : Nat), k < 4 → ∀ w, (Instr.index 69 (.agg #[.int .i64 a, .int .i64 b, .int .i64 c, .int .i64 d]) (.int .i64 (k : Int))).run Tryd.prog w = .ok (.int .i64 (digs a b c d k)) w := by
    intro k hk w
    have h := ix4 (.int .i64 a) (.int .i64 b) (.int .i64 c) (.int .i64 d) w
    match k, hk with
    | 0, _ => exact h.1
    | 1, _ => exact h.2.1
    | 2, _ => exact h.2.2.1
    | 3, _ => exact h.2.2.2
  have IX := Lib.hid ix
  clear ix
  go_enter Tryd.func19, Tryd.ntmps19
  go_wp2
  go_loop [17] (fun i => ∃ k : Nat, k ≤ 4 ∧ i = .int .i64 k ∧ Hid (∀ j, j < k → digOk (digs a b c d j))) (fun i => 4 - (intOf i).toNat)
  case atStart => exact ⟨0, by omega, rfl, fun j hj => by omega⟩
  case round =>
    obtain ⟨k, hk, rfl, HK⟩ := hrel
    by_cases hlt : k < 4
    · have hix := IX.out k hlt
      by_cases h1 : digs a b c d k < 0
      · have hn : ¬ (digOk a ∧ digOk b ∧ digOk c ∧ digOk d) := by
          rintro ⟨x0, x1, x2, x3⟩
          unfold digOk at *
          match k, hlt with
          | 0, _ => simp only [digs] at h1; omega
          | 1, _ => simp only [digs] at h1; omega
          | 2, _ => simp only [digs] at h1; omega
          | 3, _ => simp only [digs] at h1; omega
        have HN := Lib.hid hn
        clear hn
        generalize digs a b c d k = v at *
        go_wp2
        go_ret2
        exact ⟨fun h => absurd h HN.out, fun _ => rfl, rfl⟩
      · by_cases h2 : 64 ≤ digs a b c d k
        · have hn : ¬ (digOk a ∧ digOk b ∧ digOk c ∧ digOk d) := by
            rintro ⟨x0, x1, x2, x3⟩
            unfold digOk at *
            match k, hlt with
            | 0, _ => simp only [digs] at h2; omega
            | 1, _ => simp only [digs] at h2; omega
            | 2, _ => simp only [digs] at h2; omega
            | 3, _ => simp only [digs] at h2; omega
          have HN := Lib.hid hn
          clear hn
          generalize digs a b c d k = v at *
          go_wp2
          go_ret2
          exact ⟨fun h => absurd h HN.out, fun _ => rfl, rfl⟩
        · have HK2 : Hid (∀ j, j < k + 1 → digOk (digs a b c d j)) := by
            intro j hj
            by_cases hjk : j = k
            · subst hjk; exact ⟨by omega, by omega⟩
            · exact HK.out j (by omega)
          generalize digs a b c d k = v at *
          go_wp2
          go_round
          case rel => exact ⟨k + 1, by omega, by go_num, HK2⟩
          case measure => simp [intOf]; omega
    · have hk4 : k = 4 := by omega
      subst hk4
      have d0 := HK.out 0 (by omega)
      have d1 := HK.out 1 (by omega)
      have d2 := HK.out 2 (by omega)
      have d3 := HK.out 3 (by omega)
      simp only [digs] at d0 d1 d2 d3
      have HA := Lib.hid (join_arith d0 d1 d2 d3)
      have HD := Lib.hid (show digOk a ∧ digOk b ∧ digOk c ∧ digOk d from ⟨d0, d1, d2, d3⟩)
      unfold digOk at d0 d1 d2 d3
      obtain ⟨a1, a2⟩ := d0
      obtain ⟨b1, b2⟩ := d1
      obtain ⟨c1, c2⟩ := d2
      obtain ⟨e1, e2⟩ := d3
      clear HK
      go_wp2
      go_ret2
      exact ⟨fun _ => by rw [← HA.out]; rfl, fun h => absurd HD.out h, rfl⟩
end Go.Proofs.YtgdljjpdoocnnaaDoor
