/-
  The statements of layer 1: awake; BitsSplits, BitsOrder and their kin: the walks.
-/
import Derived.Test.YtgdljjpdoocnnaaDoorBits2
import Derived.Deep.DeepCutAuto
set_option maxRecDepth 100000
namespace Go.Proofs.YtgdljjpdoocnnaaDoor
open Go Go.RowKit
attribute [local irreducible] wpList Calls Code.wp

theorem ints_cells (l : List Int) : ∀ v ∈ l.map (Value.int .i64), v.cells = #[v] := by
  intro v hv
  obtain ⟨i, _, rfl⟩ := List.mem_map.1 hv
  rfl
theorem awake1_c {w0 w : World} {L : List As} (hs : St w0 L w) (hT : Tab w0) : Calls Tryd.prog 17 #[] w fun e w' => e = .returned (.bool true) ∧ St w0 L w' := by
  have a1 : allW [1, 3] = 10 := by decide
  have a2 : firstW 10 2 = 3 := by decide
  have a3 : lastW 10 = 3 := by decide
  go_enter Tryd.func17, Tryd.ntmps17
  go_wp2_with (first
    | (refine wpl_buildN (vs := [1, 3].map (Value.int .i64)) elem24 rfl rfl (by decide) (by decide) (ints_cells _) hs ?_; intro g w hs2)
    | (go_at_call 23; refine (of_c (zs := [1, 3]) hs2 RdS.blk (by decide)).mono ?_; rintro e w' ⟨rfl, rfl⟩)
    | (go_at_call 18; refine (split_yes 262144 (by decide) _).mono ?_; rintro e w' ⟨rfl, rfl⟩)
    | (go_at_call 15; refine (first_c (x := 10) (by decide) _ _ (hT.st hs2)).mono ?_; rintro e w' ⟨rfl, rfl⟩)
    | (go_at_call 16; refine (last_c (x := 10) (by decide) _).mono ?_; rintro e w' ⟨rfl, rfl⟩))
  go_ret
  exact ⟨rfl, hs2.drop⟩
theorem bad_cases {a b c d : Int} (h : ¬ (digOk a ∧ digOk b ∧ digOk c ∧ digOk d)) : a < 0 ∨ (0 ≤ a ∧ 64 ≤ a) ∨ ((0 ≤ a ∧ a < 64) ∧ b < 0) ∨ ((0 ≤ a ∧ a < 64) ∧ 0 ≤ b ∧ 64 ≤ b) ∨ ((0 ≤ a ∧ a < 64) ∧ (0 ≤ b ∧ b < 64) ∧ c < 0) ∨ ((0 ≤ a ∧ a < 64) ∧ (0 ≤ b ∧ b < 64) ∧ 0 ≤ c ∧ 64 ≤ c) ∨
    ((0 ≤ a ∧ a < 64) ∧ (0 ≤ b ∧ b < 64) ∧ (0 ≤ c ∧ c < 64) ∧ d < 0) ∨ ((0 ≤ a ∧ a < 64) ∧ (0 ≤ b ∧ b < 64) ∧ (0 ≤ c ∧ c < 64) ∧ 0 ≤ d ∧ 64 ≤ d) := by
  unfold digOk at h
  omega
/-- What the second half answers, whatever the first Join was told. -/
def LawPost (w0 : World) (e : Ending) (w' : World) : Prop := e = .returned (.bool true) ∧ St w0 [] w'
/-- What Join answers, as one Bool and one number. -/
theorem join_any (a b c d : Int) : ∃ (jv : Int) (gb : Bool), (∀ w, Calls Tryd.prog 19 #[.int .i64 a, .int .i64 b, .int .i64 c, .int .i64 d] w fun e w' => e = .returned (.tuple #[.int .i64 jv, .bool gb]) ∧ w = w') ∧
    (gb = true → jv = a + 64 * (b + 64 * (c + 64 * d)) ∧ (digOk a ∧ digOk b ∧ digOk c ∧ digOk d)) ∧ (gb = false → jv = 0 ∧ ¬ (digOk a ∧ digOk b ∧ digOk c ∧ digOk d)) := by
  rcases Classical.em (digOk a ∧ digOk b ∧ digOk c ∧ digOk d) with h | h
  · exact ⟨_, true, fun w => (join_c a b c d w).mono fun e w' hj => ⟨hj.1 h, hj.2.2⟩, fun _ => ⟨rfl, h⟩, (fun h' => by cases h')⟩
  · exact ⟨_, false, fun w => (join_c a b c d w).mono fun e w' hj => ⟨hj.2.1 h, hj.2.2⟩, (fun h' => by cases h'), fun _ => ⟨rfl, h⟩⟩
/-- What the law holds of its first two answers: the first half. -/
theorem splits_first (i : Int) : (∃ n : Nat, i = n ∧ n < 16777216) ∨ i < 0 ∨ (0 ≤ i ∧ 16777216 ≤ i) := by
  by_cases h : 0 ≤ i ∧ i < 16777216
  · exact .inl ⟨i.toNat, by omega, by omega⟩
  · omega
set_option maxHeartbeats 1000000 in
theorem splits_in {w0 : World} (hT : Tab w0) (n : Nat) (hn : n < 16777216) (a b c d : Int) : Calls Tryd.prog 4 #[.int .i64 n, .int .i64 a, .int .i64 b, .int .i64 c, .int .i64 d] w0 (LawPost w0) := by
  have hs := St.start w0
  obtain ⟨jv, gb, j2, hg, hb⟩ := join_any a b c d
  have J2 := Lib.hid j2
  have HG := Lib.hid hg
  have HB := Lib.hid hb
  clear j2 hg hb
  have h1 := i64_and63 n (by omega)
  have h2 : bits .and .i64 ((n : Int) / 64) 63 = ((n / 64 % 64 : Nat) : Int) := i64_and63 (n / 64) (by omega)
  have h3 : bits .and .i64 ((n : Int) / 4096) 63 = ((n / 4096 % 64 : Nat) : Int) := i64_and63 (n / 4096) (by omega)
  have h4 : (n : Int) / 262144 = ((n / 262144 : Nat) : Int) := by omega
  have hsp := fun w => split_yes n (by omega) w
  have hj : ((n % 64 : Nat) : Int) + 64 * (((n / 64 % 64 : Nat) : Int) + 64 * (((n / 4096 % 64 : Nat) : Int) + 64 * ((n / 262144 : Nat) : Int))) = (n : Int) := by omega
  have g0 : digOk ((n % 64 : Nat) : Int) := by unfold digOk; omega
  have g1 : digOk ((n / 64 % 64 : Nat) : Int) := by unfold digOk; omega
  have g2 : digOk ((n / 4096 % 64 : Nat) : Int) := by unfold digOk; omega
  have g3 : digOk ((n / 262144 : Nat) : Int) := by unfold digOk; omega
  generalize n % 64 = p0 at *
  generalize n / 64 % 64 = p1 at *
  generalize n / 4096 % 64 = p2 at *
  generalize n / 262144 = p3 at *
  have HSP := Lib.hid hsp
  have j1 : ∀ w, Calls Tryd.prog 19 #[.int .i64 p0, .int .i64 p1, .int .i64 p2, .int .i64 p3] w fun e w' => e = .returned (.tuple #[.int .i64 n, .bool true]) ∧ w = w' := fun w =>
    (join_c _ _ _ _ w).mono fun e w' h => ⟨by rw [h.1 ⟨g0, g1, g2, g3⟩, hj], h.2.2⟩
  have J1 := Lib.hid j1
  have hn2 : (n : Int) < 16777216 := by omega
  clear j1 hsp hj g0 g1 g2 g3 hn
  go_enter Tryd.func4, Tryd.ntmps4
  go_upto_region 10 with (first
    | (go_at_call 18; refine (HSP.out _).mono ?_; rintro e w' ⟨rfl, rfl⟩)
    | (go_at_call 19; refine (J1.out _).mono ?_; rintro e w' ⟨rfl, rfl⟩)
    | (go_at_call 19; refine (J2.out _).mono ?_; rintro e w' ⟨rfl, rfl⟩))
  go_cut [21] (fun g w => g = .bool gb ∧ w0 = w)
  case first =>
    clear h1 h2 h3 h4 hn2
    cases gb
    · have hb2 := bad_cases (HB.out rfl).2
      clear HB HG J1 J2 HSP
      rcases hb2 with h | ⟨h, h'⟩ | ⟨⟨h, h'⟩, k⟩ | ⟨⟨h, h'⟩, k, k'⟩ | ⟨⟨h, h'⟩, ⟨k, k'⟩, l⟩ | ⟨⟨h, h'⟩, ⟨k, k'⟩, l, l'⟩ | ⟨⟨h, h'⟩, ⟨k, k'⟩, ⟨l, l'⟩, m⟩ | ⟨⟨h, h'⟩, ⟨k, k'⟩, ⟨l, l'⟩, m, m'⟩
      all_goals
        go_wp2
        go_meet
        exact ⟨by first | rfl | (exact congrArg Value.bool (decide_eq_false (by omega))), rfl⟩
    · obtain ⟨⟨a1, a2⟩, ⟨b1, b2⟩, ⟨c1, c2⟩, d1, d2⟩ := (HG.out rfl).2
      go_wp2
      go_meet
      exact ⟨by first | rfl | (exact congrArg Value.bool (decide_eq_true (by omega))), rfl⟩
  case rest =>
    obtain ⟨rfl, rfl⟩ := hcut
    cases gb
    · have e := (HB.out rfl).1
      subst e
      go_wp2_with (first | (go_at_call 17; refine (awake1_c hs hT).mono ?_; rintro e w' ⟨rfl, hs2⟩))
      go_ret
      exact ⟨rfl, hs2⟩
    · obtain ⟨e, ⟨a1, a2⟩, ⟨b1, b2⟩, ⟨c1, c2⟩, d1, d2⟩ := HG.out rfl
      subst e
      go_wp2_with (first | (go_at_call 17; refine (awake1_c hs hT).mono ?_; rintro e w' ⟨rfl, hs2⟩))
      go_ret
      exact ⟨rfl, hs2⟩
set_option maxHeartbeats 1000000 in
theorem splits_out {w0 : World} (hT : Tab w0) (i : Int) (hi : i < 0 ∨ (0 ≤ i ∧ 16777216 ≤ i)) (a b c d : Int) : Calls Tryd.prog 4 #[.int .i64 i, .int .i64 a, .int .i64 b, .int .i64 c, .int .i64 d] w0 (LawPost w0) := by
  have hs := St.start w0
  obtain ⟨jv, gb, j2, hg, hb⟩ := join_any a b c d
  have J2 := Lib.hid j2
  have HG := Lib.hid hg
  have HB := Lib.hid hb
  clear j2 hg hb
  have HSP := Lib.hid fun w => split_no i (by omega) w
  rcases hi with hi | ⟨hi, hi2⟩
  all_goals
    go_enter Tryd.func4, Tryd.ntmps4
    go_upto_region 10 with (first
      | (go_at_call 18; refine (HSP.out _).mono ?_; rintro e w' ⟨rfl, rfl⟩)
      | (go_at_call 19; refine (J2.out _).mono ?_; rintro e w' ⟨rfl, rfl⟩))
    go_cut [21] (fun g w => g = .bool gb ∧ w0 = w)
    case first =>
      cases gb
      · have hb2 := bad_cases (HB.out rfl).2
        rcases hb2 with h | ⟨h, h'⟩ | ⟨⟨h, h'⟩, k⟩ | ⟨⟨h, h'⟩, k, k'⟩ | ⟨⟨h, h'⟩, ⟨k, k'⟩, l⟩ | ⟨⟨h, h'⟩, ⟨k, k'⟩, l, l'⟩ | ⟨⟨h, h'⟩, ⟨k, k'⟩, ⟨l, l'⟩, m⟩ | ⟨⟨h, h'⟩, ⟨k, k'⟩, ⟨l, l'⟩, m, m'⟩
        all_goals
          go_wp2
          go_meet
          exact ⟨by first | rfl | (exact congrArg Value.bool (decide_eq_false (by omega))), rfl⟩
      · obtain ⟨⟨a1, a2⟩, ⟨b1, b2⟩, ⟨c1, c2⟩, d1, d2⟩ := (HG.out rfl).2
        go_wp2
        go_meet
        exact ⟨by first | rfl | (exact congrArg Value.bool (decide_eq_true (by omega))), rfl⟩
    case rest =>
      obtain ⟨rfl, rfl⟩ := hcut
      cases gb
      · have e := (HB.out rfl).1
        subst e
        go_wp2_with (first | (go_at_call 17; refine (awake1_c hs hT).mono ?_; rintro e w' ⟨rfl, hs2⟩))
        go_ret
        exact ⟨rfl, hs2⟩
      · obtain ⟨e, ⟨a1, a2⟩, ⟨b1, b2⟩, ⟨c1, c2⟩, d1, d2⟩ := HG.out rfl
        subst e
        go_wp2_with (first | (go_at_call 17; refine (awake1_c hs hT).mono ?_; rintro e w' ⟨rfl, hs2⟩))
        go_ret
        exact ⟨rfl, hs2⟩
theorem splits_c {w0 : World} (hT : Tab w0) (i a b c d : Int) : Calls Tryd.prog 4 #[.int .i64 i, .int .i64 a, .int .i64 b, .int .i64 c, .int .i64 d] w0 (LawPost w0) := by
  rcases splits_first i with ⟨n, rfl, hn⟩ | h
  · exact splits_in hT n hn a b c d
  · exact splits_out hT i h a b c d
end Go.Proofs.YtgdljjpdoocnnaaDoor
