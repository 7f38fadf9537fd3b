/-
  The document's rising rows (vivariumref1), 5: Word.
-/
import Derived.Test.YtkcbjkadalebjaaRrow4
import Derived.Test.YtkcbjkadalebjaaHwd
set_option maxRecDepth 100000
namespace Go.Proofs.Ytkcbjkadalebjaa
open Go Go.RowKit
attribute [local irreducible] wpList Calls Code.wp

theorem AtI.le {S : List Nat} {f : Int} {k : Nat} (h : AtI S f k) : k ≤ S.length := h.1
theorem wordOf_app (S R : List Nat) (k : Key) : wordOf (S ++ R) k = wordOf S k ||| wordOf R k := by
  unfold wordOf
  rw [List.filter_append, List.map_append, allW_append]
theorem wordOf_off {S : List Nat} {l p : Nat} (h : ∀ a ∈ S, a / 64 ^ (l + 1) ≠ p) : wordOf S (l, p) = 0 := by
  unfold wordOf
  rw [List.filter_eq_nil_iff.2 fun a ha => by simpa using h a ha]
  rfl
theorem word_start {S : List Nat} {l p k : Nat} (h : AtI S ((p * 64 ^ (l + 1) : Nat) : Int) k) : wordOf (S.take k) (l, p) = 0 := wordOf_off fun a ha e => by
  have h1 := h.2.1 a ha
  have h2 : p * 64 ^ (l + 1) ≤ a := by rw [← e]; exact Nat.div_mul_le_self a _
  omega
theorem word_step {S : List Nat} {l p k a : Nat} (ha : S[k]? = some a) (he : a / 64 ^ (l + 1) = p) : wordOf (S.take (k + 1)) (l, p) = wordOf (S.take k) (l, p) ||| oneW ((a / 64 ^ l % 64 : Nat) : Int) := by
  obtain ⟨hk, e⟩ := List.getElem?_eq_some_iff.1 ha
  rw [List.take_succ_eq_append_getElem hk, e, wordOf_app]
  congr 1
  unfold wordOf
  simp [he, allW]
theorem word_stop {S : List Nat} (hS : S.Pairwise (· < ·)) {l p k0 k : Nat} (h : AtI S ((p * 64 ^ (l + 1) : Nat) : Int) k0) (h0 : k0 ≤ k) (hs : ∀ a, S[k]? = some a → a / 64 ^ (l + 1) ≠ p) : wordOf (S.take k) (l, p) = wordOf S (l, p) := by
  conv => rhs; rw [← List.take_append_drop k S, wordOf_app]
  rw [wordOf_off (S := S.drop k), Nat.or_zero]
  intro b hb e
  obtain ⟨j, hj⟩ := List.mem_iff_getElem?.1 hb
  rw [List.getElem?_drop] at hj
  have hjl : k + j < S.length := (List.getElem?_eq_some_iff.1 hj).1
  obtain ⟨a, ha⟩ : ∃ a, S[k]? = some a := ⟨_, List.getElem?_eq_getElem (by omega)⟩
  have h1 := hs a ha
  have h2 := sorted_le hS (show k ≤ k + j by omega) ha hj
  have h3 := h.2.2 a (by
    have : a ∈ S.drop k0 := List.mem_iff_getElem?.2 ⟨k - k0, by rw [List.getElem?_drop, show k0 + (k - k0) = k by omega]; exact ha⟩
    exact this)
  have h4 : p ≤ a / 64 ^ (l + 1) := (Nat.le_div_iff_mul_le (Nat.pow_pos (by decide))).2 (by omega)
  have h5 : a / 64 ^ (l + 1) ≤ b / 64 ^ (l + 1) := Nat.div_le_div_right h2
  omega
theorem width_c (l : Nat) (hl : l < 4) (w : World) : Calls Try.prog 60 #[.int .i64 (l : Nat)] w fun e w' => e = .returned (.int .i64 ((64 ^ (3 - l) : Nat) : Int)) ∧ w = w' := by
  match l, hl with
  | 0, _ => go_enter Try.func60, Try.ntmps60
            go_wp2
            go_ret
            exact ⟨rfl, rfl⟩
  | 1, _ => go_enter Try.func60, Try.ntmps60
            go_wp2
            go_ret
            exact ⟨rfl, rfl⟩
  | 2, _ => go_enter Try.func60, Try.ntmps60
            go_wp2
            go_ret
            exact ⟨rfl, rfl⟩
  | 3, _ => go_enter Try.func60, Try.ntmps60
            go_wp2
            go_ret
            exact ⟨rfl, rfl⟩
theorem width_out (l : Int) (hl : l < 0 ∨ 3 < l) (w : World) : Calls Try.prog 60 #[.int .i64 l] w fun e w' => e = .returned (.int .i64 0) ∧ w = w' := by
  rcases hl with h | h
  · go_enter Try.func60, Try.ntmps60
    go_wp2
    go_ret
    exact ⟨rfl, rfl⟩
  · go_enter Try.func60, Try.ntmps60
    go_wp2
    go_ret
    exact ⟨rfl, rfl⟩
theorem dig_and0 {a : Nat} (ha : a < 16777216) : bits .and .i64 (a : Int) 63 = ((a / 64 ^ 0 % 64 : Nat) : Int) := by rw [i64_and63 a (by omega)]; simp
theorem dig_and1 {a : Nat} (ha : a < 16777216) : bits .and .i64 ((a : Int) / 64) 63 = ((a / 64 ^ 1 % 64 : Nat) : Int) := by rw [show (a : Int) / 64 = ((a / 64 : Nat) : Int) by omega, i64_and63 _ (by omega)]
theorem dig_and2 {a : Nat} (ha : a < 16777216) : bits .and .i64 ((a : Int) / 4096) 63 = ((a / 64 ^ 2 % 64 : Nat) : Int) := by rw [show (a : Int) / 4096 = ((a / 4096 : Nat) : Int) by omega, i64_and63 _ (by omega)]
theorem dig_and3 {a : Nat} (ha : a < 16777216) : bits .and .i64 ((a : Int) / 262144) 63 = ((a / 64 ^ 3 % 64 : Nat) : Int) := by rw [show (a : Int) / 262144 = ((a / 262144 : Nat) : Int) by omega, i64_and63 _ (by omega)]
attribute [local irreducible] wordS wordOf memS AtI
set_option maxHeartbeats 1000000 in
theorem rword_in {w0 w : World} {L : List As} {S : List Nat} (hS : S.Pairwise (· < ·)) (hs2 : ∀ a ∈ S, a < 16777216) {A : Option Addr} {n cap : Nat} (hn : S.length = n) (hn2 : n ≤ 4000000000) (hs : St w0 L w) (hr : RdS w0 L A (intv S)) : ∀ (l p : Nat), l < 4 → p < 64 ^ (3 - l) →
    Calls Try.prog 56 #[.slice A n cap, .int .i64 (l : Nat), .int .i64 (p : Nat)] w fun e w' => e = .returned (.int .u64 (wordS S l p : Nat)) ∧ Grew w w'
  | 0, p, hl, hp => by
    have hpN : p < 262144 := by omega
    have HW : Hid (wordS S ((0 : Nat) : Int) (p : Int) = wordOf S (0, p)) := by
      have hpB : (p : Int) < 262144 := by omega
      rw [Hid, wordS, if_pos ⟨by decide, by decide, Int.natCast_nonneg p, by simpa using hpB⟩]; rfl
    have HA := Lib.hid (at_c (cap := cap) hS hn hn2 hs hr ((p * 64 ^ (0 + 1) : Nat) : Int))
    have HM : Hid (((p * 64 ^ (0 + 1) : Nat) : Int) = (p : Int) * 64) := by rw [Hid]; omega
    have HS := Lib.hid hS
    have HN := Lib.hid hn
    have HLt := Lib.hid hs2
    clear hS hn hp hs2
    rw [HM.out] at HA
    go_enter Try.func56, Try.ntmps56
    go_wp2_with (first
      | (go_at_call 60; refine (width_c 0 (by decide) _).mono ?_; rintro e w' ⟨rfl, rfl⟩)
      | (go_at_call 59; refine HA.out.mono ?_; rintro e w' ⟨k0, rfl, hk, hg0⟩; rw [← HM.out] at hk; have hk0 := hk.le; rw [HN.out] at hk0; have HK := Lib.hid hk; clear HA hk))
    go_loopw [7, 9] (fun xv kv wr => ∃ k x : Nat, k0 ≤ k ∧ k ≤ n ∧ x < 2 ^ 64 ∧ xv = .int .u64 (x : Nat) ∧ kv = .int .i64 (k : Nat) ∧ Hid (wordOf (S.take k) (0, p) = x) ∧ Grew w wr) (fun _ kv _ => n - (intOf kv).toNat)
    case atStart => exact ⟨k0, 0, Nat.le_refl _, hk0, by decide, rfl, rfl, word_start HK.out, hg0⟩
    case round =>
      clear hg0
      obtain ⟨k, x, hk1, hk2, hx64, rfl, rfl, HX, hg⟩ := hrel
      by_cases hlt : k < n
      · obtain ⟨a, ha⟩ : ∃ a, S[k]? = some a := ⟨_, List.getElem?_eq_getElem (by rw [HN.out]; omega)⟩
        have HA := Lib.hid ha
        obtain ⟨b, o, rfl, hc⟩ := hr.get (intv_get ha)
        have hc := hc _ (hs.grew hg)
        have ha2 : a < 16777216 := HLt.out a (List.mem_of_getElem? ha)
        clear ha
        by_cases hap : a / 64 = p
        · obtain ⟨d, hd, hd2⟩ : ∃ d : Nat, bits .and .i64 ((a : Int)) 63 = ((d : Nat) : Int) ∧ a / 64 ^ 0 % 64 = d := ⟨_, dig_and0 ha2, rfl⟩
          have hd64 : d < 64 := by omega
          have hsh : IntKind.u64.wrap (2 ^ d) = ((oneW (d : Nat) : Nat) : Int) := oneW_in (i := (d : Int)) (by omega) (by omega)
          have hor := or_u64 x (oneW (d : Int)) hx64 (oneW_lt _)
          have HX2 : Hid (wordOf (S.take (k + 1)) (0, p) = x ||| oneW (d : Int)) := by
            rw [Hid, word_step HA.out (by simpa using hap), HX.out, hd2]
          have HX3 : Hid (x ||| oneW (d : Int) < 2 ^ 64) := by rw [Hid, ← HX2.out]; exact wordOf_lt _ _
          generalize oneW (d : Int) = y at hsh hor HX2 HX3
          generalize x ||| y = z at hor HX2 HX3
          have hap2 : (a : Int) / 64 = (p : Int) := by omega
          clear hap hd2 HX
          go_wp2
          go_roundw
          case rel => exact ⟨k + 1, z, by omega, by omega, HX3.out, rfl, by go_num, HX2, hg⟩
          case measure => simp [intOf] <;> omega
        · have HX2 := Lib.hid (word_stop HS.out HK.out hk1 fun b hb => by rw [HA.out] at hb; injection hb with hb; subst hb; simpa using hap)
          rw [HX.out] at HX2
          have hap2 : ¬ (a : Int) / 64 = (p : Int) := by omega
          clear hap HX HK HA
          go_wp2
          all_goals
            go_ret
            exact ⟨by rw [HW.out, ← HX2.out]; rfl, hg⟩
      · have HX2 := Lib.hid (word_stop HS.out HK.out hk1 fun b hb => by have := (List.getElem?_eq_some_iff.1 hb).1; rw [HN.out] at this; omega)
        rw [HX.out] at HX2
        clear HX HK
        go_wp2
        go_ret
        exact ⟨by rw [HW.out, ← HX2.out]; rfl, hg⟩
  | 1, p, hl, hp => by
    have hpN : p < 4096 := by omega
    have HW : Hid (wordS S ((1 : Nat) : Int) (p : Int) = wordOf S (1, p)) := by
      have hpB : (p : Int) < 4096 := by omega
      rw [Hid, wordS, if_pos ⟨by decide, by decide, Int.natCast_nonneg p, by simpa using hpB⟩]; rfl
    have HA := Lib.hid (at_c (cap := cap) hS hn hn2 hs hr ((p * 64 ^ (1 + 1) : Nat) : Int))
    have HM : Hid (((p * 64 ^ (1 + 1) : Nat) : Int) = (p : Int) * 4096) := by rw [Hid]; omega
    have HS := Lib.hid hS
    have HN := Lib.hid hn
    have HLt := Lib.hid hs2
    clear hS hn hp hs2
    rw [HM.out] at HA
    go_enter Try.func56, Try.ntmps56
    go_wp2_with (first
      | (go_at_call 60; refine (width_c 1 (by decide) _).mono ?_; rintro e w' ⟨rfl, rfl⟩)
      | (go_at_call 59; refine HA.out.mono ?_; rintro e w' ⟨k0, rfl, hk, hg0⟩; rw [← HM.out] at hk; have hk0 := hk.le; rw [HN.out] at hk0; have HK := Lib.hid hk; clear HA hk))
    go_loopw [7, 9] (fun xv kv wr => ∃ k x : Nat, k0 ≤ k ∧ k ≤ n ∧ x < 2 ^ 64 ∧ xv = .int .u64 (x : Nat) ∧ kv = .int .i64 (k : Nat) ∧ Hid (wordOf (S.take k) (1, p) = x) ∧ Grew w wr) (fun _ kv _ => n - (intOf kv).toNat)
    case atStart => exact ⟨k0, 0, Nat.le_refl _, hk0, by decide, rfl, rfl, word_start HK.out, hg0⟩
    case round =>
      clear hg0
      obtain ⟨k, x, hk1, hk2, hx64, rfl, rfl, HX, hg⟩ := hrel
      by_cases hlt : k < n
      · obtain ⟨a, ha⟩ : ∃ a, S[k]? = some a := ⟨_, List.getElem?_eq_getElem (by rw [HN.out]; omega)⟩
        have HA := Lib.hid ha
        obtain ⟨b, o, rfl, hc⟩ := hr.get (intv_get ha)
        have hc := hc _ (hs.grew hg)
        have ha2 : a < 16777216 := HLt.out a (List.mem_of_getElem? ha)
        clear ha
        by_cases hap : a / 4096 = p
        · obtain ⟨d, hd, hd2⟩ : ∃ d : Nat, bits .and .i64 ((a : Int) / 64) 63 = ((d : Nat) : Int) ∧ a / 64 ^ 1 % 64 = d := ⟨_, dig_and1 ha2, rfl⟩
          have hd64 : d < 64 := by omega
          have hsh : IntKind.u64.wrap (2 ^ d) = ((oneW (d : Nat) : Nat) : Int) := oneW_in (i := (d : Int)) (by omega) (by omega)
          have hor := or_u64 x (oneW (d : Int)) hx64 (oneW_lt _)
          have HX2 : Hid (wordOf (S.take (k + 1)) (1, p) = x ||| oneW (d : Int)) := by
            rw [Hid, word_step HA.out (by simpa using hap), HX.out, hd2]
          have HX3 : Hid (x ||| oneW (d : Int) < 2 ^ 64) := by rw [Hid, ← HX2.out]; exact wordOf_lt _ _
          generalize oneW (d : Int) = y at hsh hor HX2 HX3
          generalize x ||| y = z at hor HX2 HX3
          have hap2 : (a : Int) / 4096 = (p : Int) := by omega
          clear hap hd2 HX
          go_wp2
          go_roundw
          case rel => exact ⟨k + 1, z, by omega, by omega, HX3.out, rfl, by go_num, HX2, hg⟩
          case measure => simp [intOf] <;> omega
        · have HX2 := Lib.hid (word_stop HS.out HK.out hk1 fun b hb => by rw [HA.out] at hb; injection hb with hb; subst hb; simpa using hap)
          rw [HX.out] at HX2
          have hap2 : ¬ (a : Int) / 4096 = (p : Int) := by omega
          clear hap HX HK HA
          go_wp2
          all_goals
            go_ret
            exact ⟨by rw [HW.out, ← HX2.out]; rfl, hg⟩
      · have HX2 := Lib.hid (word_stop HS.out HK.out hk1 fun b hb => by have := (List.getElem?_eq_some_iff.1 hb).1; rw [HN.out] at this; omega)
        rw [HX.out] at HX2
        clear HX HK
        go_wp2
        go_ret
        exact ⟨by rw [HW.out, ← HX2.out]; rfl, hg⟩
  | 2, p, hl, hp => by
    have hpN : p < 64 := by omega
    have HW : Hid (wordS S ((2 : Nat) : Int) (p : Int) = wordOf S (2, p)) := by
      have hpB : (p : Int) < 64 := by omega
      rw [Hid, wordS, if_pos ⟨by decide, by decide, Int.natCast_nonneg p, by simpa using hpB⟩]; rfl
    have HA := Lib.hid (at_c (cap := cap) hS hn hn2 hs hr ((p * 64 ^ (2 + 1) : Nat) : Int))
    have HM : Hid (((p * 64 ^ (2 + 1) : Nat) : Int) = (p : Int) * 262144) := by rw [Hid]; omega
    have HS := Lib.hid hS
    have HN := Lib.hid hn
    have HLt := Lib.hid hs2
    clear hS hn hp hs2
    rw [HM.out] at HA
    go_enter Try.func56, Try.ntmps56
    go_wp2_with (first
      | (go_at_call 60; refine (width_c 2 (by decide) _).mono ?_; rintro e w' ⟨rfl, rfl⟩)
      | (go_at_call 59; refine HA.out.mono ?_; rintro e w' ⟨k0, rfl, hk, hg0⟩; rw [← HM.out] at hk; have hk0 := hk.le; rw [HN.out] at hk0; have HK := Lib.hid hk; clear HA hk))
    go_loopw [7, 9] (fun xv kv wr => ∃ k x : Nat, k0 ≤ k ∧ k ≤ n ∧ x < 2 ^ 64 ∧ xv = .int .u64 (x : Nat) ∧ kv = .int .i64 (k : Nat) ∧ Hid (wordOf (S.take k) (2, p) = x) ∧ Grew w wr) (fun _ kv _ => n - (intOf kv).toNat)
    case atStart => exact ⟨k0, 0, Nat.le_refl _, hk0, by decide, rfl, rfl, word_start HK.out, hg0⟩
    case round =>
      clear hg0
      obtain ⟨k, x, hk1, hk2, hx64, rfl, rfl, HX, hg⟩ := hrel
      by_cases hlt : k < n
      · obtain ⟨a, ha⟩ : ∃ a, S[k]? = some a := ⟨_, List.getElem?_eq_getElem (by rw [HN.out]; omega)⟩
        have HA := Lib.hid ha
        obtain ⟨b, o, rfl, hc⟩ := hr.get (intv_get ha)
        have hc := hc _ (hs.grew hg)
        have ha2 : a < 16777216 := HLt.out a (List.mem_of_getElem? ha)
        clear ha
        by_cases hap : a / 262144 = p
        · obtain ⟨d, hd, hd2⟩ : ∃ d : Nat, bits .and .i64 ((a : Int) / 4096) 63 = ((d : Nat) : Int) ∧ a / 64 ^ 2 % 64 = d := ⟨_, dig_and2 ha2, rfl⟩
          have hd64 : d < 64 := by omega
          have hsh : IntKind.u64.wrap (2 ^ d) = ((oneW (d : Nat) : Nat) : Int) := oneW_in (i := (d : Int)) (by omega) (by omega)
          have hor := or_u64 x (oneW (d : Int)) hx64 (oneW_lt _)
          have HX2 : Hid (wordOf (S.take (k + 1)) (2, p) = x ||| oneW (d : Int)) := by
            rw [Hid, word_step HA.out (by simpa using hap), HX.out, hd2]
          have HX3 : Hid (x ||| oneW (d : Int) < 2 ^ 64) := by rw [Hid, ← HX2.out]; exact wordOf_lt _ _
          generalize oneW (d : Int) = y at hsh hor HX2 HX3
          generalize x ||| y = z at hor HX2 HX3
          have hap2 : (a : Int) / 262144 = (p : Int) := by omega
          clear hap hd2 HX
          go_wp2
          go_roundw
          case rel => exact ⟨k + 1, z, by omega, by omega, HX3.out, rfl, by go_num, HX2, hg⟩
          case measure => simp [intOf] <;> omega
        · have HX2 := Lib.hid (word_stop HS.out HK.out hk1 fun b hb => by rw [HA.out] at hb; injection hb with hb; subst hb; simpa using hap)
          rw [HX.out] at HX2
          have hap2 : ¬ (a : Int) / 262144 = (p : Int) := by omega
          clear hap HX HK HA
          go_wp2
          all_goals
            go_ret
            exact ⟨by rw [HW.out, ← HX2.out]; rfl, hg⟩
      · have HX2 := Lib.hid (word_stop HS.out HK.out hk1 fun b hb => by have := (List.getElem?_eq_some_iff.1 hb).1; rw [HN.out] at this; omega)
        rw [HX.out] at HX2
        clear HX HK
        go_wp2
        go_ret
        exact ⟨by rw [HW.out, ← HX2.out]; rfl, hg⟩
  | 3, p, hl, hp => by
    have hpN : p < 1 := by omega
    have HW : Hid (wordS S ((3 : Nat) : Int) (p : Int) = wordOf S (3, p)) := by
      have hpB : (p : Int) < 1 := by omega
      rw [Hid, wordS, if_pos ⟨by decide, by decide, Int.natCast_nonneg p, by simpa using hpB⟩]; rfl
    have HA := Lib.hid (at_c (cap := cap) hS hn hn2 hs hr ((p * 64 ^ (3 + 1) : Nat) : Int))
    have HM : Hid (((p * 64 ^ (3 + 1) : Nat) : Int) = (p : Int) * 16777216) := by rw [Hid]; omega
    have HS := Lib.hid hS
    have HN := Lib.hid hn
    have HLt := Lib.hid hs2
    clear hS hn hp hs2
    rw [HM.out] at HA
    go_enter Try.func56, Try.ntmps56
    go_wp2_with (first
      | (go_at_call 60; refine (width_c 3 (by decide) _).mono ?_; rintro e w' ⟨rfl, rfl⟩)
      | (go_at_call 59; refine HA.out.mono ?_; rintro e w' ⟨k0, rfl, hk, hg0⟩; rw [← HM.out] at hk; have hk0 := hk.le; rw [HN.out] at hk0; have HK := Lib.hid hk; clear HA hk))
    go_loopw [7, 9] (fun xv kv wr => ∃ k x : Nat, k0 ≤ k ∧ k ≤ n ∧ x < 2 ^ 64 ∧ xv = .int .u64 (x : Nat) ∧ kv = .int .i64 (k : Nat) ∧ Hid (wordOf (S.take k) (3, p) = x) ∧ Grew w wr) (fun _ kv _ => n - (intOf kv).toNat)
    case atStart => exact ⟨k0, 0, Nat.le_refl _, hk0, by decide, rfl, rfl, word_start HK.out, hg0⟩
    case round =>
      clear hg0
      obtain ⟨k, x, hk1, hk2, hx64, rfl, rfl, HX, hg⟩ := hrel
      by_cases hlt : k < n
      · obtain ⟨a, ha⟩ : ∃ a, S[k]? = some a := ⟨_, List.getElem?_eq_getElem (by rw [HN.out]; omega)⟩
        have HA := Lib.hid ha
        obtain ⟨b, o, rfl, hc⟩ := hr.get (intv_get ha)
        have hc := hc _ (hs.grew hg)
        have ha2 : a < 16777216 := HLt.out a (List.mem_of_getElem? ha)
        clear ha
        by_cases hap : a / 16777216 = p
        · obtain ⟨d, hd, hd2⟩ : ∃ d : Nat, bits .and .i64 ((a : Int) / 262144) 63 = ((d : Nat) : Int) ∧ a / 64 ^ 3 % 64 = d := ⟨_, dig_and3 ha2, rfl⟩
          have hd64 : d < 64 := by omega
          have hsh : IntKind.u64.wrap (2 ^ d) = ((oneW (d : Nat) : Nat) : Int) := oneW_in (i := (d : Int)) (by omega) (by omega)
          have hor := or_u64 x (oneW (d : Int)) hx64 (oneW_lt _)
          have HX2 : Hid (wordOf (S.take (k + 1)) (3, p) = x ||| oneW (d : Int)) := by
            rw [Hid, word_step HA.out (by simpa using hap), HX.out, hd2]
          have HX3 : Hid (x ||| oneW (d : Int) < 2 ^ 64) := by rw [Hid, ← HX2.out]; exact wordOf_lt _ _
          generalize oneW (d : Int) = y at hsh hor HX2 HX3
          generalize x ||| y = z at hor HX2 HX3
          have hap2 : (a : Int) / 16777216 = (p : Int) := by omega
          clear hap hd2 HX
          go_wp2
          go_roundw
          case rel => exact ⟨k + 1, z, by omega, by omega, HX3.out, rfl, by go_num, HX2, hg⟩
          case measure => simp [intOf] <;> omega
        · have HX2 := Lib.hid (word_stop HS.out HK.out hk1 fun b hb => by rw [HA.out] at hb; injection hb with hb; subst hb; simpa using hap)
          rw [HX.out] at HX2
          have hap2 : ¬ (a : Int) / 16777216 = (p : Int) := by omega
          clear hap HX HK HA
          go_wp2
          all_goals
            go_ret
            exact ⟨by rw [HW.out, ← HX2.out]; rfl, hg⟩
      · have HX2 := Lib.hid (word_stop HS.out HK.out hk1 fun b hb => by have := (List.getElem?_eq_some_iff.1 hb).1; rw [HN.out] at this; omega)
        rw [HX.out] at HX2
        clear HX HK
        go_wp2
        go_ret
        exact ⟨by rw [HW.out, ← HX2.out]; rfl, hg⟩
  | _ + 4, _, hl, _ => by omega
theorem rword_out {w : World} {A : Option Addr} {n cap : Nat} {level at_ : Int} (h : ¬ (0 ≤ level ∧ level < 4 ∧ 0 ≤ at_ ∧ at_ < 64 ^ (3 - level.toNat))) :
    Calls Try.prog 56 #[.slice A n cap, .int .i64 level, .int .i64 at_] w fun e w' => e = .returned (.int .u64 0) ∧ Grew w w' := by
  by_cases h1 : at_ < 0
  · clear h
    go_enter Try.func56, Try.ntmps56
    go_wp2
    go_ret
    exact ⟨rfl, Grew.refl w⟩
  · by_cases h2 : level < 0 ∨ 3 < level
    · have HC := Lib.hid (width_out level h2)
      clear h h2
      go_enter Try.func56, Try.ntmps56
      go_wp2_with (first
        | (go_at_call 60; refine (HC.out _).mono ?_; rintro e w' ⟨rfl, rfl⟩))
      go_ret
      exact ⟨rfl, Grew.refl w⟩
    · obtain ⟨l, rfl⟩ := Int.eq_ofNat_of_zero_le (show 0 ≤ level by omega)
      have hl : l < 4 := by omega
      have hw : ((64 ^ (3 - l) : Nat) : Int) ≤ at_ := by
        refine Int.not_lt.1 fun h3 => h ⟨by omega, by omega, by omega, ?_⟩
        rw [Int.toNat_natCast]
        simpa using h3
      have HC := Lib.hid (width_c l hl)
      clear h h2
      generalize 64 ^ (3 - l) = M at hw HC
      go_enter Try.func56, Try.ntmps56
      go_wp2_with (first
        | (go_at_call 60; refine (HC.out _).mono ?_; rintro e w' ⟨rfl, rfl⟩))
      go_ret
      exact ⟨rfl, Grew.refl w⟩
/-- A word of a rising row: any level, any place. -/
theorem rword_c {w0 w : World} {L : List As} {S : List Nat} (hS : S.Pairwise (· < ·)) (hs2 : ∀ a ∈ S, a < 16777216) {A : Option Addr} {n cap : Nat} (hn : S.length = n) (hn2 : n ≤ 4000000000) (hs : St w0 L w) (hr : RdS w0 L A (intv S)) {level at_ : Int} {x : Nat} (h : Hid (wordS S level at_ = x)) :
    Calls Try.prog 56 #[.slice A n cap, .int .i64 level, .int .i64 at_] w fun e w' => e = .returned (.int .u64 (x : Nat)) ∧ Grew w w' := by
  rw [← h.out]
  by_cases hin : 0 ≤ level ∧ level < 4 ∧ 0 ≤ at_ ∧ at_ < 64 ^ (3 - level.toNat)
  · obtain ⟨h1, h2, h3, h4⟩ := hin
    obtain ⟨l, rfl⟩ := Int.eq_ofNat_of_zero_le h1
    obtain ⟨p, rfl⟩ := Int.eq_ofNat_of_zero_le h3
    rw [Int.toNat_natCast] at h4
    exact rword_in hS hs2 hn hn2 hs hr l p (by omega) (by
      have h5 : ((p : Nat) : Int) < ((64 ^ (3 - l) : Nat) : Int) := by simpa using h4
      omega)
  · rw [wordS_out hin]
    exact rword_out hin
end Go.Proofs.Ytkcbjkadalebjaa
