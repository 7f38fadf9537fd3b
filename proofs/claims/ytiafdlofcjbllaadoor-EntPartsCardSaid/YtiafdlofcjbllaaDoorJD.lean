/-
  XJD: joined of XRrow3 XRrow4 XRrow5.
-/
import Derived.Test.YtiafdlofcjbllaaDoorJG
import Derived.Test.YtiafdlofcjbllaaDoorJK
/-
  The document's rising rows (vivariumref1), 3: Without, List, Word.
-/
set_option maxRecDepth 100000
namespace Go.Proofs.YtiafdlofcjbllaaDoor
open Go Go.RowKit
attribute [local irreducible] wpList Calls Code.wp

/-- A number taken out of a rising row, where it stands. -/
theorem atI_del {S : List Nat} (hS : S.Pairwise (· < ·)) {q k : Nat} (h : AtI S (q : Int) k) (hm : memS S (q : Int) = true) : k < S.length ∧ delS q S = S.take k ++ S.drop (k + 1) := by
  have hx := h.mem hS
  rw [hm] at hx
  cases hk : S[k]? with
  | none => rw [hk] at hx; cases hx
  | some a =>
    rw [hk] at hx
    have ha : a = q := by have : (a : Int) = q := by simpa using hx.symm
                          omega
    subst ha
    obtain ⟨hl, he⟩ := List.getElem?_eq_some_iff.1 hk
    refine ⟨hl, ?_⟩
    have e : S = S.take k ++ (a :: S.drop (k + 1)) := by
      conv => lhs; rw [← List.take_append_drop k S, List.drop_eq_getElem_cons hl, he]
    have hp : (S.take k ++ (a :: S.drop (k + 1))).Pairwise (· < ·) := by rw [← e]; exact hS
    rw [List.pairwise_append, List.pairwise_cons] at hp
    unfold delS
    conv => lhs; rw [e]
    rw [List.filter_append, List.filter_cons]
    simp only [bne_self_eq_false, Bool.false_eq_true, if_false]
    congr 1
    · refine List.filter_eq_self.2 fun b hb => ?_
      have := h.2.1 b hb
      simp only [bne_iff_ne, ne_eq]
      omega
    · refine List.filter_eq_self.2 fun b hb => ?_
      have := hp.2.1.1 b hb
      simp only [bne_iff_ne, ne_eq]
      omega
theorem St.grew0r {w0 w : World} {L : List As} (hs : St w0 L w) : St w0 [] w := (St.start w0).grew hs.below
theorem remS_at {S : List Nat} {i : Nat} (h : i < 16777216) : remS S (i : Int) = delS i S := by unfold remS okN; rw [if_pos (decide_eq_true ⟨by omega, by omega⟩)]; simp
set_option maxHeartbeats 1000000 in
theorem rwithout_in {w0 w : World} {L : List As} {S : List Nat} (hS : S.Pairwise (· < ·)) {A : Option Addr} {n cap : Nat} (hn : S.length = n) (hn2 : n ≤ 4000000000) (hs : St w0 (own A n cap 3 1 (intv S) :: L) w) (q : Nat) (hm : memS S (q : Int) = true) :
    Calls Tryd.prog 14 #[.slice A n cap, .int .i64 (q : Nat)] w fun e w' => ∃ B cap', e = .returned (.slice B (delS q S).length cap') ∧ St w0 (own B (delS q S).length cap' 3 1 (intv (delS q S)) :: L) w' := by
  have hr := RdS.own hs
  have HM := Lib.hid hm
  have HI := Lib.hid (fun k h => atI_del hS (k := k) h hm)
  have HA := Lib.hid (fun f => at_c (cap := cap) hS hn hn2 hs hr f)
  have HN := Lib.hid hn
  have hA := hs.own_addr
  have hnc := hs.own_len.2.1
  have hpos : 0 < n := by
    rw [← hn]
    rcases Nat.eq_zero_or_pos S.length with h0 | h0
    · rw [List.eq_nil_of_length_eq_zero h0] at hm; simp [memS] at hm
    · exact h0
  clear hm hS hn
  rcases hA with ⟨rfl, rfl, rfl⟩ | ⟨g, rfl⟩
  · omega
  go_enter Tryd.func14, Tryd.ntmps14
  go_upto_region 4 with (first
    | (go_at_call 34; refine (HA.out _).mono ?_; rw [HM.out]; rintro e w' ⟨k, rfl, hk, hg⟩; replace hs := hs.grew hg; clear hg))
  obtain ⟨hkn, hdel⟩ := HI.out k hk
  rw [HN.out] at hkn
  have HD := Lib.hid hdel
  have hkl : (S.take k).length = k := by rw [List.length_take, HN.out]; omega
  have hdl : (S.drop (k + 1)).length = n - (k + 1) := by rw [List.length_drop, HN.out]
  have e : intv (delS q S) = intv (S.take k) ++ intv (S.drop (k + 1)) := by rw [HD.out, intv_app]
  have hl : (delS q S).length = k + (n - (k + 1)) := by rw [HD.out, List.length_append, hkl, hdl]
  have HE := Lib.hid e
  have HL := Lib.hid hl
  clear hdel hl e HI HA hk
  by_cases hck : cap = k + 1
  · refine wp_region_plain [true, false, false, false, true, false, false, false, false, true, true] hs.grew0r (by kernel_rfl) (by kernel_rfl) fun hne => ?_
    simp only [pickOps]
    repeat (go_big_quiet_step (fail))
    refine wpQuiet_nil ?_
    clear hne
    simp only [chainIx]
    have hd : S.drop (k + 1) = [] := List.drop_of_length_le (by rw [HN.out]; omega)
    refine wpChainP_next rfl ?_
    refine wpl_build_none elem24 hs.drew ?_
    clear hs
    intro B w hs
    refine wpList_nil ⟨rfl, hs.grew0r, ?_⟩
    refine wpChainP_next rfl ?_
    refine wpl_append (m := k) (news := intv (S.take k)) elem24 rfl rfl hs (Ent.refl _) (hr.tail.take k) (by rw [intv_len, hkl]; omega) (intv_one _) (by unfold maxLen; omega) (by omega) ?_
    clear hs
    intro B2 cap2 w hs
    simp only [List.nil_append, Nat.zero_add] at hs ⊢
    refine wpList_nil ⟨rfl, hs.grew0r, ?_⟩
    refine wpChainP_next rfl ?_
    refine wpl_append (n := k) (m := n - (k + 1)) (B := some ⟨g, 0, none⟩) (news := []) elem24 rfl rfl hs (Ent.refl _) RdS.nil (by simp; omega) nil_one (by unfold maxLen; omega) (by omega) ?_
    clear hs
    intro B4 cap4 w hs
    refine wpList_nil ⟨rfl, hs.grew0r, ?_⟩
    refine wpChain_last rfl ?_
    go_wp2
    go_ret
    exact ⟨B4, cap4, by rw [HL.out]; rfl, by rw [HL.out, HE.out, hd]; exact hs.rot.drop⟩
  · refine wp_region_plain [true, false, false, false, true, false, false, false, false, true, true] hs.grew0r (by kernel_rfl) (by kernel_rfl) fun hne => ?_
    simp only [pickOps]
    repeat (go_big_quiet_step (fail))
    refine wpQuiet_nil ?_
    clear hne
    simp only [chainIx]
    refine wpChainP_next rfl ?_
    refine wpl_build_none elem24 hs.drew ?_
    clear hs
    intro B w hs
    refine wpList_nil ⟨rfl, hs.grew0r, ?_⟩
    refine wpChainP_next rfl ?_
    refine wpl_append (m := k) (news := intv (S.take k)) elem24 rfl rfl hs (Ent.refl _) (hr.tail.take k) (by rw [intv_len, hkl]; omega) (intv_one _) (by unfold maxLen; omega) (by omega) ?_
    clear hs
    intro B2 cap2 w hs
    simp only [List.nil_append, Nat.zero_add] at hs ⊢
    refine wpList_nil ⟨rfl, hs.grew0r, ?_⟩
    refine wpChainP_next rfl ?_
    refine wpl_append (n := k) (m := n - (k + 1)) (B := some ⟨g, k + 1, none⟩) (news := intv (S.drop (k + 1))) elem24 rfl rfl hs (Ent.refl _) (hr.tail.drop (k + 1)) (by rw [intv_len, hdl]; omega) (intv_one _) (by unfold maxLen; omega) (by omega) ?_
    clear hs
    intro B4 cap4 w hs
    refine wpList_nil ⟨rfl, hs.grew0r, ?_⟩
    refine wpChain_last rfl ?_
    go_wp2
    go_ret
    exact ⟨B4, cap4, by rw [HL.out]; rfl, by rw [HL.out, HE.out]; exact hs.rot.drop⟩
theorem rwithout_c {w0 w : World} {L : List As} {S S' : List Nat} (hS : S.Pairwise (· < ·)) (hs2 : ∀ a ∈ S, a < 16777216) {A : Option Addr} {n cap : Nat} (hn : S.length = n) (hn2 : n ≤ 4000000000) (hs : St w0 (own A n cap 3 1 (intv S) :: L) w) {i : Int} (h : Hid (remS S i = S')) :
    Calls Tryd.prog 14 #[.slice A n cap, .int .i64 i] w fun e w' => ∃ B cap', e = .returned (.slice B S'.length cap') ∧ St w0 (own B S'.length cap' 3 1 (intv S') :: L) w' := by
  rw [← h.out]
  clear h
  cases hm : memS S i with
  | true =>
    by_cases ho : 0 ≤ i ∧ i < 16777216
    · obtain ⟨q, rfl⟩ := Int.eq_ofNat_of_zero_le ho.1
      rw [remS_at (by omega)]
      exact rwithout_in hS hn hn2 hs q hm
    · rw [memS_out hs2 ho] at hm; cases hm
  | false =>
    have hid : remS S i = S := by
      unfold remS
      cases hok : okN i with
      | false => rfl
      | true =>
        have ho : 0 ≤ i ∧ i < 16777216 := of_decide_eq_true hok
        obtain ⟨q, rfl⟩ := Int.eq_ofNat_of_zero_le ho.1
        rw [if_pos rfl]
        exact del_id fun hq => by rw [memS_nat.2 (show q ∈ S from hq)] at hm; cases hm
    rw [hid]
    have hr := RdS.own hs
    have HM := Lib.hid hm
    have HA := Lib.hid (fun f => at_c (cap := cap) hS hn hn2 hs hr f)
    have HN := Lib.hid hn
    clear hm hS hn hid
    go_enter Tryd.func14, Tryd.ntmps14
    go_wp2_with (first
      | (go_at_call 34; refine (HA.out _).mono ?_; rw [HM.out]; rintro e w' ⟨k, rfl, hk, hg⟩; replace hs := hs.grew hg; clear hg))
    go_ret
    exact ⟨A, cap, by rw [HN.out]; rfl, by rw [HN.out]; exact hs⟩
end Go.Proofs.YtiafdlofcjbllaaDoor

/-
  The document's rising rows (vivariumref1), 4: List, Word.
-/
set_option maxRecDepth 100000
namespace Go.Proofs.YtiafdlofcjbllaaDoor
open Go Go.RowKit
attribute [local irreducible] wpList Calls Code.wp

theorem St.newly {w : World} : St w [] w := St.start w
end Go.Proofs.YtiafdlofcjbllaaDoor

/-
  The document's rising rows (vivariumref1), 5: Word.
-/
set_option maxRecDepth 100000
namespace Go.Proofs.YtiafdlofcjbllaaDoor
open Go Go.RowKit
attribute [local irreducible] wpList Calls Code.wp

theorem AtI.le {S : List Nat} {f : Int} {k : Nat} (h : AtI S f k) : k ≤ S.length := h.1
theorem wordOf_app (S R : List Nat) (k : Key) : wordOf (S ++ R) k = wordOf S k ||| wordOf R k := by
  unfold wordOf
  rw [List.filter_append, List.map_append, allW_append]
theorem wordOf_off {S : List Nat} {l p : Nat} (h : ∀ a ∈ S, a / 64 ^ (l + 1) ≠ p) : wordOf S (l, p) = 0 := by
  unfold wordOf
  rw [List.filter_eq_nil_iff.2 fun a ha => by simpa using h a ha]
  rfl
theorem word_start {S : List Nat} {l p k : Nat} (h : AtI S ((p * 64 ^ (l + 1) : Nat) : Int) k) : wordOf (S.take k) (l, p) = 0 := wordOf_off fun a ha e => by
  have h1 := h.2.1 a ha
  have h2 : p * 64 ^ (l + 1) ≤ a := by rw [← e]; exact Nat.div_mul_le_self a _
  omega
theorem word_step {S : List Nat} {l p k a : Nat} (ha : S[k]? = some a) (he : a / 64 ^ (l + 1) = p) : wordOf (S.take (k + 1)) (l, p) = wordOf (S.take k) (l, p) ||| oneW ((a / 64 ^ l % 64 : Nat) : Int) := by
  obtain ⟨hk, e⟩ := List.getElem?_eq_some_iff.1 ha
  rw [List.take_succ_eq_append_getElem hk, e, wordOf_app]
  congr 1
  unfold wordOf
  simp [he, allW]
theorem word_stop {S : List Nat} (hS : S.Pairwise (· < ·)) {l p k0 k : Nat} (h : AtI S ((p * 64 ^ (l + 1) : Nat) : Int) k0) (h0 : k0 ≤ k) (hs : ∀ a, S[k]? = some a → a / 64 ^ (l + 1) ≠ p) : wordOf (S.take k) (l, p) = wordOf S (l, p) := by
  conv => rhs; rw [← List.take_append_drop k S, wordOf_app]
  rw [wordOf_off (S := S.drop k), Nat.or_zero]
  intro b hb e
  obtain ⟨j, hj⟩ := List.mem_iff_getElem?.1 hb
  rw [List.getElem?_drop] at hj
  have hjl : k + j < S.length := (List.getElem?_eq_some_iff.1 hj).1
  obtain ⟨a, ha⟩ : ∃ a, S[k]? = some a := ⟨_, List.getElem?_eq_getElem (by omega)⟩
  have h1 := hs a ha
  have h2 := sorted_le hS (show k ≤ k + j by omega) ha hj
  have h3 := h.2.2 a (by
    have : a ∈ S.drop k0 := List.mem_iff_getElem?.2 ⟨k - k0, by rw [List.getElem?_drop, show k0 + (k - k0) = k by omega]; exact ha⟩
    exact this)
  have h4 : p ≤ a / 64 ^ (l + 1) := (Nat.le_div_iff_mul_le (Nat.pow_pos (by decide))).2 (by omega)
  have h5 : a / 64 ^ (l + 1) ≤ b / 64 ^ (l + 1) := Nat.div_le_div_right h2
  omega
theorem dig_and0 {a : Nat} (ha : a < 16777216) : bits .and .i64 (a : Int) 63 = ((a / 64 ^ 0 % 64 : Nat) : Int) := by rw [i64_and63 a (by omega)]; simp
theorem dig_and1 {a : Nat} (ha : a < 16777216) : bits .and .i64 ((a : Int) / 64) 63 = ((a / 64 ^ 1 % 64 : Nat) : Int) := by rw [show (a : Int) / 64 = ((a / 64 : Nat) : Int) by omega, i64_and63 _ (by omega)]
theorem dig_and2 {a : Nat} (ha : a < 16777216) : bits .and .i64 ((a : Int) / 4096) 63 = ((a / 64 ^ 2 % 64 : Nat) : Int) := by rw [show (a : Int) / 4096 = ((a / 4096 : Nat) : Int) by omega, i64_and63 _ (by omega)]
theorem dig_and3 {a : Nat} (ha : a < 16777216) : bits .and .i64 ((a : Int) / 262144) 63 = ((a / 64 ^ 3 % 64 : Nat) : Int) := by rw [show (a : Int) / 262144 = ((a / 262144 : Nat) : Int) by omega, i64_and63 _ (by omega)]
attribute [local irreducible] wordS wordOf memS AtI
end Go.Proofs.YtiafdlofcjbllaaDoor
