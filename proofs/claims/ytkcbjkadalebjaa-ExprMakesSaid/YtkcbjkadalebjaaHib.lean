/-
  The contracts of a set's functions: digit, ok, at, Has, Len.
-/
import Derived.Test.YtkcbjkadalebjaaHset
import Derived.Test.YtkcbjkadalebjaaBitA
import Derived.Test.YtkcbjkadalebjaaRegion
set_option maxRecDepth 100000
namespace Go.Proofs.Ytkcbjkadalebjaa
open Go Go.RowKit
attribute [local irreducible] wpList Calls Code.wp

theorem ok_c (i : Int) (w : World) : Calls Try.prog 37 #[.int .i64 i] w fun e w' => e = .returned (.bool (decide (0 ≤ i ∧ i < 16777216))) ∧ w = w' := by
  go_enter Try.func37, Try.ntmps37
  by_cases h0 : 0 ≤ i
  · by_cases h1 : i < 16777216
    · go_wp2
      go_ret
      exact ⟨ret_bool (by simp [h0, h1]), rfl⟩
    · go_wp2
      go_ret
      exact ⟨ret_bool (by rw [Bool.eq_iff_iff]; simp; omega), rfl⟩
  · go_wp2
    go_ret
    exact ⟨ret_bool (by rw [Bool.eq_iff_iff]; simp; omega), rfl⟩
/-- A number's digit of a level; its place in a level. -/
def dig (i l : Nat) : Nat := i / 64 ^ l % 64
def plc (i l : Nat) : Nat := i / 64 ^ (l + 1)
theorem dig_lt (i l : Nat) : dig i l < 64 := Nat.mod_lt _ (by decide)
theorem plc_next (i l : Nat) : 64 * plc i (l + 1) + dig i (l + 1) = plc i l := by
  unfold plc dig
  rw [div_next i (l + 1)]
  omega
theorem plc_3 {i : Nat} (h : i < 16777216) : plc i 3 = 0 := by unfold plc; omega
theorem digit_c (i l : Nat) (hi : i < 9223372036854775808) (hl : l ≤ 3) (w : World) : Calls Try.prog 39 #[.int .i64 i, .int .i64 (l : Nat)] w fun e w' => e = .returned (.int .i64 (dig i l : Nat)) ∧ w = w' := by
  have hi2 : (i : Int) < 9223372036854775808 := by omega
  match l, hl with
  | 0, _ =>
    have h : bits .and .i64 (i : Int) 63 = (dig i 0 : Nat) := by rw [i64_and63 i hi]; simp [dig]
    clear hi
    go_enter Try.func39, Try.ntmps39
    go_wp2
    go_ret
    exact ⟨rfl, rfl⟩
  | 1, _ =>
    have h : bits .and .i64 ((i : Int) / 64) 63 = (dig i 1 : Nat) := by rw [show (i : Int) / 64 = ((i / 64 : Nat) : Int) by omega, i64_and63 _ (by omega)]; simp [dig]
    clear hi
    go_enter Try.func39, Try.ntmps39
    go_wp2
    go_ret
    exact ⟨rfl, rfl⟩
  | 2, _ =>
    have h : bits .and .i64 ((i : Int) / 4096) 63 = (dig i 2 : Nat) := by rw [show (i : Int) / 4096 = ((i / 4096 : Nat) : Int) by omega, i64_and63 _ (by omega)]; simp [dig]
    clear hi
    go_enter Try.func39, Try.ntmps39
    go_wp2
    go_ret
    exact ⟨rfl, rfl⟩
  | 3, _ =>
    have h : bits .and .i64 ((i : Int) / 262144) 63 = (dig i 3 : Nat) := by rw [show (i : Int) / 262144 = ((i / 262144 : Nat) : Int) by omega, i64_and63 _ (by omega)]; simp [dig]
    clear hi
    go_enter Try.func39, Try.ntmps39
    go_wp2
    go_ret
    exact ⟨rfl, rfl⟩
theorem Fits.none_down {T : Nat} {S : List Nat} {ks : List Key} {G : Key → Option Nat} {W : Key → Nat} (hf : Fits T S ks G W) {i l m : Nat} (hlm : l < m) (hm : m ≤ 3) (hi : i < 16777216) (h : G (m, plc i m) = none) : G (l, plc i l) = none := by
  refine Classical.byContradiction fun hno => ?_
  have hw := (hf.there (l, plc i l) (by simp only; omega)).1 hno
  obtain ⟨j, hj, h2⟩ := wordOf_ne.1 hw
  have h3 : ∀ n, l + n ≤ 3 → j / 64 ^ (l + n + 1) = plc i (l + n) := by
    intro n
    induction n with
    | zero => intro _; exact h2
    | succ n ih =>
      intro hn
      have := ih (by omega)
      unfold plc at this ⊢
      rw [← Nat.add_assoc, div_next j (l + n + 1), div_next i (l + n + 1), this]
  have h4 := h3 (m - l) (by omega)
  rw [show l + (m - l) = m by omega] at h4
  by_cases hm3 : m = 3
  · subst hm3
    rw [plc_3 hi, hf.top] at h
    cases h
  · exact (hf.there (m, plc i m) (by simp only; omega)).2 (wordOf_ne.2 ⟨j, hj, h4⟩) h
def ptrV (o : Option Nat) : Value := .pointer (o.map fun g => ⟨g, 0, none⟩)
theorem kid_next {G : Key → Option Nat} {i m : Nat} : kidV G (m + 1) (plc i (m + 1)) (dig i (m + 1)) = ptrV (G (m, plc i m)) := by
  unfold kidV ptrV
  rw [if_neg (Nat.succ_ne_zero m), Nat.add_sub_cancel, plc_next]
/-- What the set's functions lean on: the table opened, shut again. -/
theorem St.hopen {w0 w : World} {T : Nat} {S : List Nat} {L : List As} (hs : St w0 (HSet T S :: L) w) : ∃ ks G W, Fits T S ks G W ∧ St w0 (tbl ks G W S.length :: L) w := by
  obtain ⟨hb, h, r, hd, hu, a, b, hab, rfl, ⟨ks, G, W, hf, ht⟩, hl⟩ := hs
  exact ⟨ks, G, W, hf, hb, _, r, hd, hu, a, b, hab, rfl, ht, hl⟩
theorem St.hshut {w0 w : World} {T : Nat} {S : List Nat} {ks : List Key} {G : Key → Option Nat} {W : Key → Nat} {L : List As} (hf : Fits T S ks G W) (hs : St w0 (tbl ks G W S.length :: L) w) : St w0 (HSet T S :: L) w :=
  hs.conv fun _ h => ⟨ks, G, W, hf, h⟩
theorem at_g {w0 w : World} {L : List As} {T : Nat} {S : List Nat} {ks : List Key} {G : Key → Option Nat} {W : Key → Nat} {n : Nat} (hf : Fits T S ks G W) (hs : St w0 (tbl ks G W n :: L) w) (i l : Nat) (hi : i < 16777216) (hl : l ≤ 3) :
    Calls Try.prog 38 #[.pointer (some ⟨T, 0, none⟩), .int .i64 i, .int .i64 (l : Nat)] w fun e w' => e = .returned (ptrV (G (l, plc i l))) ∧ Grew w w' := by
  have htop : ptrV (G (3, plc i 3)) = .pointer (some ⟨T, 0, none⟩) := by rw [plc_3 hi, hf.top]; rfl
  go_enter Try.func38, Try.ntmps38
  go_wp2
  go_loopw [7, 8] (fun nd lv wr => ∃ m : Nat, l ≤ m ∧ m ≤ 3 ∧ lv = .int .i64 m ∧ Hid (nd = ptrV (G (m, plc i m))) ∧ Grew w wr) (fun _ lv _ => (intOf lv).toNat)
  case atStart => exact ⟨3, hl, by omega, rfl, htop.symm, Grew.refl _⟩
  case round =>
    obtain ⟨m, h1, h2, rfl, HN, hg⟩ := hrel
    by_cases hm : l < m
    · cases hgm : G (m, plc i m) with
      | none =>
        have hv : u7 = .pointer none := by rw [HN.out, hgm]; rfl
        subst hv
        have HE : Hid (Ending.returned (.pointer none) = .returned (ptrV (G (l, plc i l)))) := by rw [Hid, hf.none_down hm h2 hi hgm]; rfl
        clear HN hgm htop
        go_wp2
        go_ret
        exact ⟨HE.out, hg⟩
      | some g =>
        have hv : u7 = .pointer (some ⟨g, 0, none⟩) := by rw [HN.out, hgm]; rfl
        subst hv
        obtain ⟨m, rfl⟩ : ∃ k, m = k + 1 := ⟨m - 1, by omega⟩
        have hk := (hf.mem _).2 (by rw [hgm]; exact Option.some_ne_none g)
        have hc := Rd.tbl_kid (w0 := w0) (L := L) (W := W) (n := n) hk hgm (dig_lt i (m + 1))
        rw [kid_next] at hc
        have hd := dig_lt i (m + 1)
        have HD := Lib.hid fun w => digit_c i (m + 1) (by omega) h2 w
        obtain ⟨d, hdd⟩ : ∃ d, d = dig i (m + 1) := ⟨_, rfl⟩
        rw [← hdd] at hc hd HD
        obtain ⟨v, HV⟩ : ∃ v, Hid (v = ptrV (G (m, plc i m))) := ⟨_, rfl⟩
        rw [← HV.out] at hc
        clear HN hgm htop hk hdd
        go_wp2
        refine wp_region_grow (by kernel_rfl) (by kernel_rfl) fun hne => ?_
        replace hc := hc.gall (hs.grew hg)
        repeat (go_big_quiet_step ((first
          | (go_at_call 39; exact in_gsame (HD.out _)))))
        refine wpQuiet_nil ?_
        clear hne hc
        intro u hu
        replace hg := hg.trans hu
        clear hu
        go_wp2
        go_roundw
        case rel => exact ⟨m, by omega, by omega, by go_num, HV, hg⟩
        case measure => simp [intOf] <;> omega
    · obtain rfl : m = l := by omega
      have HE : Hid (Ending.returned u7 = .returned (ptrV (G (m, plc i m)))) := by rw [Hid, HN.out]
      clear HN htop
      go_wp2
      go_ret
      exact ⟨HE.out, hg⟩
/-- Is a number in the set? -/
def memS (S : List Nat) (i : Int) : Bool := S.any fun a => (a : Int) == i
theorem memS_nat {S : List Nat} {i : Nat} : memS S (i : Int) = true ↔ i ∈ S := by
  unfold memS
  rw [List.any_eq_true]
  constructor
  · rintro ⟨a, ha, h⟩
    have h2 : (a : Int) = i := by simpa using h
    have : a = i := by omega
    exact this ▸ ha
  · intro h
    exact ⟨i, h, by simp⟩
theorem memS_out {S : List Nat} {i : Int} (hS : ∀ a ∈ S, a < 16777216) (h : ¬ (0 ≤ i ∧ i < 16777216)) : memS S i = false := by
  unfold memS
  rw [List.any_eq_false]
  intro a ha h2
  have := hS a ha
  have h3 : (a : Int) = i := by simpa using h2
  omega
theorem has_bit {S : List Nat} {i : Nat} : hasW (wordOf S (0, plc i 0)) (dig i 0 : Nat) = memS S (i : Int) := by
  have hd := dig_lt i 0
  rw [Bool.eq_iff_iff, memS_nat, show hasW (wordOf S (0, plc i 0)) (dig i 0 : Nat) = (wordOf S (0, plc i 0)).testBit (dig i 0) by simp [hasW]; omega, bit_wordOf _ _ _ _ hd]
  have e : 64 * plc i 0 + dig i 0 = i := by unfold plc dig; omega
  rw [e]
  simp
theorem at_v {w0 w : World} {L : List As} {T : Nat} {S : List Nat} {ks : List Key} {G : Key → Option Nat} {W : Key → Nat} {n : Nat} (hf : Fits T S ks G W) (hs : St w0 (tbl ks G W n :: L) w) (i l : Nat) (hi : i < 16777216) (hl : l ≤ 3) {v : Value} (hv : Hid (ptrV (G (l, plc i l)) = v)) :
    Calls Try.prog 38 #[.pointer (some ⟨T, 0, none⟩), .int .i64 i, .int .i64 (l : Nat)] w fun e w' => e = .returned v ∧ Grew w w' := by
  rw [← hv.out]; exact at_g hf hs i l hi hl
theorem has_g {w0 w : World} {L : List As} {T : Nat} {S : List Nat} (hs : St w0 (HSet T S :: L) w) (i : Int) :
    Calls Try.prog 18 #[.pointer (some ⟨T, 0, none⟩), .int .i64 i] w fun e w' => e = .returned (.bool (memS S i)) ∧ Grew w w' := by
  obtain ⟨ks, G, W, hf, hs⟩ := hs.hopen
  by_cases hi : 0 ≤ i ∧ i < 16777216
  · obtain ⟨h0, h1⟩ := hi
    obtain ⟨i, rfl⟩ := Int.eq_ofNat_of_zero_le h0
    have hi : i < 16777216 := by omega
    have HB := Lib.hid (has_bit (S := S) (i := i))
    have HF := Lib.hid hf
    have HOK : Hid (decide ((0 : Int) ≤ (i : Int) ∧ (i : Int) < 16777216) = true) := by rw [Hid]; simp; omega
    have HD := Lib.hid fun w => digit_c i 0 (by omega) (by omega) w
    cases hg : G (0, plc i 0) with
    | none =>
      have HV : Hid (ptrV (G (0, plc i 0)) = .pointer none) := by rw [Hid, hg]; rfl
      have HR : Hid (memS S (i : Int) = false) := by
        rw [Hid, ← HB.out]
        have : wordOf S (0, plc i 0) = 0 := Classical.byContradiction fun h => (hf.there (0, plc i 0) (by simp only; omega)).2 h hg
        rw [this]
        simp [hasW]
      clear HB hg hf h0 h1
      go_enter Try.func18, Try.ntmps18
      go_wp2_with (first
        | (go_at_call 37; refine (ok_c _ _).mono ?_; rw [HOK.out]; rintro e w' ⟨rfl, rfl⟩)
        | (go_at_call 38; refine (at_v HF.out hs i 0 hi (by decide) HV).mono ?_; rintro e w' ⟨rfl, hg'⟩))
      refine wp_region_grow (by kernel_rfl) (by kernel_rfl) fun hne => ?_
      repeat (go_big_quiet_step (fail))
      refine wpQuiet_nil ?_
      clear hne
      intro u hu
      replace hg' := hg'.trans hu
      go_wp2
      go_ret
      exact ⟨ret_bool HR.out.symm, hg'⟩
    | some g =>
      have HV : Hid (ptrV (G (0, plc i 0)) = .pointer (some ⟨g, 0, none⟩)) := by rw [Hid, hg]; rfl
      have hk := (hf.mem _).2 (by rw [hg]; exact Option.some_ne_none g)
      have hr := Rd.tbl_word (w0 := w0) (L := L) (W := W) (n := S.length) hk hg
      have hw : W (0, plc i 0) = wordOf S (0, plc i 0) := hf.word (0, plc i 0) (by simp only; omega)
      rw [hw] at hr
      have hx := wordOf_lt S (0, plc i 0)
      generalize wordOf S (0, plc i 0) = x at *
      generalize dig i 0 = d at *
      clear hw hg hf h0 h1
      go_enter Try.func18, Try.ntmps18
      go_wp2_with (first
        | (go_at_call 37; refine (ok_c _ _).mono ?_; rw [HOK.out]; rintro e w' ⟨rfl, rfl⟩)
        | (go_at_call 38; refine (at_v HF.out hs i 0 hi (by decide) HV).mono ?_; rintro e w' ⟨rfl, hg'⟩))
      refine wp_region_grow (by kernel_rfl) (by kernel_rfl) fun hne => ?_
      have hc := hr.gall (hs.grew hg')
      repeat (go_big_quiet_step ((first
        | (go_at_call 39; exact in_gsame (HD.out _))
        | (go_at_call 36; exact in_gsame (has_v hx HB _)))))
      refine wpQuiet_nil ?_
      clear hne hc
      intro u hu
      replace hg' := hg'.trans hu
      go_wp2
      go_ret
      exact ⟨rfl, hg'⟩
  · have HOK : Hid (decide (0 ≤ i ∧ i < 16777216) = false) := decide_eq_false hi
    have HR := Lib.hid (memS_out hf.small hi)
    go_enter Try.func18, Try.ntmps18
    go_wp2_with (first
      | (go_at_call 37; refine (ok_c _ _).mono ?_; rw [HOK.out]; rintro e w' ⟨rfl, rfl⟩))
    go_ret
    exact ⟨ret_bool HR.out.symm, Grew.refl _⟩
theorem has_s {w0 w : World} {L : List As} {T : Nat} {S : List Nat} (hs : St w0 (HSet T S :: L) w) {i : Int} {b : Bool} (h : Hid (memS S i = b)) :
    Calls Try.prog 18 #[.pointer (some ⟨T, 0, none⟩), .int .i64 i] w fun e w' => e = .returned (.bool b) ∧ St w0 (HSet T S :: L) w' := by
  rw [← h.out]; exact (has_g hs i).mono fun _ _ ⟨h1, h2⟩ => ⟨h1, hs.grew h2⟩
theorem has_h {w0 w : World} {L : List As} {T : Nat} {S : List Nat} (hs : St w0 (HSet T S :: L) w) (i : Int) :
    Calls Try.prog 18 #[.pointer (some ⟨T, 0, none⟩), .int .i64 i] w fun e w' => e = .returned (.bool (memS S i)) ∧ St w0 (HSet T S :: L) w' :=
  (has_g hs i).mono fun _ _ ⟨h1, h2⟩ => ⟨h1, hs.grew h2⟩
end Go.Proofs.Ytkcbjkadalebjaa
