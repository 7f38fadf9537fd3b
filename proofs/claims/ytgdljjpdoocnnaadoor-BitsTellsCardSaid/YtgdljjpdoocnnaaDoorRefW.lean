/-
  The document's words: Of, Has, First.
-/
import Derived.Test.YtgdljjpdoocnnaaDoorBits2
set_option maxRecDepth 100000
namespace Go.Proofs.YtgdljjpdoocnnaaDoor
open Go Go.RowKit
attribute [local irreducible] wpList Calls Code.wp

theorem rof_c {w0 w : World} {L : List As} {A : Option Addr} {zs : List Int} {c : Nat} (hs : St w0 L w) (hr : RdS w0 L A (zs.map (Value.int .i64))) (hl : zs.length ≤ maxLen) :
    Calls Tryd.prog 24 #[.slice A zs.length c] w fun e w' => e = .returned (.int .u64 (allW zs : Nat)) ∧ w = w' := by
  unfold maxLen at hl
  go_enter Tryd.func24, Tryd.ntmps24
  go_wp2
  go_loop [3, 4] (fun x i => ∃ k : Nat, k ≤ zs.length ∧ i = .int .i64 k ∧ x = .int .u64 (allW (zs.take k) : Nat)) (fun _ i => zs.length - (intOf i).toNat)
  case atStart => exact ⟨0, Nat.zero_le _, rfl, rfl⟩
  case round =>
    obtain ⟨k, hk, rfl, rfl⟩ := hrel
    by_cases hlt : k < zs.length
    · obtain ⟨b, o, rfl, hc⟩ := hr.at_ (k := k) (by simpa using hlt)
      have hc := hc w hs
      simp at hc
      have hst := all_step hlt
      generalize zs[k] = z at *
      by_cases h0 : 0 ≤ z
      · by_cases h64 : z < 64
        · have hone : IntKind.u64.wrap (2 ^ z.toNat) = (oneW z : Nat) := oneW_in h0 h64
          go_wp2
          go_round
          case rel => exact ⟨k + 1, by omega, by go_num, rfl⟩
          case measure => simp [intOf] <;> omega
        · have h0' : (0 : Int) = (oneW z : Nat) := oneW_out (by omega)
          have hst2 : allW (zs.take k) = allW (zs.take (k + 1)) := by
            rw [or_u64 _ _ (allW_lt _) (oneW_lt _)] at hst
            have : oneW z = 0 := by omega
            rw [this, Nat.or_zero] at hst
            exact Int.ofNat_inj.1 hst
          have HS := Lib.hid hst2
          clear hst hst2 h0'
          go_wp2
          go_round
          case rel => exact ⟨k + 1, by omega, by go_num, by rw [HS.out]⟩
          case measure => simp [intOf] <;> omega
      · have h0' : (0 : Int) = (oneW z : Nat) := oneW_out (by omega)
        have hst2 : allW (zs.take k) = allW (zs.take (k + 1)) := by
          rw [or_u64 _ _ (allW_lt _) (oneW_lt _)] at hst
          have : oneW z = 0 := by omega
          rw [this, Nat.or_zero] at hst
          exact Int.ofNat_inj.1 hst
        have HS := Lib.hid hst2
        clear hst hst2 h0'
        go_wp2
        go_round
        case rel => exact ⟨k + 1, by omega, by go_num, by rw [HS.out]⟩
        case measure => simp [intOf] <;> omega
    · have he : zs.take k = zs := List.take_of_length_le (by omega)
      have HE := Lib.hid he
      clear he
      go_wp2
      go_ret
      exact ⟨by rw [HE.out]; rfl, rfl⟩
theorem hasW_in {x d : Nat} (hd : d < 64) : hasW x (d : Int) = x.testBit d := by simp [hasW]; omega
theorem hasW_out {x : Nat} {i : Int} (h : ¬ (0 ≤ i ∧ i < 64)) : hasW x i = false := by
  unfold hasW
  by_cases h0 : 0 ≤ i
  · have : ¬ i < 64 := fun h1 => h ⟨h0, h1⟩
    simp [this]
  · simp [h0]
theorem shr_bit {x d : Nat} (hx : x < 2 ^ 64) : bits .and .u64 (((x / 2 ^ d : Nat) : Int)) 1 = (if x.testBit d then 1 else 0 : Nat) := by
  have h1 : x / 2 ^ d < 2 ^ 64 := Nat.lt_of_le_of_lt (Nat.div_le_self _ _) hx
  rw [show (1 : Int) = ((1 : Nat) : Int) by rfl, and_u64 _ _ h1 (by decide), Nat.and_one_is_mod, Nat.testBit_eq_decide_div_mod_eq]
  rcases Nat.mod_two_eq_zero_or_one (x / 2 ^ d) with h | h <;> simp [h]
theorem rhas_c {x : Nat} (hx : x < 2 ^ 64) (i : Int) (w : World) : Calls Tryd.prog 26 #[.int .u64 x, .int .i64 i] w fun e w' => e = .returned (.bool (hasW x i)) ∧ w = w' := by
  by_cases h0 : 0 ≤ i
  · by_cases h64 : i < 64
    · obtain ⟨d, rfl⟩ := Int.eq_ofNat_of_zero_le h0
      have hb := shr_bit (d := d) hx
      rw [show ((x / 2 ^ d : Nat) : Int) = (x : Int) / 2 ^ d by push_cast; rfl] at hb
      have HH := Lib.hid (hasW_in (x := x) (d := d) (by omega))
      cases hbit : x.testBit d
      all_goals
        rw [hbit] at hb HH
        clear hbit
        simp at hb
        go_enter Tryd.func26, Tryd.ntmps26
        go_wp2
        go_ret
        exact ⟨ret_bool HH.out.symm, rfl⟩
    · have HH := Lib.hid (hasW_out (x := x) (i := i) (by omega))
      go_enter Tryd.func26, Tryd.ntmps26
      go_wp2
      go_ret
      exact ⟨ret_bool HH.out.symm, rfl⟩
  · have HH := Lib.hid (hasW_out (x := x) (i := i) (by omega))
    go_enter Tryd.func26, Tryd.ntmps26
    go_wp2
    go_ret
    exact ⟨ret_bool HH.out.symm, rfl⟩
theorem rhas_v {x : Nat} (hx : x < 2 ^ 64) {i : Int} {b : Bool} (h : Hid (hasW x i = b)) (w : World) : Calls Tryd.prog 26 #[.int .u64 x, .int .i64 i] w fun e w' => e = .returned (.bool b) ∧ w = w' := by
  rw [← h.out]; exact rhas_c hx i w
theorem has_v {x : Nat} (hx : x < 2 ^ 64) {i : Int} {b : Bool} (h : Hid (hasW x i = b)) (w : World) : Calls Tryd.prog 25 #[.int .u64 x, .int .i64 i] w fun e w' => e = .returned (.bool b) ∧ w = w' := by
  rw [← h.out]; exact has_c hx i w
/-- Nothing from one on up to another: then the least is the same from there. -/
theorem firstW_from {x : Nat} {f g : Int} (h : f ≤ g) (hn : ∀ j : Nat, f ≤ j → (j : Int) < g → j < 64 → x.testBit j = false) : firstW x f = firstW x g := by
  rcases firstW_cases x g with ⟨k, k'⟩ | ⟨i, k, k1, k2, k3, k4⟩
  · rw [k]; exact firstW_none fun j hj hj2 => by
      by_cases hg : (j : Int) < g
      · exact hn j hj hg hj2
      · exact k' j (by omega) hj2
  · rw [k]; exact firstW_some (by omega) k2 k3 fun j hj hj2 => by
      by_cases hg : (j : Int) < g
      · exact hn j hj hg (by omega)
      · exact k4 j (by omega) hj2
theorem rfirst_c {x : Nat} (hx : x < 2 ^ 64) (f : Int) (w : World) : Calls Tryd.prog 27 #[.int .u64 x, .int .i64 f] w fun e w' => e = .returned (.int .i64 (firstW x f)) ∧ w = w' := by
  obtain ⟨g, hg⟩ : ∃ g, g = max f 0 := ⟨_, rfl⟩
  have HF : Hid (firstW x f = firstW x g) := by rw [Hid, hg]; exact firstW_max x f
  have hmx := hg.symm
  have hg0 : 0 ≤ g := by omega
  clear hg
  go_enter Tryd.func27, Tryd.ntmps27
  go_wp2
  go_loop [5] (fun i => ∃ k : Int, 0 ≤ k ∧ i = .int .i64 k ∧ Hid (firstW x f = firstW x k)) (fun i => (64 - intOf i).toNat)
  case atStart => exact ⟨g, hg0, by first | rfl | rw [hmx], HF⟩
  case round =>
    obtain ⟨k, hk, rfl, HK⟩ := hrel
    clear hmx HF
    by_cases h64 : k < 64
    · obtain ⟨d, rfl⟩ := Int.eq_ofNat_of_zero_le hk
      have hh := hasW_in (x := x) (d := d) (by omega)
      cases hb : x.testBit d
      · rw [hb] at hh
        have HH := Lib.hid hh
        have HN : Hid (firstW x f = firstW x ((d : Int) + 1)) := by
          rw [Hid, HK.out]
          exact firstW_from (by omega) fun j h1 h2 _ => by rw [show j = d by omega, hb]
        clear hb hh
        go_wp2_with (first | (go_at_call 26; refine (rhas_v hx HH _).mono ?_; rintro e w' ⟨rfl, rfl⟩))
        go_round
        case rel => exact ⟨(d : Int) + 1, by omega, by go_num, HN⟩
        case measure => simp [intOf] <;> omega
      · rw [hb] at hh
        have HH := Lib.hid hh
        have HN : Hid (firstW x f = d) := by
          rw [Hid, HK.out]
          exact firstW_some (by omega) (by omega) hb fun j h1 h2 => by omega
        clear hb hh
        go_wp2_with (first | (go_at_call 26; refine (rhas_v hx HH _).mono ?_; rintro e w' ⟨rfl, rfl⟩))
        go_ret
        exact ⟨ret_int HN.out.symm, rfl⟩
    · have HN : Hid (firstW x f = -1) := by rw [Hid, HK.out]; exact firstW_far (by omega)
      go_wp2
      go_ret
      exact ⟨ret_int HN.out.symm, rfl⟩
end Go.Proofs.YtgdljjpdoocnnaaDoor
