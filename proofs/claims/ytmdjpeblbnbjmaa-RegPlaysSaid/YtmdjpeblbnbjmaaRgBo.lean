/-
  RegBounds: the walk.
-/
import Derived.Test.YtmdjpeblbnbjmaaL12
import Derived.Test.YtmdjpeblbnbjmaaSlBo
set_option maxRecDepth 100000
namespace Go.Proofs.Ytmdjpeblbnbjmaa
open Go Go.RowKit
def lo4 (z : Int) : Nat := (z % 16).toNat
theorem lo4_lt (z : Int) : lo4 z < 16 := by unfold lo4; omega
theorem and_15 (z : Int) : bits .and .i64 z 15 = (lo4 z : Nat) := and_m (p := 4) (by decide)
theorem rb_ok {l : List Cmp} (h : l.length < 64) : rgE l ⟨3, 4, 0⟩ = 0 := by
  unfold rgE
  rw [if_pos (by rfl), if_neg (by omega)]
theorem rb_no {l : List Cmp} (h : 64 ≤ l.length) : rgE l ⟨3, 4, 0⟩ = 2 := by
  unfold rgE
  rw [if_pos (by rfl), if_pos h]
attribute [local irreducible] wpList Calls Code.wp okI okN pS tS memS getG pG insS delS getV pV tV okVal newSl SlS.put SlS.err SlS.putU SlS.putB descE SlS.take rgE ofN
theorem rg_slot_v {w0 w : World} {L : List As} {R : Nat} {l : List Cmp} (hs : St w0 (RgB R l :: L) w) {c : Int} {k : Nat} {X : Nat} (hk : Hid (c = (k : Nat))) (hc : Hid ((l[k]?).map (·.1) = some X)) :
    Calls Try.prog 12 #[.pointer (some ⟨R, 0, none⟩), .int .i64 c] w fun e w' => e = .returned (.tuple #[.pointer (some ⟨X, 0, none⟩), .int .i64 0]) ∧ w = w' := by
  rw [hk.out]
  have h := hc.out
  cases hl : l[k]? with
  | none => rw [hl] at h; cases h
  | some x =>
    rw [hl] at h
    simp only [Option.map_some, Option.some.injEq] at h
    exact rg_slot hs hl h
set_option maxHeartbeats 4000000 in
theorem rgbounds_c {w0 : World} (n : Int) : Calls Try.prog 3 #[.int .i64 n] w0 (LawPost w0) := by
  have hs := St.start w0
  have hn := and_15 n
  have hnl := lo4_lt n
  generalize lo4 n = y at *
  go_enter Try.func3, Try.ntmps3
  go_wp2_with (first
    | (go_at_call 10; refine (rg_new hs).mono ?_; clear hs; rintro r w ⟨R, rfl, hs⟩))
  go_loopw [4] (fun cv wr => ∃ (k : Nat) (l : List Cmp), k ≤ y + 58 ∧ cv = .int .i64 (k : Nat) ∧ Hid (l.length = min k 64) ∧ St w0 [RgB R l] wr) (fun cv _ => y + 58 - (intOf cv).toNat)
  case atStart => exact ⟨0, [], Nat.zero_le _, rfl, rfl, hs⟩
  case round =>
    clear hs
    obtain ⟨k, l, hk, rfl, hl, hs⟩ := hrel
    by_cases hlt : k < y + 58
    · by_cases h64 : k < 64
      · have hE := Lib.hid (rb_ok (l := l) (by rw [hl.out]; omega))
        have hL : Hid (l.length = k) := by rw [Hid, hl.out]; omega
        go_wp2_with (first
          | (go_at_call 11; refine (rg_add hs ⟨3, 4, 0⟩ hE hL).mono ?_; clear hs; rintro r w ⟨X, v, F, rfl, hs⟩))
        go_roundw
        case rel => exact ⟨k + 1, _, by omega, by go_num, by rw [Hid, List.length_append, hL.out]; simp; omega, hs⟩
        case measure => simp [intOf] <;> omega
      · have hE := Lib.hid (rb_no (l := l) (by rw [hl.out]; omega))
        go_wp2_with (first
          | (go_at_call 11; refine (rg_add_no hs ⟨3, 4, 0⟩ hE (by decide)).mono ?_; clear hs; rintro r w ⟨rfl, hs⟩))
        go_roundw
        case rel => exact ⟨k + 1, l, by omega, by go_num, by rw [Hid, hl.out]; omega, hs⟩
        case measure => simp [intOf] <;> omega
    · obtain rfl : k = y + 58 := by omega
      obtain ⟨m, hm⟩ : ∃ m : Nat, m = min (y + 58) 64 := ⟨_, rfl⟩
      rw [← hm] at hl
      have hmi : min (((y : Nat) : Int) + 58) 64 = (m : Nat) := by omega
      have hm1 : 1 ≤ m := by omega
      have hm64 : m ≤ 64 := by omega
      obtain ⟨x, hx⟩ : ∃ x, l[m - 1]? = some x := ⟨_, List.getElem?_eq_getElem (by rw [hl.out]; omega)⟩
      have HX : Hid ((l[m - 1]?).map (·.1) = some x.1) := by rw [Hid, hx]; rfl
      have HC : Hid (((m : Nat) : Int) - 1 = ((m - 1 : Nat) : Int)) := by rw [Hid]; omega
      clear hx hm
      go_wp2_with (first
        | (go_at_call 12; refine (rg_slot_no hs (c := -1) (.inl (by decide))).mono ?_; rintro r w ⟨rfl, rfl⟩)
        | (go_at_call 12; refine (rg_slot_no hs (c := ((m : Nat) : Int)) (.inr (by rw [hl.out]; exact Int.le_refl _))).mono ?_; rintro r w ⟨rfl, rfl⟩)
        | (go_at_call 12; refine (rg_slot_v hs (c := ((m : Nat) : Int) - 1) HC HX).mono ?_; rintro r w ⟨rfl, rfl⟩)
        | (go_at_call 13; refine (rg_len hs hl).mono ?_; rintro r w ⟨rfl, rfl⟩)
        | (go_at_call 14; refine awake12.mono ?_; rintro r w ⟨rfl, hg⟩; replace hs := hs.grew hg; clear hg))
      go_ret
      exact ⟨rfl, hs.drop⟩
end Go.Proofs.Ytmdjpeblbnbjmaa
