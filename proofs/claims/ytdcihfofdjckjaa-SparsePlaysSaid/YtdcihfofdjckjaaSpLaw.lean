/-
  The statements of values at their places: what the document fixes (awake).
-/
import Derived.Test.YtdcihfofdjckjaaSp
import Derived.Test.YtdcihfofdjckjaaFrame
set_option maxRecDepth 100000
namespace Go.Proofs.Ytdcihfofdjckjaa
open Go Go.RowKit
attribute [local irreducible] wpList Calls Code.wp

theorem sp_put_v {w0 w : World} {L : List As} {D T : Nat} {S : List Nat} {vs : List V3} (hs : St w0 (SpB D T S vs :: L) w) {i : Int} {v u : V3} {b : Bool} {S' : List Nat} {vs' : List V3} (hu : Hid (getV S vs i = u)) (hb : Hid (memS S i = b)) (hS : Hid (pS S i = S')) (hV : Hid (pV vs i v = vs')) :
    Calls Try.prog 8 #[.pointer (some ⟨D, 0, none⟩), .int .i64 i, val3 v] w fun e w' => e = .returned (.tuple #[val3 u, .bool b]) ∧ St w0 (SpB D T S' vs' :: L) w' := by
  rw [← hu.out, ← hb.out, ← hS.out, ← hV.out]; exact sp_put hs i v
theorem sp_len_v {w0 w : World} {L : List As} {D T : Nat} {S : List Nat} {vs : List V3} (hs : St w0 (SpB D T S vs :: L) w) {n : Nat} (h : Hid (S.length = n)) :
    Calls Try.prog 10 #[.pointer (some ⟨T, 0, none⟩)] w fun e w' => e = .returned (.int .i64 (n : Nat)) ∧ w = w' := by
  rw [← h.out]; exact sp_len hs
theorem sp_room_v {w0 w : World} {L : List As} {D T : Nat} {S : List Nat} {vs : List V3} (hs : St w0 (SpB D T S vs :: L) w) {n : Nat} (h : Hid (vs.length = n)) :
    Calls Try.prog 11 #[.pointer (some ⟨D, 0, none⟩)] w fun e w' => e = .returned (.int .i64 (n : Nat)) ∧ w = w' := by
  rw [← h.out]; exact sp_roomN hs
theorem awake8_a : pS [] 5 = [5] := by decide
theorem awake8_up : up 1 5 = 8 := by rw [up_step (by decide) (by decide), up_step (by decide) (by decide), up_step (by decide) (by decide), up_stop (by decide)]
theorem awake8_room : roomV [] 5 = List.replicate 8 V3.z := by
  show [] ++ List.replicate (up (max 0 1) 5 - 0) V3.z = _
  rw [show max 0 1 = 1 from rfl, awake8_up]
  rfl
theorem awake8_b : pV [] 5 ⟨1, 7, 0⟩ = [V3.z, V3.z, V3.z, V3.z, V3.z, ⟨1, 7, 0⟩, V3.z, V3.z] := by
  show (roomV [] 5).set 5 _ = _
  rw [awake8_room]
  rfl
theorem awake8 (w : World) : Calls Try.prog 12 #[] w fun e w' => e = .returned (.bool true) ∧ Grew w w' := by
  have hs := St.start w
  have H1 := Lib.hid awake8_a
  have H2 := Lib.hid awake8_b
  have H3 : Hid (getV [] [] 5 = V3.z) := rfl
  have H4 : Hid (memS [] 5 = false) := rfl
  have H5 : Hid (getV [5] [V3.z, V3.z, V3.z, V3.z, V3.z, ⟨1, 7, 0⟩, V3.z, V3.z] 5 = ⟨1, 7, 0⟩) := by rw [Hid]; decide
  have H6 : Hid (memS [5] 5 = true) := rfl
  have H7 : Hid ([5].length = 1) := rfl
  have H8 : Hid ([V3.z, V3.z, V3.z, V3.z, V3.z, ⟨1, 7, 0⟩, V3.z, V3.z].length = 8) := rfl
  go_enter Try.func12, Try.ntmps12
  go_wp2_with (first
    | (go_at_call 7; refine (sp_new hs).mono ?_; clear hs; rintro e w1 ⟨D, T, rfl, hs⟩)
    | (go_at_call 8; refine (sp_put_v (v := ⟨1, 7, 0⟩) hs H3 H4 H1 H2).mono ?_; clear hs; rintro e w1 ⟨rfl, hs⟩)
    | (go_at_call 9; refine (sp_get_v hs H5 H6).mono ?_; rintro e w' ⟨rfl, hg⟩; replace hs := hs.grew hg; clear hg)
    | (refine wpl_alloc zero3 hs ?_; clear hs; intro g2 w2 hs)
    | (refine wpl_store_agg (v := val3 ⟨1, 7, 0⟩) rfl rfl (size3 _) hs WrA.slot3 ?_; clear hs; intro w3 hs; have hc1 := Rd.spb hs.rot; have hc2 := (Rd.blk (w0 := w) (g := g2) (k := 1) (cs := (c3 ⟨1, 7, 0⟩).toArray) (t := 26) (v := .int .i64 7) (L := [SpB D T _ _]) rfl) w3 hs)
    | (go_at_call 10; refine (sp_len_v hs.rot H7).mono ?_; rintro e w' ⟨rfl, rfl⟩)
    | (go_at_call 11; refine (sp_room_v hs.rot H8).mono ?_; rintro e w' ⟨rfl, rfl⟩))
  go_ret
  exact ⟨rfl, hs.made_grew⟩

/-! ### SparseRoom -/
def kx (z : Int) : Nat := (z % 65536).toNat
theorem kx_lt (z : Int) : kx z < 65536 := by unfold kx; omega
theorem and_ffff (z : Int) : bits .and .i64 z 65535 = (kx z : Nat) := by
  show IntKind.i64.wrap ((BitVec.ofInt 64 z &&& BitVec.ofInt 64 65535).toNat : Int) = _
  rw [BitVec.toNat_and, show (BitVec.ofInt 64 65535).toNat = 2 ^ 16 - 1 by decide, Nat.and_two_pow_sub_one_eq_mod, BitVec.toNat_ofInt, IntKind.wrap_i64]
  unfold kx
  omega
theorem up_half (i : Nat) : ∀ (f n : Nat), i + 1 - n ≤ f → 0 < n → up n i = n ∨ up n i / 2 ≤ i
  | 0, n, hf, _ => .inl (up_stop (by omega))
  | f + 1, n, hf, h0 => by
    by_cases h : n ≤ i
    · rw [up_step h0 h]
      rcases up_half i f (n * 2) (by omega) (by omega) with h1 | h1
      · rw [h1]; exact .inr (by omega)
      · exact .inr h1
    · exact .inl (up_stop h)
/-- Room behind what was put: the greatest of it m. -/
def RoomP (m N : Nat) : Prop := m < N ∧ N / 2 ≤ m ∧ N ≤ 65536 ∧ ∃ j, N = 2 ^ j
theorem roomP_put {m N k : Nat} {S : List Nat} {vs : List V3} (hok : SpOk S vs) (hl : vs.length = N) (h : (N = 0 ∧ m = 0) ∨ RoomP m N) (hk : k < 65536) : RoomP (max m k) (up (max N 1) k) := by
  subst hl
  obtain ⟨h1, h2, h3, h4⟩ := hok.up hk
  refine ⟨?_, ?_, h3, h4⟩
  · rcases h with ⟨h5, h6⟩ | ⟨h5, _⟩ <;> omega
  · rcases up_half k _ (max vs.length 1) (Nat.le_refl _) (by omega) with h5 | h5
    · rw [h5]
      rcases h with ⟨h6, h7⟩ | ⟨_, h6, _⟩
      · omega
      · omega
    · omega
theorem pow_and {N : Nat} (h : ∃ j, N = 2 ^ j) (hN : N ≤ 65536) : bits .and .i64 (N : Int) ((N : Int) - 1) = 0 := by
  obtain ⟨j, rfl⟩ := h
  have h0 : 0 < 2 ^ j := Nat.pow_pos (by decide)
  rw [show ((2 ^ j : Nat) : Int) - 1 = ((2 ^ j - 1 : Nat) : Int) by omega, i64_and _ _ (by omega) (by omega), Nat.and_two_pow_sub_one_eq_mod, Nat.mod_self]
  rfl

def RoomI (vs : List V3) (m N : Nat) : Prop := vs.length = N ∧ ((N = 0 ∧ m = 0) ∨ RoomP m N)
def LawPost8 (w0 : World) (e : Ending) (w' : World) : Prop := e = .returned (.bool true) ∧ St w0 [] w'
theorem sp_put_e {w0 w : World} {L : List As} {D T : Nat} {S : List Nat} {vs : List V3} (hs : St w0 (SpB D T S vs :: L) w) {i : Int} {v : V3} {S' : List Nat} {vs' : List V3} (hS : Hid (pS S i = S')) (hV : Hid (pV vs i v = vs')) :
    Calls Try.prog 8 #[.pointer (some ⟨D, 0, none⟩), .int .i64 i, val3 v] w fun e w' => ∃ u b, e = .returned (.tuple #[val3 u, .bool b]) ∧ St w0 (SpB D T S' vs' :: L) w' :=
  (sp_put hs i v).mono fun _ _ ⟨h1, h2⟩ => ⟨_, _, h1, by rw [← hS.out, ← hV.out]; exact h2⟩
theorem sp_take_e {w0 w : World} {L : List As} {D T : Nat} {S : List Nat} {vs : List V3} (hs : St w0 (SpB D T S vs :: L) w) {i : Int} {S' : List Nat} {vs' : List V3} (hS : Hid (tS S i = S')) (hV : Hid (tV S vs i = vs')) :
    Calls Try.prog 16 #[.pointer (some ⟨D, 0, none⟩), .int .i64 i] w fun e w' => ∃ u b, e = .returned (.tuple #[val3 u, .bool b]) ∧ St w0 (SpB D T S' vs' :: L) w' :=
  (sp_take hs i).mono fun _ _ ⟨h1, h2⟩ => ⟨_, _, h1, by rw [← hS.out, ← hV.out]; exact h2⟩
theorem pV_len {S : List Nat} {vs : List V3} (hok : SpOk S vs) {k : Nat} (hk : k < 65536) (v : V3) : (pV vs (k : Int) v).length = up (max vs.length 1) k := by
  have : okI (k : Int) = true := decide_eq_true (by omega)
  unfold pV
  rw [this]
  simp only [if_true, Int.toNat_natCast, List.length_set]
  exact roomV_len hok hk
theorem pS_in {S : List Nat} {k : Nat} (hk : k < 65536) : pS S (k : Int) = insS k S := by
  have : okI (k : Int) = true := decide_eq_true (by omega)
  unfold pS
  rw [this]
  simp
attribute [local irreducible] okI okN pS pV tS tV getV memS roomV
set_option maxHeartbeats 1000000 in
theorem sparseRoom_c {w0 : World} {va : Value} {za : List Int} (hva : IntArg w0 va za) : Calls Try.prog 5 #[va] w0 (LawPost8 w0) := by
  obtain ⟨A, na, ca, rfl, hlen, hnc, hcm, hra, hba⟩ := hva
  subst hlen
  unfold maxLen at hcm
  have hs := St.start w0
  have H0 : Hid (([] : List V3).length = 0) := rfl
  have H1 : Hid (([] : List Nat).length = 0) := rfl
  clear hba
  go_enter Try.func5, Try.ntmps5
  go_wp2_with (first
    | (go_at_call 7; refine (sp_new hs).mono ?_; clear hs; rintro e w1 ⟨D, T, rfl, hs⟩)
    | (go_at_call 11; refine (sp_room_v hs H0).mono ?_; rintro e w' ⟨rfl, rfl⟩))
  go_loopw [4, 5] (fun mv iv wr => ∃ (k m N : Nat) (vs : List V3), k ≤ za.length ∧ m < 65536 ∧ mv = .int .i64 (m : Nat) ∧ iv = .int .i64 (k : Nat) ∧ RoomI vs m N ∧ St w0 [SpB D T [] vs] wr) (fun _ iv _ => za.length - (intOf iv).toNat)
  case atStart => exact ⟨0, 0, 0, [], Nat.zero_le _, by decide, rfl, rfl, ⟨rfl, .inl ⟨rfl, rfl⟩⟩, hs⟩
  case round =>
    clear hs H0
    obtain ⟨k, m, N, vs, hk, hm, rfl, rfl, HN, hs⟩ := hrel
    by_cases hlt : k < za.length ∧ k < 40
    · obtain ⟨h1, h2⟩ := hlt
      obtain ⟨b, o, z, rfl, hc, hz⟩ := hra.int h1
      have hc := hc.tail (p := SpB D T [] vs) _ hs
      obtain ⟨hok, _⟩ := hs.spopen
      have hand := and_ffff z
      have hkx := kx_lt z
      generalize kx z = q at hand hkx
      clear hz
      obtain ⟨vs1, HV1⟩ : ∃ v, Hid (pV vs (q : Int) ⟨3, 0, 0⟩ = v) := ⟨_, rfl⟩
      have HS1 : Hid (pS [] (q : Int) = [q]) := by rw [Hid, pS_in hkx]; rfl
      obtain ⟨vs2, HV2⟩ : ∃ v, Hid (tV [q] vs1 (q : Int) = v) := ⟨_, rfl⟩
      have hmq : memS [q] (q : Int) = true := memS_nat.2 (by simp)
      have HS2 : Hid (tS [q] (q : Int) = []) := by rw [Hid, tS, hmq]; simp [delS]
      have hp := roomP_put hok HN.1 HN.2 hkx
      obtain ⟨N', HN'⟩ : ∃ n, Hid (up (max N 1) q = n) := ⟨_, rfl⟩
      rw [HN'.out] at hp
      have HL : Hid (vs2.length = N') := by
        have e1 := pV_len hok hkx ⟨3, 0, 0⟩
        rw [Hid, ← HV2.out, tV, hmq, if_pos rfl, List.length_set, ← HV1.out, e1, HN.1, HN'.out]
      have hpa := pow_and hp.2.2.2 hp.2.2.1
      have HP := Lib.hid hp
      have t1 : decide ((N' : Int) ≤ max (m : Int) (q : Int)) = false := decide_eq_false (by have := hp.1; omega)
      have t2 : decide (max (m : Int) (q : Int) < (N' : Int) / 2) = false := decide_eq_false (by have := hp.2.1; omega)
      have hN1 : (1 : Int) ≤ N' := by have := hp.1; omega
      have hN2 : (N' : Int) ≤ 65536 := by have := hp.2.2.1; omega
      clear hp hmq hok HN HN'
      go_wp2_with (first
        | (go_at_call 8; refine (sp_put_e (v := ⟨3, 0, 0⟩) hs HS1 HV1).mono ?_; clear hs hc; rintro e w1 ⟨u, b, rfl, hs⟩)
        | (go_at_call 16; refine (sp_take_e hs HS2 HV2).mono ?_; clear hs; rintro e w1 ⟨u, b, rfl, hs⟩)
        | (go_at_call 11; refine (sp_room_v hs HL).mono ?_; rintro e w' ⟨rfl, rfl⟩))
      go_roundw
      case rel =>
        exact ⟨k + 1, max m q, N', vs2, by omega, by omega, congrArg _ (by omega), by go_num, ⟨HL.out, .inr HP.out⟩, hs⟩
      case measure => simp [intOf] <;> omega
    · have hd : decide ((k : Int) < (za.length : Int)) = true → decide ((k : Int) < 40) = false := fun h1 => decide_eq_false (by have := of_decide_eq_true h1; omega)
      have hcs := Rd.spb hs
      clear HN
      by_cases h3 : k < za.length
      · have h4 : ¬ k < 40 := fun h => hlt ⟨h3, h⟩
        clear hlt hd
        go_wp2_with (first
          | (go_at_call 10; refine (sp_len_v hs H1).mono ?_; rintro e w' ⟨rfl, rfl⟩)
          | (go_at_call 12; refine (awake8 _).mono ?_; rintro e w' ⟨rfl, hg⟩; replace hs := hs.grew hg; clear hg))
        go_ret
        exact ⟨rfl, hs.drop⟩
      · clear hlt hd
        go_wp2_with (first
          | (go_at_call 10; refine (sp_len_v hs H1).mono ?_; rintro e w' ⟨rfl, rfl⟩)
          | (go_at_call 12; refine (awake8 _).mono ?_; rintro e w' ⟨rfl, hg⟩; replace hs := hs.grew hg; clear hg))
        go_ret
        exact ⟨rfl, hs.drop⟩
end Go.Proofs.Ytdcihfofdjckjaa
