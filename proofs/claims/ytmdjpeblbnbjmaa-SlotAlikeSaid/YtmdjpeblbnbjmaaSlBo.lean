/-
  SlotBounds: the walk.
-/
import Derived.Test.YtmdjpeblbnbjmaaL11b
import Derived.Test.YtmdjpeblbnbjmaaJA
set_option maxRecDepth 100000
namespace Go.Proofs.Ytmdjpeblbnbjmaa
open Go Go.RowKit
def LawPost (w0 : World) (e : Ending) (w' : World) : Prop := e = .returned (.bool true) ∧ St w0 [] w'
def lo3 (z : Int) : Nat := (z % 8).toNat
theorem lo3_lt (z : Int) : lo3 z < 8 := by unfold lo3; omega
theorem and_7 (z : Int) : bits .and .i64 z 7 = (lo3 z : Nat) := and_m (p := 3) (by decide)
theorem sl_new_e {w : World} (d : V3) {e : Int} (he : Hid (descE d = e)) :
    Calls Try.prog 15 #[val3 d] w fun r w' => ∃ p, r = .returned (.tuple #[p, .int .i64 e]) ∧ Grew w w' := by
  by_cases h0 : e = 0
  · subst h0
    exact (sl_new (St.start w) d he).mono fun r w' ⟨X, v, F, h1, h2⟩ => ⟨_, h1, h2.made_grew⟩
  · exact (sl_new_no d he h0).mono fun r w' ⟨h1, h2⟩ => ⟨_, h1, h2⟩
theorem bd_e {b : Int} (h : 0 ≤ b) : decide (descE ⟨1, 1, b⟩ = 0) = decide (b ≤ 1000) := by
  unfold descE
  simp only
  by_cases hb : b ≤ 1000
  · rw [if_pos (by omega), if_neg (by omega), decide_eq_true hb]; rfl
  · rw [if_neg (by omega), decide_eq_false hb]; rfl
theorem bd_v {a : Int} : decide (descE ⟨3, a, 0⟩ = 0) = decide (1 ≤ a ∧ a ≤ 4) := by
  unfold descE
  simp only
  by_cases hb : 1 ≤ a ∧ a ≤ 4
  · rw [if_pos (by omega), if_neg (by omega), decide_eq_true hb]; rfl
  · rw [if_neg (by omega), decide_eq_false hb]; rfl
theorem bd_p {s : SlS} (hd : s.d = ⟨3, 2, 0⟩) {i : Int} {b : Bool} (hb : (decide (0 ≤ i ∧ i < 65536)) = b) : decide (s.err i ⟨3, 0, 0⟩ = 0) = b := by
  rw [← hb]
  have : s.err i ⟨3, 0, 0⟩ = 0 ↔ (0 ≤ i ∧ i < 65536) := by
    rw [SlS.err_iff, hd]
    exact ⟨fun h => h.1, fun h => ⟨h, rfl, rfl⟩⟩
  exact decide_eq_decide.2 this
attribute [local irreducible] wpList Calls Code.wp okI okN pS tS memS getG pG insS delS getV pV tV okVal newSl SlS.put SlS.err SlS.putU SlS.putB descE
set_option maxHeartbeats 2000000 in
theorem slbounds_c {w0 : World} (k bound variant : Int) : Calls Try.prog 4 #[.int .i64 k, .int .i64 bound, .int .i64 variant] w0 (LawPost w0) := by
  have h7a := and_7 k
  have h7b := and_7 bound
  have h7c := and_7 variant
  have hla := lo3_lt k
  have hlb := lo3_lt bound
  have hlc := lo3_lt variant
  generalize lo3 k = x at *
  generalize lo3 bound = y at *
  generalize lo3 variant = z at *
  have hs := St.start w0
  obtain ⟨e1, HE1⟩ : ∃ e, Hid (descE ⟨1, 1, (y : Nat) + 996⟩ = e) := ⟨_, rfl⟩
  obtain ⟨e2, HE2⟩ : ∃ e, Hid (descE ⟨3, (z : Nat) - 1, 0⟩ = e) := ⟨_, rfl⟩
  obtain ⟨b1, hb1⟩ : ∃ b, decide (((y : Nat) : Int) + 996 ≤ 1000) = b := ⟨_, rfl⟩
  have hb1' : (e1 == 0) = b1 := by
    rw [← hb1, ← HE1.out, ← bd_e (by omega)]; exact Bool.beq_eq_decide_eq _ _
  obtain ⟨b2, hb2⟩ : ∃ b, decide (1 ≤ ((z : Nat) : Int) - 1 ∧ ((z : Nat) : Int) - 1 ≤ 4) = b := ⟨_, rfl⟩
  have hb2' : (e2 == 0) = b2 := by
    rw [← hb2, ← HE2.out, ← bd_v]; exact Bool.beq_eq_decide_eq _ _
  obtain ⟨b3, hb3⟩ : ∃ b, decide (((x : Nat) : Int) - 3 ≤ 0) = b := ⟨_, rfl⟩
  have HB2 := Lib.hid hb2
  clear hb2
  go_enter Try.func4, Try.ntmps4
  go_upto_region 5 with (first
    | (go_at_call 16; refine (scheck_c ⟨3, (z : Nat) - 1, 0⟩ HE2).mono ?_; rintro r w ⟨rfl, hg⟩; replace hs := hs.grew hg; clear hg)
    | (go_at_call 15; refine (sl_new_e ⟨1, 1, (y : Nat) + 996⟩ HE1).mono ?_; rintro r w ⟨p1, rfl, hg⟩; replace hs := hs.grew hg; clear hg)
    | (go_at_call 15; refine (sl_new hs ⟨3, 2, 0⟩ (by unfold descE; rfl)).mono ?_; clear hs; rintro r w ⟨X, v, F, rfl, hs⟩))
  obtain rfl := newF_none hs.slwf.ok (by decide)
  have hdd : (newSl ⟨3, 2, 0⟩ v none).d = ⟨3, 2, 0⟩ := by unfold newSl; rfl
  have hll : (newSl ⟨3, 2, 0⟩ v none).evs.length < 4611686018427387903 := by unfold newSl; exact (by decide : (0 : Nat) < 4611686018427387903)
  have HF := newSl_F0 ⟨3, 2, 0⟩ v
  generalize newSl ⟨3, 2, 0⟩ v none = s0 at *
  obtain ⟨e3, HE3⟩ : ∃ e, Hid (s0.err (65535 + (((x : Nat) : Int) - 3)) ⟨3, 0, 0⟩ = e) := ⟨_, rfl⟩
  obtain ⟨u3, HU3⟩ : ∃ e, Hid (s0.putU (65535 + (((x : Nat) : Int) - 3)) ⟨3, 0, 0⟩ = e) := ⟨_, rfl⟩
  obtain ⟨c3', HB3⟩ : ∃ e, Hid (s0.putB (65535 + (((x : Nat) : Int) - 3)) ⟨3, 0, 0⟩ = e) := ⟨_, rfl⟩
  obtain ⟨s1, HS1⟩ : ∃ e, Hid (s0.put (65535 + (((x : Nat) : Int) - 3)) ⟨3, 0, 0⟩ = e) := ⟨_, rfl⟩
  have hb3' : (e3 == 0) = b3 := by
    have := bd_p (s := s0) hdd (i := 65535 + (((x : Nat) : Int) - 3)) (b := b3) (by rw [← hb3]; exact decide_eq_decide.2 (by omega))
    rw [HE3.out] at this
    rw [← this]; exact Bool.beq_eq_decide_eq _ _
  have hdd1 : s1.d = ⟨3, 2, 0⟩ := by rw [← HS1.out, SlS.put_d, hdd]
  have HL0 : Hid (s0.evs.length < 4611686018427387904) := by rw [Hid]; omega
  have HL1 : Hid (s1.evs.length < 4611686018427387904) := by
    have := SlS.put_len s0 (65535 + (((x : Nat) : Int) - 3)) ⟨3, 0, 0⟩
    rw [Hid, ← HS1.out]; omega
  obtain ⟨e4, HE4⟩ : ∃ e, Hid (s1.err (-(((x : Nat) : Int) - 3)) ⟨3, 0, 0⟩ = e) := ⟨_, rfl⟩
  obtain ⟨u4, HU4⟩ : ∃ e, Hid (s1.putU (-(((x : Nat) : Int) - 3)) ⟨3, 0, 0⟩ = e) := ⟨_, rfl⟩
  obtain ⟨c4', HB4⟩ : ∃ e, Hid (s1.putB (-(((x : Nat) : Int) - 3)) ⟨3, 0, 0⟩ = e) := ⟨_, rfl⟩
  obtain ⟨s2, HS2⟩ : ∃ e, Hid (s1.put (-(((x : Nat) : Int) - 3)) ⟨3, 0, 0⟩ = e) := ⟨_, rfl⟩
  have hb4' : (e4 == 0) = b3 := by
    have := bd_p (s := s1) hdd1 (i := -(((x : Nat) : Int) - 3)) (b := b3) (by rw [← hb3]; exact decide_eq_decide.2 (by omega))
    rw [HE4.out] at this
    rw [← this]; exact Bool.beq_eq_decide_eq _ _
  clear hll hdd hdd1
  go_upto_region 8 with (first
    | (go_at_call 17; refine (sl_flag_v hs HF).mono ?_; rintro r w ⟨rfl, rfl⟩)
    | (go_at_call 18; refine (sl_put (v := ⟨3, 0, 0⟩) hs HL0.out HU3 HB3 HE3 HS1).mono ?_; clear hs; rintro r w ⟨rfl, hs⟩)
    | (refine wpl_alloc zero3 hs ?_; clear hs; intro g5 w hs)
    | (refine wpl_store_agg (v := val3 u3) rfl rfl (size3 _) hs WrA.slot3 ?_; clear hs; intro w hs))
  replace hs := hs.drop
  go_upto_region 9 with (first
    | (go_at_call 18; refine (sl_put (v := ⟨3, 0, 0⟩) hs HL1.out HU4 HB4 HE4 HS2).mono ?_; clear hs; rintro r w ⟨rfl, hs⟩)
    | (refine wpl_alloc zero3 hs ?_; clear hs; intro g8 w hs)
    | (refine wpl_store_agg (v := val3 u4) rfl rfl (size3 _) hs WrA.slot3 ?_; clear hs; intro w hs))
  clear HE1 HE3 HU3 HB3 HS1 HL0 HL1 HE4 HU4 HB4 HS2 HF
  replace hs : St w0 [] w := hs.drop.drop
  by_cases h1 : 1 ≤ ((z : Nat) : Int) - 1
  · by_cases h2 : ((z : Nat) : Int) - 1 ≤ 4
    · obtain rfl : b2 = true := by rw [← HB2.out]; exact decide_eq_true ⟨h1, h2⟩
      clear HB2
      go_wp2_with (first
        | (go_at_call 19; refine (descmay_c ⟨3, (z : Nat) - 1, 0⟩ HE2).mono ?_; rintro r w ⟨rfl, hg⟩; replace hs := hs.grew hg; clear hg)
        | (go_at_call 20; refine awake11.mono ?_; rintro r w ⟨rfl, hg⟩; replace hs := hs.grew hg; clear hg))
      go_ret
      exact ⟨rfl, hs⟩
    · obtain rfl : b2 = false := by rw [← HB2.out]; exact decide_eq_false (fun h => h2 h.2)
      clear HB2
      go_wp2_with (first
        | (go_at_call 19; refine (descmay_c ⟨3, (z : Nat) - 1, 0⟩ HE2).mono ?_; rintro r w ⟨rfl, hg⟩; replace hs := hs.grew hg; clear hg)
        | (go_at_call 20; refine awake11.mono ?_; rintro r w ⟨rfl, hg⟩; replace hs := hs.grew hg; clear hg))
      go_ret
      exact ⟨rfl, hs⟩
  · obtain rfl : b2 = false := by rw [← HB2.out]; exact decide_eq_false (fun h => h1 h.1)
    clear HB2
    go_wp2_with (first
      | (go_at_call 19; refine (descmay_c ⟨3, (z : Nat) - 1, 0⟩ HE2).mono ?_; rintro r w ⟨rfl, hg⟩; replace hs := hs.grew hg; clear hg)
      | (go_at_call 20; refine awake11.mono ?_; rintro r w ⟨rfl, hg⟩; replace hs := hs.grew hg; clear hg))
    go_ret
    exact ⟨rfl, hs⟩
end Go.Proofs.Ytmdjpeblbnbjmaa
