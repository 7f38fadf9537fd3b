/-
  The statements of expressions: what is common.
-/
import Derived.Test.YtkcbjkadalebjaaEx8
import Derived.Test.YtkcbjkadalebjaaFrame
set_option maxRecDepth 100000
namespace Go.Proofs.Ytkcbjkadalebjaa
open Go Go.RowKit
attribute [local irreducible] wpList Calls Code.wp

theorem ArOk.nil (m : Nat) : ArOk [] m := ⟨by decide, fun i x h => by simp at h, fun i x h => by simp at h, fun i x h => by simp at h, fun i x h => by simp at h⟩
theorem ArOk.snoc {l : List NodeE} {m m' : Nat} {y : NodeE} (h : ArOk l m) (hl : l.length < 1000) (hm : m ≤ m') (hk : 1 ≤ y.k ∧ y.k ≤ 5 ∧ y.kids.length ≤ 64) (h1 : y.k = 1 → ∃ s, y.kids = [s] ∧ s < m') (h5 : y.k = 5 → y.kids.length = 1) (hlow : y.k ≠ 1 → ∀ z ∈ y.kids, z < l.length) : ArOk (l ++ [y]) m' := by
  have key : ∀ (i : Nat) (x : NodeE), (l ++ [y])[i]? = some x → (l[i]? = some x) ∨ (i = l.length ∧ x = y) := fun i x hx => by
    by_cases hi : i < l.length
    · rw [List.getElem?_append_left hi] at hx; exact .inl hx
    · rw [List.getElem?_append_right (by omega)] at hx
      have : i - l.length = 0 := by
        rcases Nat.eq_zero_or_pos (i - l.length) with h | h
        · exact h
        · rw [List.getElem?_eq_none (by simp; omega)] at hx; cases hx
      rw [this] at hx
      simp at hx
      exact .inr ⟨by omega, hx.symm⟩
  refine ⟨by rw [List.length_append]; simp; omega, fun i x hx => ?_, fun i x hx hk1 => ?_, fun i x hx hk5 => ?_, fun i x hx hk1 z hz => ?_⟩
  · rcases key i x hx with h' | ⟨_, rfl⟩
    · exact h.kind i x h'
    · exact hk
  · rcases key i x hx with h' | ⟨_, rfl⟩
    · obtain ⟨s, h3, h4⟩ := h.set i x h' hk1
      exact ⟨s, h3, by omega⟩
    · exact h1 hk1
  · rcases key i x hx with h' | ⟨_, rfl⟩
    · exact h.not i x h' hk5
    · exact h5 hk5
  · rcases key i x hx with h' | ⟨rfl, rfl⟩
    · exact h.low i x h' hk1 z hz
    · exact hlow hk1 z hz
theorem ArOk.addset {l : List NodeE} {m : Nat} (h : ArOk l m) (hl : l.length < 1000) : ArOk (l ++ [⟨1, [m]⟩]) (m + 1) :=
  h.snoc hl (Nat.le_succ m) ⟨Nat.le_refl 1, by show 1 ≤ 5; decide, by show 1 ≤ 64; decide⟩ (fun _ => ⟨m, rfl, Nat.lt_succ_self m⟩) (fun h => absurd h (by decide : (1 : Nat) ≠ 5)) (fun h => absurd rfl h)
theorem ArOk.addop {l : List NodeE} {m k : Nat} {kids : List Int} (h : ArOk l m) (hk : 2 ≤ k ∧ k ≤ 5) (h5 : k = 5 → kids.length = 1) : ArOk (addN l k kids) m := by
  unfold addN
  split
  · rename_i ho
    have hk1 : ¬ k = 1 := by omega
    unfold addOk at ho
    rw [decide_eq_false hk1, Bool.false_or] at ho
    simp only [Bool.and_eq_true, decide_eq_true_eq, Bool.not_eq_true'] at ho
    refine h.snoc ho.1.1 (Nat.le_refl m) ⟨by show 1 ≤ k; omega, by show k ≤ 5; omega, by rw [List.length_map]; exact ho.1.2⟩ (fun h1 => absurd h1 hk1) (fun h' => by rw [List.length_map]; exact h5 h') (fun _ z hz => ?_)
    obtain ⟨x, hx, rfl⟩ := List.mem_map.1 hz
    have := List.any_eq_false.1 ho.2 x hx
    simp [bad] at this
    omega
  · exact h
/-- Each of the sets is what its row says. -/
def SetsOk (w : World) (ss : List Value) (Ss : Nat → List Nat) : Prop := ∀ s v, ss[s]? = some v → SetW w v (Ss s)
theorem SetsOk.nil {w : World} {Ss : Nat → List Nat} : SetsOk w [] Ss := fun s v h => by simp at h
theorem SetsOk.snoc {w : World} {ss : List Value} {Ss : Nat → List Nat} {v : Value} (h : SetsOk w ss Ss) (hv : SetW w v (Ss ss.length)) : SetsOk w (ss ++ [v]) Ss := fun s u hu => by
  by_cases hs : s < ss.length
  · rw [List.getElem?_append_left hs] at hu; exact h s u hu
  · rw [List.getElem?_append_right (by omega)] at hu
    have : s - ss.length = 0 := by
      rcases Nat.eq_zero_or_pos (s - ss.length) with h | h
      · exact h
      · rw [List.getElem?_eq_none (by simp; omega)] at hu; cases hu
    rw [this] at hu
    simp at hu
    subst hu
    rw [show s = ss.length by omega]
    exact hv
theorem SetsOk.grew {w w' : World} {ss : List Value} {Ss : Nat → List Nat} (h : SetsOk w ss Ss) (hg : Grew w w') : SetsOk w' ss Ss := fun s v hv => (h s v hv).grew hg
theorem SetW.here {w0 w : World} {T : Nat} {S : List Nat} {L : List As} (hs : St w0 (HSet T S :: L) w) : SetW w (ptr T) S := .inr ⟨T, w0, L, rfl, hs⟩
theorem SetW.none {w : World} : SetW w (.pointer none) [] := .inl ⟨rfl, rfl⟩
theorem exset_v {w0 w : World} {L : List As} {D : Nat} {l l' : List NodeE} {ss ss' : List Value} (hs : St w0 (ExB D l ss :: L) w) (q : Option Addr) {v : Int} (hv : Hid ((l.length : Int) = v)) (hl' : Hid (l ++ [⟨1, [ss.length]⟩] = l')) (hs' : Hid (ss ++ [.pointer q] = ss')) (hl : l.length < 1000) (hss : ss.length ≤ 1000000) :
    Calls Try.prog 14 #[ptr D, .pointer q] w fun e w' => e = .returned (.int .i64 v) ∧ St w0 (ExB D l' ss' :: L) w' := by
  rw [← hv.out, ← hl'.out, ← hs'.out]; exact exset_c hs hl hss q
theorem exhas_v {w0 w : World} {L : List As} {D : Nat} {l : List NodeE} {ss : List Value} (hs : St w0 (ExB D l ss :: L) w) (hok : ArOk l ss.length) {Ss : Nat → List Nat} (hsets : SetsOk w ss Ss) {n i : Int} {b : Bool} (hb : Hid (exTell l Ss n i = b)) :
    Calls Try.prog 17 #[ptr D, .int .i64 n, .int .i64 i] w fun e w' => e = .returned (.bool b) ∧ Grew w w' := by
  obtain ⟨N, cap, P, cap2, hv⟩ := hs.exview
  exact exhas_c hv hok hsets n i hb
theorem new_v {w0 w : World} {L : List As} {A : Option Addr} {zs : List Int} {n c : Nat} {S : List Nat} (hs : St w0 L w) (hr : RdS w0 L A (zs.map (Value.int .i64))) (hn : Hid (zs.length = n)) (hl : n ≤ maxLen) (hS : Hid (setS zs = S)) :
    Calls Try.prog 13 #[.slice A n c] w fun e w' => ∃ T, e = .returned (ptr T) ∧ St w0 (HSet T S :: L) w' := by
  have hn := hn.out
  subst hn
  rw [← hS.out]; exact new_h hs hr hl
theorem aw3a : setS [1, 2] = [1, 2] := by decide +kernel
theorem aw3b : setS [2, 3] = [2, 3] := by decide +kernel
def lw2 : List NodeE := [⟨1, [0]⟩, ⟨1, [1]⟩]
def lw3 : List NodeE := [⟨1, [0]⟩, ⟨1, [1]⟩, ⟨2, [0, 1]⟩]
def sw2 (s : Nat) : List Nat := if s = 0 then [1, 2] else [2, 3]
theorem aw3c : addV lw2 2 [0, 1] = 2 := by decide +kernel
theorem aw3d : addN lw2 2 [0, 1] = lw3 := by rfl
theorem aw3e : exTell lw3 sw2 2 2 = true := by decide +kernel
theorem aw3f : exTell lw3 sw2 2 1 = false := by decide +kernel
theorem aw3g : addV lw3 5 [9] = -1 := by decide +kernel
theorem lw3_ok : ArOk lw3 2 := by
  have h := ((ArOk.nil 0).addset (by decide)).addset (by decide)
  have := h.addop (k := 2) (kids := [0, 1]) (by decide) (by decide)
  exact this
theorem lw2_eq : [(⟨1, [0]⟩ : NodeE)] ++ [⟨1, [1]⟩] = lw2 := rfl
theorem lw3_len : lw3.length = 3 := rfl
attribute [local irreducible] addV addN exTell setS lw2 lw3
set_option maxHeartbeats 1000000 in
theorem awake3 (w : World) : Calls Try.prog 11 #[] w fun e w' => e = .returned (.bool true) ∧ Grew w w' := by
  have hs := St.start w
  have HA := Lib.hid aw3a
  have HB := Lib.hid aw3b
  have HC := Lib.hid aw3c
  have HD := Lib.hid aw3d
  have HE := Lib.hid aw3e
  have HF := Lib.hid aw3f
  have HG := Lib.hid aw3g
  have tk : True := trivial
  go_enter Try.func11, Try.ntmps11
  go_upto_region 6 with (first
    | (go_at_call 12; refine (exnew_c hs).mono ?_; clear hs; rintro e w' ⟨D, rfl, hs⟩)
    | (clear tk; refine wpl_buildN (vs := [.int .i64 1, .int .i64 2]) elem24 rfl rfl (by decide) (by decide) (by simp; exact ⟨rfl, rfl⟩) hs ?_; clear hs; intro g1 w1 hs)
    | (go_at_call 13; refine (new_v (zs := [1, 2]) (A := some ⟨g1, 0, none⟩) hs RdS.blk (Lib.hid rfl) (by decide) HA).mono ?_; clear hs; rintro e w' ⟨T1, rfl, hs⟩; replace hs := hs.up2)
    | (go_at_call 14; refine (exset_v (v := 0) (l' := [⟨1, [0]⟩]) (ss' := [ptr T1]) hs _ (Lib.hid rfl) (Lib.hid rfl) (Lib.hid rfl) (by decide) (by decide)).mono ?_; clear hs; rintro e w' ⟨rfl, hs⟩)
    | (refine wpl_buildN (vs := [.int .i64 2, .int .i64 3]) elem24 rfl rfl (by decide) (by decide) (by simp; exact ⟨rfl, rfl⟩) hs ?_; clear hs; intro g2 w2 hs)
    | (go_at_call 13; refine (new_v (zs := [2, 3]) (A := some ⟨g2, 0, none⟩) hs RdS.blk (Lib.hid rfl) (by decide) HB).mono ?_; clear hs; rintro e w' ⟨T2, rfl, hs⟩; replace hs := hs.up2)
    | (go_at_call 14; refine (exset_v (v := 1) (l' := lw2) (ss' := [ptr T1, ptr T2]) hs _ (Lib.hid rfl) (Lib.hid lw2_eq) (Lib.hid rfl) (by decide) (show 1 ≤ 1000000 by decide)).mono ?_; clear hs; rintro e w' ⟨rfl, hs⟩)
    | (refine wpl_buildN (vs := [.int .i64 0, .int .i64 1]) elem24 rfl rfl (by decide) (by decide) (by simp; exact ⟨rfl, rfl⟩) hs ?_; clear hs; intro g3 w3 hs; replace hs := hs.rot)
    | (go_at_call 16; refine (and_c (kids := [0, 1]) (A := some ⟨g3, 0, none⟩) (m := 2) hs (fun h => nomatch h) (Lib.hid rfl) (by decide) (RdS.blk.tail) HC HD).mono ?_; clear hs; rintro e w' ⟨rfl, hs⟩))
  have hso : SetsOk w' [ptr T1, ptr T2] sw2 := (SetsOk.nil.snoc (SetW.here hs.up4)).snoc (SetW.here hs.up2)
  have hlen : lw3.length = 3 := lw3_len
  go_wp2_with (first
    | (go_at_call 17; refine (exhas_v hs lw3_ok hso HE).mono ?_; rintro e w' ⟨rfl, hg⟩; replace hs := hs.grew hg; replace hso := hso.grew hg; clear hg)
    | (go_at_call 17; refine (exhas_v hs lw3_ok hso HF).mono ?_; rintro e w' ⟨rfl, hg⟩; replace hs := hs.grew hg; clear hg)
    | (go_at_call 23; refine (exlen_c hs).mono ?_; rintro e w' ⟨rfl, rfl⟩)
    | (go_at_call 15; refine (not_c hs 9 HG (Lib.hid rfl)).mono ?_; clear hs; rintro e w' ⟨rfl, hs⟩))
  go_ret
  exact ⟨rfl, hs.made_grew⟩
theorem RdS.any {w0 : World} {A : Option Addr} {xs : List Value} (h : RdS w0 [] A xs) : ∀ L, RdS w0 L A xs
  | [] => h
  | _ :: L => (RdS.any h L).tail
/-- What a statement asks of its walk. -/
def LawPost (w0 : World) (e : Ending) (w' : World) : Prop := e = .returned (.bool true) ∧ St w0 [] w'
theorem St.nothing {w0 w : World} : ∀ {L : List As}, St w0 L w → St w0 [] w
  | [], hs => hs
  | _ :: _, hs => St.nothing hs.drop
def kk24 (z : Int) : Nat := (z % 16777216).toNat
theorem kk24_lt (z : Int) : kk24 z < 16777216 := by unfold kk24; omega
theorem and_ffffff (z : Int) : bits .and .i64 z 16777215 = (kk24 z : Nat) := by
  show IntKind.i64.wrap ((BitVec.ofInt 64 z &&& BitVec.ofInt 64 16777215).toNat : Int) = _
  rw [BitVec.toNat_and, show (BitVec.ofInt 64 16777215).toNat = 2 ^ 24 - 1 by decide, Nat.and_two_pow_sub_one_eq_mod, BitVec.toNat_ofInt, IntKind.wrap_i64]
  unfold kk24
  omega
theorem hhas_v {w0 w : World} {L : List As} {T : Nat} {S : List Nat} (hs : St w0 (HSet T S :: L) w) {i : Int} {b : Bool} (hb : Hid (memS S i = b)) :
    Calls Try.prog 18 #[ptr T, .int .i64 i] w fun e w' => e = .returned (.bool b) ∧ Grew w w' := by rw [← hb.out]; exact has_g hs i
theorem hadd_v {w0 w : World} {L : List As} {T : Nat} {S S' : List Nat} (hs : St w0 (HSet T S :: L) w) {i : Int} (hS : Hid (addS S i = S')) :
    Calls Try.prog 24 #[ptr T, .int .i64 i] w fun e w' => ∃ b x, e = .returned (.tuple #[.bool b, .int .i64 x]) ∧ St w0 (HSet T S' :: L) w' := by
  rw [← hS.out]; exact (add_h hs i).mono fun _ _ ⟨h1, h2⟩ => ⟨_, _, h1, h2⟩
theorem hremove_v {w0 w : World} {L : List As} {T : Nat} {S S' : List Nat} (hs : St w0 (HSet T S :: L) w) {i : Int} (hS : Hid (remS S i = S')) :
    Calls Try.prog 25 #[ptr T, .int .i64 i] w fun e w' => ∃ b x, e = .returned (.tuple #[.bool b, .int .i64 x]) ∧ St w0 (HSet T S' :: L) w' := by
  rw [← hS.out]; exact (remove_h hs i).mono fun _ _ ⟨h1, h2⟩ => ⟨_, _, h1, h2⟩
end Go.Proofs.Ytkcbjkadalebjaa
