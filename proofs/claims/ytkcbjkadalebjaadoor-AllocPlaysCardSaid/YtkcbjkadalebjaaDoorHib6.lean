/-
  The contracts of a set's Next, List, Word, Clear.
-/
import Derived.Test.YtkcbjkadalebjaaDoorHib5
set_option maxRecDepth 100000
namespace Go.Proofs.YtkcbjkadalebjaaDoor
open Go Go.RowKit
attribute [local irreducible] wpList Calls Code.wp

theorem nextS_far {S : List Nat} (hS : ∀ a ∈ S, a < 16777216) {f : Int} (h : 16777216 ≤ f) : nextS S f = -1 := by
  unfold nextS
  have : S.find? (fun a : Nat => decide (f ≤ (a : Int))) = none := List.find?_eq_none.2 fun a ha h4 => by
    have h5 : f ≤ (a : Int) := by simpa using h4
    have := hS a ha
    omega
  rw [this]
theorem nextS_max {S : List Nat} {f : Int} : nextS S f = nextS S ((max f 0).toNat : Nat) := by
  unfold nextS
  have : (fun a : Nat => decide (f ≤ (a : Int))) = fun a : Nat => decide ((((max f 0).toNat : Nat) : Int) ≤ (a : Int)) := by
    funext a
    rw [Bool.eq_iff_iff]
    simp
    omega
  rw [this]
theorem top_in {T : Nat} {S : List Nat} {ks : List Key} {G : Key → Option Nat} {W : Key → Nat} (hf : Fits T S ks G W) : G (3, 0) = some T := hf.top
theorem next_g {w0 w : World} {L : List As} {T : Nat} {S : List Nat} (hs : St w0 (HSet T S :: L) w) (hT : Tab w) (f : Int) :
    Calls Tryd.prog 50 #[.pointer (some ⟨T, 0, none⟩), .int .i64 f] w fun e w' => e = .returned (.int .i64 (nextS S f)) ∧ Grew w w' := by
  obtain ⟨hS, hS2⟩ := hs.sorted
  by_cases hf : 16777216 ≤ f
  · have HR := Lib.hid (nextS_far hS2 hf)
    clear hS hS2
    go_enter Tryd.func50, Tryd.ntmps50
    go_wp2
    go_ret
    exact ⟨ret_int HR.out.symm, Grew.refl _⟩
  · obtain ⟨ks, G, W, hfit, hs⟩ := hs.hopen
    have HL : Hid (∀ (fi : Int), fi = (((max f 0).toNat : Nat) : Int) → Calls Tryd.prog 56 #[.pointer (some ⟨T, 0, none⟩), .int .i64 3, .int .i64 fi] w (LeastPost S 3 0 (max f 0).toNat w)) :=
      fun fi hfi => by subst hfi; exact least_h hfit.nodes 3 0 _ T w (by decide) (by omega) hfit.top hs hT
    have HN : Hid (∀ r, LowV S (0 * 64 ^ (3 + 1)) (0 * 64 ^ (3 + 1) + (max f 0).toNat) (0 * 64 ^ (3 + 1) + 64 ^ (3 + 1)) r → r = nextS S f) := fun r hr => by
      rw [nextS_max]
      simp only [Nat.zero_mul, Nat.zero_add] at hr
      exact hr.next hS hS2
    clear hS hS2 hfit
    go_enter Tryd.func50, Tryd.ntmps50
    go_wp2_with (first
      | (go_at_call 56; refine (HL.out _ (by omega)).mono ?_; rintro e w' ⟨r, rfl, hlow, hg2⟩; replace hlow := Lib.hid hlow))
    go_ret
    exact ⟨ret_int (HN.out _ hlow.out), hg2⟩
def intv (l : List Nat) : List Value := l.map fun i : Nat => Value.int .i64 (i : Int)
theorem intv_len (l : List Nat) : (intv l).length = l.length := by simp [intv]
theorem intv_append (l : List Nat) (i : Nat) : intv l ++ [Value.int .i64 (i : Int)] = intv (l ++ [i]) := by simp [intv]
/-- What Next tells of a place in a row. -/
def hdR (o : Option Nat) : Int := match o with
  | some a => (a : Int)
  | none => -1
def listS (S : List Nat) (f m : Int) : List Nat := (fromS S f).take (min m 100000).toNat
theorem next_v {w0 w : World} {L : List As} {T : Nat} {S : List Nat} (hs : St w0 (HSet T S :: L) w) (hT : Tab w) {f v : Int} (h : Hid (nextS S f = v)) :
    Calls Tryd.prog 50 #[.pointer (some ⟨T, 0, none⟩), .int .i64 f] w fun e w' => e = .returned (.int .i64 v) ∧ Grew w w' := by
  rw [← h.out]; exact next_g hs hT f
theorem St.made_grew2 {w w' : World} {M : List As} (hm : St w M w') : Grew w w' := hm.below
theorem hlist_g {w0 w : World} {L : List As} {T : Nat} {S : List Nat} (hs : St w0 (HSet T S :: L) w) (hT : Tab w) (f m : Int) :
    Calls Tryd.prog 46 #[.pointer (some ⟨T, 0, none⟩), .int .i64 f, .int .i64 m] w fun e w' =>
      ∃ A cap, e = .returned (.slice A (listS S f m).length cap) ∧ St w [own A (listS S f m).length cap 3 1 (intv (listS S f m))] w' := by
  obtain ⟨hS, hS2⟩ := hs.sorted
  obtain ⟨v0, HV⟩ : ∃ v, Hid (nextS S f = v) := ⟨_, rfl⟩
  have HSS := Lib.hid hS
  have hsm : ∀ a ∈ S, a < 16777216 := hS2
  have hln := sorted_len (N := 16777216) (a := 0) (fromS_sorted hS f) fun a ha => ⟨Nat.zero_le _, hS2 a (mem_fromS.1 ha).1⟩
  clear hS hS2
  go_enter Tryd.func46, Tryd.ntmps46
  go_wp2_with (first
    | (go_at_call 50; refine (next_v hs hT HV).mono ?_; rintro e w' ⟨rfl, hg⟩))
  go_loopw [7, 8] (fun s i wr => ∃ k A cap v, k ≤ (fromS S f).length ∧ (k : Int) ≤ max (min m 100000) 0 ∧ s = .slice A k cap ∧ i = .int .i64 v ∧ Hid (v = hdR (fromS S f)[k]?) ∧ St w [own A k cap 3 1 (intv ((fromS S f).take k))] wr) (fun s _ _ => (fromS S f).length - (match s with | .slice _ n _ => n | _ => 0))
  case atStart =>
    refine ⟨0, none, 0, v0, Nat.zero_le _, by omega, rfl, rfl, ?_, ?_⟩
    · rw [Hid, ← HV.out, nextS_head HSS.out]
      cases fromS S f <;> rfl
    · exact ((St.start w).grew hg).own_nil _ _
  case round =>
    clear hg HV
    obtain ⟨k, A, cap, v, hk, hkm, rfl, rfl, HV, hm⟩ := hrel
    have hg := hm.made_grew
    have HS := Lib.hid hm
    by_cases hv : 0 ≤ v
    · have hkl : k < (fromS S f).length := by
        rcases Nat.lt_or_ge k (fromS S f).length with h | h
        · exact h
        · have h2 := HV.out
          rw [List.getElem?_eq_none h] at h2
          rw [h2] at hv
          exact absurd hv (by decide)
      obtain ⟨a, ha⟩ : ∃ a, (fromS S f)[k]? = some a := ⟨_, List.getElem?_eq_getElem hkl⟩
      obtain rfl : v = (a : Int) := by have h2 := HV.out; rw [ha] at h2; exact h2
      by_cases hlt : (k : Int) < min m 100000
      · have ha2 : a < 16777216 := hsm a (mem_fromS.1 (List.mem_of_getElem? ha)).1
        obtain ⟨v2, HV2⟩ : ∃ v, Hid (nextS S ((a : Int) + 1) = v) := ⟨_, rfl⟩
        have HV3 : Hid (v2 = hdR (fromS S f)[k + 1]?) := by
          rw [Hid, ← HV2.out, nextS_head HSS.out, ← fromS_drop HSS.out ha]
          cases hd : (fromS S f).drop (k + 1) with
          | nil =>
            have : (fromS S f)[k + 1]? = none := by
              have := List.getElem?_drop (xs := fromS S f) (i := k + 1) (j := 0)
              rw [hd] at this
              simpa using this.symm
            rw [this]
            rfl
          | cons b l =>
            have : (fromS S f)[k + 1]? = some b := by
              have := List.getElem?_drop (xs := fromS S f) (i := k + 1) (j := 0)
              rw [hd] at this
              simpa using this.symm
            rw [this]
            rfl
        have HT : Hid (intv ((fromS S f).take k) ++ [Value.int .i64 (a : Int)] = intv ((fromS S f).take (k + 1))) := by
          rw [Hid, intv_append, List.take_succ_eq_append_getElem hkl]
          rw [List.getElem?_eq_getElem hkl] at ha
          injection ha with ha
          rw [ha]
        clear ha HV
        go_wp2_with (first
          | (go_at_call 50; refine (next_v (hs.grew hm.made_grew2) (hT.grew hm.made_grew2) HV2).mono ?_; rintro e w' ⟨rfl, hg'⟩; replace hm := hm.grew hg')
          | (refine wpl_build1 elem24 (by decide) rfl rfl hm ?_; clear hm; intro gb w2 hm)
          | (refine wpl_append (B := some ⟨gb, 0, none⟩) (news := [.int .i64 (a : Int)]) elem24 rfl rfl hm (Ent.skip (Ent.refl _)) RdS.blk rfl (ints_one _) (by unfold maxLen; omega) (by omega) ?_; clear hm; intro A' cap' w3 hm; replace hm := hm.rot.drop; rw [HT.out] at hm))
        go_roundw
        case rel => exact ⟨k + 1, A', cap', v2, hkl, by omega, rfl, rfl, HV3, hm⟩
        case measure => simp <;> omega
      · have hke : k = (min m 100000).toNat := by omega
        have HE : Hid (listS S f m = (fromS S f).take k) := by rw [Hid, listS, ← hke]
        have HN : Hid ((listS S f m).length = k) := by rw [Hid, HE.out, List.length_take]; omega
        clear ha HV hke
        go_wp2
        go_ret
        refine ⟨A, cap, ?_, ?_⟩
        · rw [HN.out]; rfl
        · rw [HN.out, HE.out]; exact HS.out
    · have hkl : ¬ k < (fromS S f).length := fun h => by
        have h2 := HV.out
        rw [List.getElem?_eq_getElem h] at h2
        have h3 : v = (((fromS S f)[k] : Nat) : Int) := h2
        omega
      have HE : Hid (listS S f m = (fromS S f).take k) := by rw [Hid, listS, List.take_of_length_le (by omega), List.take_of_length_le (by omega)]
      have HN : Hid ((listS S f m).length = k) := by rw [Hid, HE.out, List.length_take]; omega
      clear HV
      go_wp2
      go_ret
      refine ⟨A, cap, ?_, ?_⟩
      · rw [HN.out]; rfl
      · rw [HN.out, HE.out]; exact HS.out

/-! ### A word of a level -/
def wordS (S : List Nat) (level at_ : Int) : Nat := if 0 ≤ level ∧ level < 4 ∧ 0 ≤ at_ ∧ at_ < 64 ^ (3 - level.toNat) then wordOf S (level.toNat, at_.toNat) else 0
theorem at_w {w0 w : World} {L : List As} {T : Nat} {S : List Nat} {ks : List Key} {G : Key → Option Nat} {W : Key → Nat} {n : Nat} (hf : Fits T S ks G W) (hs : St w0 (tbl ks G W n :: L) w) (i l p : Nat) (hi : i < 16777216) (hl : l ≤ 3) (hp : plc i l = p) {v : Value} (hv : Hid (ptrV (G (l, p)) = v)) {fi : Int} (hfi : fi = (i : Nat)) :
    Calls Tryd.prog 52 #[.pointer (some ⟨T, 0, none⟩), .int .i64 fi, .int .i64 (l : Nat)] w fun e w' => e = .returned v ∧ Grew w w' := by
  subst hfi; subst hp; exact at_v hf hs i l hi hl hv
attribute [local irreducible] plc dig wordOf wordS
end Go.Proofs.YtkcbjkadalebjaaDoor
