/-
  The contracts of a set's Add, whatever number; New.
-/
import Derived.Test.YtkcbjkadalebjaaHib2
set_option maxRecDepth 100000
namespace Go.Proofs.Ytkcbjkadalebjaa
open Go Go.RowKit
attribute [local irreducible] wpList Calls Code.wp

theorem sorted_of {T : Nat} {S : List Nat} {h : Hl} (hh : HSet T S h) : S.Pairwise (· < ·) ∧ ∀ a ∈ S, a < 16777216 := by
  obtain ⟨ks, G, W, hf, _⟩ := hh
  exact ⟨hf.sorted, hf.small⟩
theorem St.sorted {w0 w : World} {T : Nat} {S : List Nat} {L : List As} (hs : St w0 (HSet T S :: L) w) : S.Pairwise (· < ·) ∧ ∀ a ∈ S, a < 16777216 := hs.fact fun _ h => sorted_of h
theorem add_h {w0 w : World} {L : List As} {T : Nat} {S : List Nat} (hs : St w0 (HSet T S :: L) w) (i : Int) :
    Calls Try.prog 24 #[.pointer (some ⟨T, 0, none⟩), .int .i64 i] w fun e w' => e = .returned (.tuple #[.bool (okN i && !memS S i), .int .i64 (errN i)]) ∧ St w0 (HSet T (addS S i) :: L) w' := by
  obtain ⟨hS, hS2⟩ := hs.sorted
  by_cases hi : 0 ≤ i ∧ i < 16777216
  · obtain ⟨j, rfl⟩ := Int.eq_ofNat_of_zero_le hi.1
    have hj : j < 16777216 := by omega
    have ok : okN (j : Int) = true := decide_eq_true hi
    have e1 : errN (j : Int) = 0 := by unfold errN; rw [ok]; rfl
    have e2 : addS S (j : Int) = insS j S := by unfold addS; rw [ok]; simp
    rw [ok, e1, e2]
    by_cases hm : j ∈ S
    · have HM : Hid (memS S (j : Int) = true) := memS_nat.2 hm
      have HOK : Hid (decide ((0 : Int) ≤ (j : Int) ∧ (j : Int) < 16777216) = true) := ok
      rw [ins_id hS hm]
      have HR : Hid (Ending.returned (.tuple #[.bool false, .int .i64 0]) = .returned (.tuple #[.bool (true && !memS S (j : Int)), .int .i64 0])) := by rw [Hid, HM.out]; rfl
      rw [← HR.out]
      clear hS hS2 hi ok e1 e2 hm
      go_enter Try.func24, Try.ntmps24
      go_wp2_with (first
        | (go_at_call 37; refine (ok_c _ _).mono ?_; rw [HOK.out]; rintro e w' ⟨rfl, rfl⟩)
        | (go_at_call 18; refine (has_s hs HM).mono ?_; clear hs; rintro e w ⟨rfl, hs⟩))
      go_ret2
      exact ⟨rfl, hs⟩
    · have HM : memS S (j : Int) = false := by rw [← Bool.not_eq_true, memS_nat]; exact hm
      rw [HM]
      exact add_in hs j hj hm
  · have ok : okN i = false := decide_eq_false hi
    have e1 : errN i = 1 := by unfold errN; rw [ok]; rfl
    have e2 : addS S i = S := by unfold addS; rw [ok]; rfl
    rw [ok, e1, e2]
    have HOK : Hid (decide (0 ≤ i ∧ i < 16777216) = false) := ok
    clear hS hS2 hi ok e1 e2
    go_enter Try.func24, Try.ntmps24
    go_wp2_with (first
      | (go_at_call 37; refine (ok_c _ _).mono ?_; rw [HOK.out]; rintro e w' ⟨rfl, rfl⟩))
    go_ret2
    exact ⟨rfl, hs⟩
/-- The empty set. -/
def G0 (T : Nat) : Key → Option Nat := upd (fun _ => none) (3, 0) (some T)
theorem fits_empty (T : Nat) : Fits T [] [(3, 0)] (G0 T) (fun _ => 0) where
  nodup := by simp
  mem k := by
    unfold G0
    by_cases e : k = (3, 0)
    · subst e; rw [upd_same]; simp
    · rw [upd_other _ _ e]; simp [e]
  top := upd_same _ _ _
  lev k hk := by simp at hk; subst hk; exact ⟨Nat.le_refl _, fun _ => rfl⟩
  there k hk := by
    unfold G0
    rw [upd_other _ _ (by intro e; subst e; simp at hk)]
    simp [wordOf, allW]
  word k _ := by simp [wordOf, allW]
  sorted := List.Pairwise.nil
  small a ha := by cases ha
theorem tbl_empty (T : Nat) : ∀ h, blk T (zeroCells ++ [Value.int .i64 0]).toArray 69 h → HSet T [] h := fun h hb => by
  refine ⟨_, _, _, fits_empty T, ?_⟩
  have e : ndBlk (G0 T) (fun _ => 0) 0 (3, 0) = blk T (zeroCells ++ [Value.int .i64 0]).toArray 69 := by
    unfold ndBlk nodeCells nodeTy G0
    rw [upd_same]
    simp only [Option.getD_some, if_true]
    congr 2
  show star _ _ h
  rw [show (([] : List Nat).length) = 0 from rfl, e]
  exact star_comm (emp_star hb)
/-- What a row of numbers comes to. -/
def setS (zs : List Int) : List Nat := zs.foldl addS []
theorem add_t {w0 w : World} {L : List As} {T : Nat} {S : List Nat} (hs : St w0 (HSet T S :: L) w) (i : Int) {S' : List Nat} (h : Hid (addS S i = S')) :
    Calls Try.prog 24 #[.pointer (some ⟨T, 0, none⟩), .int .i64 i] w fun e w' => ∃ b x, e = .returned (.tuple #[.bool b, .int .i64 x]) ∧ St w0 (HSet T S' :: L) w' :=
  (add_h hs i).mono fun e w' ⟨h1, h2⟩ => ⟨_, _, h1, by rw [← h.out]; exact h2⟩
theorem new_h {w0 w : World} {L : List As} {A : Option Addr} {zs : List Int} {c : Nat} (hs : St w0 L w) (hr : RdS w0 L A (zs.map (Value.int .i64))) (hl : zs.length ≤ maxLen) :
    Calls Try.prog 13 #[.slice A zs.length c] w fun e w' => ∃ T, e = .returned (.pointer (some ⟨T, 0, none⟩)) ∧ St w0 (HSet T (setS zs) :: L) w' := by
  unfold maxLen at hl
  go_enter Try.func13, Try.ntmps13
  go_wp2_with (first
    | (refine wpl_build0 build_set ?_)
    | (refine wpl_box hs ?_; clear hs; intro T w hs))
  replace hs := hs.conv (tbl_empty T)
  go_loopw [10] (fun i wr => ∃ k : Nat, k ≤ zs.length ∧ i = .int .i64 k ∧ St w0 (HSet T (setS (zs.take k)) :: L) wr) (fun i _ => zs.length - (intOf i).toNat)
  case atStart => exact ⟨0, Nat.zero_le _, rfl, hs⟩
  case round =>
    clear hs
    obtain ⟨k, hk, rfl, hs⟩ := hrel
    by_cases hlt : k < zs.length
    · obtain ⟨b, o, z, rfl, hc, hz⟩ := hr.int hlt
      have hc := hc.tail _ hs
      have HS : Hid (addS (setS (zs.take k)) z = setS (zs.take (k + 1))) := by
        rw [Hid, setS, setS, List.take_succ_eq_append_getElem hlt, List.foldl_append]
        rw [List.getElem?_eq_getElem hlt] at hz
        rw [← Option.some.inj hz]
        rfl
      clear hz
      go_wp2_with (first
        | (go_at_call 24; refine (add_t hs _ HS).mono ?_; clear hs hc; rintro e w ⟨b', x, rfl, hs⟩))
      go_roundw
      case rel => exact ⟨k + 1, by omega, by go_num, hs⟩
      case measure => simp [intOf] <;> omega
    · have he : zs.take k = zs := List.take_of_length_le (by omega)
      rw [he] at hs
      go_wp2
      go_ret
      exact ⟨T, rfl, hs⟩
end Go.Proofs.Ytkcbjkadalebjaa
