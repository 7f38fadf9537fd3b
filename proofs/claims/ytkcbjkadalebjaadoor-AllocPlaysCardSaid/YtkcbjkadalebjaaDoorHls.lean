/-
  HibitLists.
-/
import Derived.Test.YtkcbjkadalebjaaDoorHib8
set_option maxRecDepth 100000
namespace Go.Proofs.YtkcbjkadalebjaaDoor
open Go Go.RowKit
attribute [local irreducible] wpList Calls Code.wp

theorem intv_get {l : List Nat} {k v : Nat} (h : l[k]? = some v) : (intv l)[k]? = some (.int .i64 (v : Int)) := by simp [intv, h]
theorem and_ff (z : Int) : bits .and .i64 z 255 = ((z % 256).toNat : Nat) := by
  show IntKind.i64.wrap ((BitVec.ofInt 64 z &&& BitVec.ofInt 64 255).toNat : Int) = _
  rw [BitVec.toNat_and, show (BitVec.ofInt 64 255).toNat = 2 ^ 8 - 1 by decide, Nat.and_two_pow_sub_one_eq_mod, BitVec.toNat_ofInt, IntKind.wrap_i64]
  omega
theorem hlist_n {w0 w : World} {L : List As} {T : Nat} {S : List Nat} (hs : St w0 (HSet T S :: L) w) (hT : Tab w) {f m : Int} {l : List Nat} {n : Nat} (h : Hid (listS S f m = l)) (hn : Hid (l.length = n)) :
    Calls Tryd.prog 46 #[.pointer (some ⟨T, 0, none⟩), .int .i64 f, .int .i64 m] w fun e w' =>
      ∃ A cap, e = .returned (.slice A n cap) ∧ St w [own A n cap 3 1 (intv l)] w' := by
  rw [← hn.out]; exact hlist_v hs hT h
theorem insS_len (i : Nat) : ∀ l : List Nat, (insS i l).length ≤ l.length + 1
  | [] => by simp [insS]
  | a :: l => by
    unfold insS
    have := insS_len i l
    split
    · simp
    · split
      · simp
      · simp; omega
theorem addS_len (S : List Nat) (i : Int) : (addS S i).length ≤ S.length + 1 := by
  unfold addS
  split
  · exact insS_len _ _
  · omega
theorem foldS_len : ∀ (zs : List Int) (S : List Nat), (zs.foldl addS S).length ≤ S.length + zs.length
  | [], S => by simp
  | z :: zs, S => by
    have h1 := foldS_len zs (addS S z)
    have h2 := addS_len S z
    simp only [List.foldl_cons, List.length_cons]
    omega
theorem setS_len (zs : List Int) : (setS zs).length ≤ zs.length := by
  have h := foldS_len zs []
  unfold setS
  simpa using h
theorem fromS_zero (S : List Nat) : fromS S 0 = S := List.filter_eq_self.2 fun a _ => by simp
/-- How far the pieces have come. -/
def PieceI (S : List Nat) (a : Int) (k : Nat) : Prop := fromS S a = S.drop k ∧ k ≤ S.length
theorem pieceI_start (S : List Nat) : PieceI S 0 0 := ⟨by rw [fromS_zero]; rfl, Nat.zero_le _⟩
theorem pieceI_list {S : List Nat} {a : Int} {k q : Nat} (h : PieceI S a k) (hq : q ≤ 100000) : listS S a (q : Nat) = (S.drop k).take q := by
  unfold listS
  rw [h.1, show (min (q : Int) 100000).toNat = q by omega]
theorem pieceI_next {S : List Nat} (hS : S.Pairwise (· < ·)) {a : Int} {k q v : Nat} (h : PieceI S a k) (hl : 0 < ((S.drop k).take q).length) (hv : ((S.drop k).take q)[((S.drop k).take q).length - 1]? = some v) : PieceI S ((v : Int) + 1) (k + ((S.drop k).take q).length) := by
  rw [List.length_take, List.length_drop] at *
  have h1 : (fromS S a)[min q (S.length - k) - 1]? = some v := by
    rw [h.1]
    rw [List.getElem?_take] at hv
    rwa [if_pos (by omega)] at hv
  have h2 := fromS_drop hS h1
  refine ⟨?_, by have := h.2; omega⟩
  rw [← h2, h.1, List.drop_drop]
  congr 1
  omega
theorem sorted_get {S : List Nat} (hS : S.Pairwise (· < ·)) {c : Nat} (hc : c + 1 < S.length) : S[c]'(by omega) < S[c + 1] := List.pairwise_iff_getElem.1 hS c (c + 1) _ _ (Nat.lt_succ_self c)
attribute [local irreducible] setS addS okN memS remS errN nextS listS fromS PieceI
end Go.Proofs.YtkcbjkadalebjaaDoor
