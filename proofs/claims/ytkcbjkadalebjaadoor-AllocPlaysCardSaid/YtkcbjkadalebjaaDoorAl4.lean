/-
  Handles (alloc.Alloc), 4: all, Live, Merge.
-/
import Derived.Test.YtkcbjkadalebjaaDoorAl3
set_option maxRecDepth 100000
namespace Go.Proofs.YtkcbjkadalebjaaDoor
open Go Go.RowKit
attribute [local irreducible] wpList Calls Code.wp

def hsV (l : List Hdl) : List Value := l.flatMap h2
theorem hsV_append (l : List Hdl) (h : Hdl) : hsV l ++ h2 h = hsV (l ++ [h]) := by simp [hsV]
theorem hsV_len (l : List Hdl) : (hsV l).length = l.length * 2 := by
  induction l with
  | nil => rfl
  | cons a l ih => simp only [hsV, List.flatMap_cons, List.length_append, List.length_cons] at *; rw [ih]; simp [h2]; omega
theorem hsV_get {l : List Hdl} {k : Nat} {h : Hdl} (hk : l[k]? = some h) : ∀ j u, (h2 h)[j]? = some u → (hsV l)[k * 2 + j]? = some u := by
  induction l generalizing k with
  | nil => simp at hk
  | cons a l ih =>
    intro j u hu
    have hj : j < 2 := by have := (List.getElem?_eq_some_iff.1 hu).1; simpa [h2] using this
    simp only [hsV, List.flatMap_cons]
    cases k with
    | zero =>
      simp at hk
      subst hk
      rw [Nat.zero_mul, Nat.zero_add, List.getElem?_append_left (by simpa [h2] using hj), hu]
    | succ k =>
      rw [List.getElem?_append_right (by simp [h2]; omega)]
      have := ih (k := k) (by simpa using hk) j u hu
      rw [← this]
      simp only [hsV]
      congr 1
      simp [h2]
      omega
def handA (cs : List ACell) (i : Nat) : Hdl := ((i : Int), gnA cs i)
def allH (cs : List ACell) (S : List Nat) : List Hdl := S.map (handA cs)
theorem hsV_zero (cs : List ACell) (S : List Nat) : hsV (allH cs (S.take 0)) = [] := rfl
theorem allH_len (cs : List ACell) (S : List Nat) : (allH cs S).length = S.length := by simp [allH]
theorem elemH : ElemOk Tryd.prog 27 30 2 16 := ElemOk.of Tryd.underlying27 (z := hv (0, 0)) (by kernel_rfl) rfl (by decide)
theorem next_first {S : List Nat} (hS : S.Pairwise (· < ·)) : nextS S 0 = hdR S[0]? := by
  rw [nextS_head hS, fromS_zero]
  cases S <;> rfl
theorem next_after {S : List Nat} (hS : S.Pairwise (· < ·)) {k a : Nat} (h : S[k]? = some a) : nextS S ((a : Int) + 1) = hdR S[k + 1]? := by
  have h1 : (fromS S 0)[k]? = some a := by rw [fromS_zero]; exact h
  rw [nextS_head hS, ← fromS_drop hS h1, fromS_zero]
  have h2 := List.getElem?_drop (xs := S) (i := k + 1) (j := 0)
  simp only [Nat.add_zero] at h2
  rw [← h2]
  cases S.drop (k + 1) <;> rfl
attribute [local irreducible] idxS addS okN memS remS errN insS delS nextS stA gnA stV atA hsV
set_option maxHeartbeats 1000000 in
theorem allA_c {w0 w : World} {L1 L2 : List As} {D T : Nat} {top : Int} {cs : List ACell} {S : List Nat} (hS : S.Pairwise (· < ·)) (hlt : ∀ a ∈ S, a < cs.length) (hT : Tab w) (hsS : St w0 (HSet T S :: L1) w) (hsA : St w0 (AlB D top cs :: L2) w) {n : Nat} (hn : Hid (S.length = n)) :
    Calls Tryd.prog 36 #[.pointer (some ⟨D, 0, none⟩), .pointer (some ⟨T, 0, none⟩)] w fun e w' => ∃ B cap, e = .returned (.slice B n cap) ∧ St w [own B n cap 30 2 (hsV (allH cs S))] w' := by
  have hfew := hsA.alopen.1.few
  obtain ⟨v0, HV0⟩ : ∃ v, Hid (nextS S 0 = v) := ⟨_, rfl⟩
  have HV1 : Hid (v0 = hdR S[0]?) := by rw [Hid, ← HV0.out, next_first hS]
  have HS := Lib.hid hS
  have HLt := Lib.hid hlt
  have hln : n ≤ 65536 := by
    rw [← hn.out]
    have := sorted_len (N := cs.length) (a := 0) hS fun a ha => ⟨Nat.zero_le _, hlt a ha⟩
    omega
  clear hS hlt
  go_enter Tryd.func36, Tryd.ntmps36
  go_wp2_with (first
    | (go_at_call 50; refine (next_v hsS hT HV0).mono ?_; rintro e w' ⟨rfl, hg⟩))
  have hm0 : St w [own none 0 0 30 2 (hsV (allH cs (S.take 0)))] w' := by rw [hsV_zero]; exact ((St.start w).grew hg).own_nil _ _
  clear hg HV0
  go_loopw [5, 6] (fun ov iv wr => ∃ (k : Nat) (B : Option Addr) (cap : Nat) (v : Int), k ≤ n ∧ ov = .slice B k cap ∧ iv = .int .i64 v ∧ Hid (v = hdR S[k]?) ∧ St w [own B k cap 30 2 (hsV (allH cs (S.take k)))] wr) (fun ov _ _ => n - (match ov with | .slice _ m _ => m | _ => 0))
  case atStart => exact ⟨0, none, 0, v0, Nat.zero_le _, rfl, rfl, HV1, hm0⟩
  case round =>
    clear hm0 HV1
    obtain ⟨k, B, cap, v, hk, rfl, rfl, HV, hm⟩ := hrel
    by_cases hv0 : 0 ≤ v
    · have hkl : k < n := by
        rcases Nat.lt_or_ge k n with h | h
        · exact h
        · have h2 := HV.out
          rw [List.getElem?_eq_none (by rw [hn.out]; exact h)] at h2
          rw [h2] at hv0
          exact absurd hv0 (by decide)
      obtain ⟨a, ha⟩ : ∃ a, S[k]? = some a := ⟨_, List.getElem?_eq_getElem (by rw [hn.out]; exact hkl)⟩
      obtain rfl : v = (a : Int) := by have h2 := HV.out; rw [ha] at h2; exact h2
      have hac := HLt.out a (List.mem_of_getElem? ha)
      obtain ⟨v2, HV2⟩ : ∃ v, Hid (nextS S ((a : Int) + 1) = v) := ⟨_, rfl⟩
      have HV3 : Hid (v2 = hdR S[k + 1]?) := by rw [Hid, ← HV2.out, next_after HS.out ha]
      obtain ⟨g, HG⟩ : ∃ g, Hid (gnA cs a = g) := ⟨_, rfl⟩
      have HTk : Hid (hsV (allH cs (S.take k)) ++ h2 ((a : Int), g) = hsV (allH cs (S.take (k + 1)))) := by
        obtain ⟨hl, he⟩ := List.getElem?_eq_some_iff.1 ha
        rw [Hid, hsV_append, List.take_succ_eq_append_getElem hl, he]
        simp [allH, handA, HG.out]
      have ha2 : a < 16777216 := by omega
      clear ha HV
      go_wp2_with (first
        | (go_at_call 41; refine (handle_c (hsA.grew hm.made_grew) hac HG).mono ?_; rintro e w' ⟨rfl, hg⟩; replace hm := hm.grew hg; clear hg)
        | (refine wpl_build1 (v := hv ((a : Int), g)) elemH (by decide) rfl rfl hm ?_; clear hm; intro gb w2 hm; replace hm : St w [blk gb (h2 ((a : Int), g)).toArray 30, own B k cap 30 2 (hsV (allH cs (S.take k)))] w2 := hm)
        | (refine wpl_append (B := some ⟨gb, 0, none⟩) (m := 1) (news := h2 ((a : Int), g)) elemH rfl rfl hm (Ent.skip (Ent.refl _)) RdS.blk rfl (h2_one _) (by unfold maxLen; omega) (by omega) ?_; clear hm; intro B' cap' w3 hm; replace hm := hm.rot.drop; rw [HTk.out] at hm)
        | (go_at_call 50; refine (next_v (hsS.grew hm.made_grew) (hT.grew hm.made_grew) HV2).mono ?_; rintro e w' ⟨rfl, hg⟩; replace hm := hm.grew hg; clear hg))
      go_roundw
      case rel => exact ⟨k + 1, B', cap', v2, hkl, rfl, rfl, HV3, hm⟩
      case measure => simp <;> omega
    · have hkn : k = n := by
        rcases Nat.lt_or_ge k n with h | h
        · have h2 := HV.out
          rw [List.getElem?_eq_getElem (by rw [hn.out]; exact h)] at h2
          rw [h2] at hv0
          exact absurd (Int.natCast_nonneg _) hv0
        · omega
      subst hkn
      rw [List.take_of_length_le (by rw [hn.out]; exact Nat.le_refl _)] at hm
      clear HV
      go_wp2
      go_ret
      exact ⟨B, cap, rfl, hm⟩
theorem live_c {w0 w : World} {L : List As} {D : Nat} {top : Int} {cs : List ACell} (hT : Tab w) (hs : St w0 (AlB D top cs :: L) w) {n : Nat} (hn : Hid ((idxS 1 cs).length = n)) :
    Calls Tryd.prog 44 #[.pointer (some ⟨D, 0, none⟩)] w fun e w' => ∃ B cap, e = .returned (.slice B n cap) ∧ St w [own B n cap 30 2 (hsV (allH cs (idxS 1 cs)))] w' := by
  have hsA := hs
  obtain ⟨_, TF, TL, TR, G, cap, hs⟩ := hs.alopen
  obtain ⟨_, d1, _, _, _, _⟩ := alRd hs
  go_enter Tryd.func44, Tryd.ntmps44
  go_wp2_with (first
    | (go_at_call 36; refine (allA_c (sorted_idxS 1 cs) (fun a ha => (mem_idxS.1 ha).1) hT hs.up2 hsA hn).mono ?_; rintro e w' ⟨B, cap, rfl, hm⟩))
  go_ret
  exact ⟨B, cap, rfl, hm⟩
end Go.Proofs.YtkcbjkadalebjaaDoor
