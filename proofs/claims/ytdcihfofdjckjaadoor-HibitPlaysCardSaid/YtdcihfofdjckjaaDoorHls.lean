/-
  HibitLists.
-/
import Derived.Test.YtdcihfofdjckjaaDoorHib8
set_option maxRecDepth 100000
namespace Go.Proofs.YtdcihfofdjckjaaDoor
open Go Go.RowKit
attribute [local irreducible] wpList Calls Code.wp

theorem intv_get {l : List Nat} {k v : Nat} (h : l[k]? = some v) : (intv l)[k]? = some (.int .i64 (v : Int)) := by simp [intv, h]
theorem and_ff (z : Int) : bits .and .i64 z 255 = ((z % 256).toNat : Nat) := by
  show IntKind.i64.wrap ((BitVec.ofInt 64 z &&& BitVec.ofInt 64 255).toNat : Int) = _
  rw [BitVec.toNat_and, show (BitVec.ofInt 64 255).toNat = 2 ^ 8 - 1 by decide, Nat.and_two_pow_sub_one_eq_mod, BitVec.toNat_ofInt, IntKind.wrap_i64]
  omega
theorem hlist_n {w0 w : World} {L : List As} {T : Nat} {S : List Nat} (hs : St w0 (HSet T S :: L) w) (hT : Tab w) {f m : Int} {l : List Nat} {n : Nat} (h : Hid (listS S f m = l)) (hn : Hid (l.length = n)) :
    Calls Tryd.prog 13 #[.pointer (some ⟨T, 0, none⟩), .int .i64 f, .int .i64 m] w fun e w' =>
      ∃ A cap, e = .returned (.slice A n cap) ∧ St w [own A n cap 3 1 (intv l)] w' := by
  rw [← hn.out]; exact hlist_v hs hT h
theorem insS_len (i : Nat) : ∀ l : List Nat, (insS i l).length ≤ l.length + 1
  | [] => by simp [insS]
  | a :: l => by
    unfold insS
    have := insS_len i l
    split
    · simp
    · split
      · simp
      · simp; omega
theorem addS_len (S : List Nat) (i : Int) : (addS S i).length ≤ S.length + 1 := by
  unfold addS
  split
  · exact insS_len _ _
  · omega
theorem foldS_len : ∀ (zs : List Int) (S : List Nat), (zs.foldl addS S).length ≤ S.length + zs.length
  | [], S => by simp
  | z :: zs, S => by
    have h1 := foldS_len zs (addS S z)
    have h2 := addS_len S z
    simp only [List.foldl_cons, List.length_cons]
    omega
theorem setS_len (zs : List Int) : (setS zs).length ≤ zs.length := by
  have h := foldS_len zs []
  unfold setS
  simpa using h
theorem fromS_zero (S : List Nat) : fromS S 0 = S := List.filter_eq_self.2 fun a _ => by simp
/-- How far the pieces have come. -/
def PieceI (S : List Nat) (a : Int) (k : Nat) : Prop := fromS S a = S.drop k ∧ k ≤ S.length
theorem pieceI_start (S : List Nat) : PieceI S 0 0 := ⟨by rw [fromS_zero]; rfl, Nat.zero_le _⟩
theorem pieceI_list {S : List Nat} {a : Int} {k q : Nat} (h : PieceI S a k) (hq : q ≤ 100000) : listS S a (q : Nat) = (S.drop k).take q := by
  unfold listS
  rw [h.1, show (min (q : Int) 100000).toNat = q by omega]
theorem pieceI_next {S : List Nat} (hS : S.Pairwise (· < ·)) {a : Int} {k q v : Nat} (h : PieceI S a k) (hl : 0 < ((S.drop k).take q).length) (hv : ((S.drop k).take q)[((S.drop k).take q).length - 1]? = some v) : PieceI S ((v : Int) + 1) (k + ((S.drop k).take q).length) := by
  rw [List.length_take, List.length_drop] at *
  have h1 : (fromS S a)[min q (S.length - k) - 1]? = some v := by
    rw [h.1]
    rw [List.getElem?_take] at hv
    rwa [if_pos (by omega)] at hv
  have h2 := fromS_drop hS h1
  refine ⟨?_, by have := h.2; omega⟩
  rw [← h2, h.1, List.drop_drop]
  congr 1
  omega
theorem sorted_get {S : List Nat} (hS : S.Pairwise (· < ·)) {c : Nat} (hc : c + 1 < S.length) : S[c]'(by omega) < S[c + 1] := List.pairwise_iff_getElem.1 hS c (c + 1) _ _ (Nat.lt_succ_self c)
attribute [local irreducible] setS addS okN memS remS errN nextS listS fromS PieceI
set_option maxHeartbeats 1000000 in
theorem lists_c {w0 : World} (hT : Tab w0) {va : Value} {za : List Int} (hva : IntArg w0 va za) (z : Int) : Calls Tryd.prog 4 #[va, .int .i64 z] w0 (LawPost w0) := by
  obtain ⟨A, na, ca, rfl, hlen, hnc, hcm, hra, hba⟩ := hva
  subst hlen
  have hlm : za.length ≤ maxLen := by omega
  unfold maxLen at hcm
  have hs := St.start w0
  have hand := and_ff z
  have hr : (z % 256).toNat < 256 := by omega
  generalize (z % 256).toNat = r at hand hr
  have hrm : (r : Int) % 10 = ((r % 10 : Nat) : Int) := by omega
  have hq9 : r % 10 < 10 := by omega
  generalize r % 10 = q at hrm hq9
  clear hba
  by_cases h60 : 60 < za.length
  · go_enter Tryd.func4, Tryd.ntmps4
    go_wp2_with (first
      | (go_at_call 9; refine (awake2 hT).mono ?_; rintro e w' ⟨rfl, hg⟩; replace hs := hs.grew hg; clear hg))
    go_ret
    exact ⟨rfl, hs⟩
  have hSl : (setS za).length ≤ 60 := Nat.le_trans (setS_len za) (by omega)
  obtain ⟨S, HSE⟩ : ∃ S, Hid (setS za = S) := ⟨_, rfl⟩
  rw [HSE.out] at hSl
  obtain ⟨n, HN⟩ : ∃ n, Hid (S.length = n) := ⟨_, rfl⟩
  have HA : Hid (listS S 0 1000 = S) := by
    have := pieceI_list (pieceI_start S) (show 1000 ≤ 100000 by decide)
    rw [Hid, show (1000 : Int) = ((1000 : Nat) : Int) from rfl, this, List.drop_zero, List.take_of_length_le (by omega)]
  have hn60 : n ≤ 60 := by rw [← HN.out]; exact hSl
  clear hSl
  go_enter Tryd.func4, Tryd.ntmps4
  go_wp2_with (first
    | (go_at_call 10; refine (new_v hs hra hlm rfl HSE).mono ?_; clear hs; rintro e w1 ⟨T, rfl, hs⟩)
    | (go_at_call 13; refine (hlist_n hs (hT.grew hs.below) HA HN).mono ?_; rintro e w' ⟨B, cap, rfl, hm⟩; replace hs := hs.made hm; clear hm))
  go_loopw [7, 8] (fun av kv wr => ∃ (a : Int) (k : Nat), k ≤ n ∧ av = .int .i64 a ∧ kv = .int .i64 (k : Nat) ∧ -1 ≤ a ∧ a ≤ 16777216 ∧ PieceI S a k ∧ St w0 [own B n cap 3 1 (intv S), HSet T S] wr) (fun _ kv _ => n - (intOf kv).toNat)
  case atStart => exact ⟨0, 0, Nat.zero_le _, rfl, rfl, by decide, by decide, pieceI_start S, hs⟩
  case round =>
    clear hs
    obtain ⟨a, k, hk, rfl, rfl, ha1, ha2, hP, hs⟩ := hrel
    obtain ⟨hS, hsm⟩ := hs.rot.sorted
    have hPl := pieceI_list hP (show q + 1 ≤ 100000 by omega)
    have hPn := fun v => pieceI_next (v := v) (q := q + 1) hS hP
    have hPg : ∀ i v : Nat, ((S.drop k).take (q + 1))[i]? = some v → S[k + i]? = some v := fun i v h => by
      rw [List.getElem?_take] at h
      split at h
      · rwa [List.getElem?_drop] at h
      · cases h
    have hPL : ((S.drop k).take (q + 1)).length = min (q + 1) (n - k) := by rw [List.length_take, List.length_drop, HN.out]
    generalize (S.drop k).take (q + 1) = P at hPl hPn hPg hPL
    obtain ⟨m, HM⟩ : ∃ m, Hid (P.length = m) := ⟨_, rfl⟩
    rw [HM.out] at hPn hPL
    have HLI : Hid (listS S a ((q : Int) + 1) = P) := by rw [Hid, ← hPl]; push_cast; rfl
    clear hPl hP
    by_cases hm0 : m = 0
    · subst hm0
      obtain rfl : k = n := by omega
      have HL0 : Hid (listS S 0 0 = []) := by rw [Hid]; unfold listS; rw [show (min (0 : Int) 100000).toNat = 0 by decide]; rfl
      have HL3 : Hid (listS S 0 (-3) = []) := by rw [Hid]; unfold listS; rw [show (min (-3 : Int) 100000).toNat = 0 by decide]; rfl
      have HNn : Hid (([] : List Nat).length = 0) := rfl
      clear hPn hPg hPL hS hsm
      go_wp2_with (first
        | (go_at_call 13; refine (hlist_n hs.rot (hT.grew hs.below) HLI HM).mono ?_; rintro e w' ⟨B2, cap2, rfl, hm⟩; replace hs := (hs.made hm).drop; clear hm)
        | (go_at_call 13; refine (hlist_n hs.rot (hT.grew hs.below) HL0 HNn).mono ?_; rintro e w' ⟨B3, cap3, rfl, hm⟩; replace hs := (hs.made hm).drop; clear hm)
        | (go_at_call 13; refine (hlist_n hs.rot (hT.grew hs.below) HL3 HNn).mono ?_; rintro e w' ⟨B4, cap4, rfl, hm⟩; replace hs := (hs.made hm).drop; clear hm)
        | (go_at_call 14; refine (hlen_v hs.rot HN).mono ?_; rintro e w' ⟨rfl, rfl⟩)
        | (go_at_call 9; refine (awake2 (hT.grew hs.below)).mono ?_; rintro e w' ⟨rfl, hg⟩; replace hs := hs.grew hg; clear hg))
      go_ret
      exact ⟨rfl, hs.drop.drop⟩
    · have hkm : k + m ≤ n := by omega
      clear hPL
      have hmd : decide ((m : Int) = 0) = false := decide_eq_false (by omega)
      obtain ⟨gB, rfl⟩ := hs.own_at (by omega)
      go_wp2_with (first
        | (go_at_call 13; refine (hlist_n hs.rot (hT.grew hs.below) HLI HM).mono ?_; rintro e w' ⟨B2, cap2, rfl, hm⟩; replace hs := hs.made hm; clear hm))
      obtain ⟨gP, rfl⟩ := hs.own_at (by omega)
      go_loopw [8, 10] (fun kv iv wr => ∃ i c : Nat, i ≤ m ∧ Hid (c = k + i) ∧ kv = .int .i64 (c : Nat) ∧ iv = .int .i64 (i : Nat) ∧ St w0 [own (some ⟨gP, 0, none⟩) m cap2 3 1 (intv P), own (some ⟨gB, 0, none⟩) n cap 3 1 (intv S), HSet T S] wr) (fun _ iv _ => m - (intOf iv).toNat)
      case atStart => exact ⟨0, k, Nat.zero_le _, rfl, rfl, rfl, hs⟩
      case round =>
        clear hs
        obtain ⟨i, c, hi, hc, rfl, rfl, hs⟩ := hrel
        by_cases hlt : i < m
        · obtain ⟨x, hx⟩ : ∃ x, P[i]? = some x := ⟨_, List.getElem?_eq_getElem (by rw [HM.out]; exact hlt)⟩
          have hx2 := hPg i x hx
          rw [← hc.out] at hx2
          have hcn : c < n := by rw [hc.out]; omega
          have c1 := (Rd.own (w0 := w0) (g := gP) (n := m) (cap := cap2) (e := 3) (size := 1) (L := [own (some ⟨gB, 0, none⟩) n cap 3 1 (intv S), HSet T S]) (intv_get hx)) _ hs
          have r2 := fun (v j : Nat) (h : S[j]? = some v) => ((Rd.own (w0 := w0) (g := gB) (n := n) (cap := cap) (e := 3) (size := 1) (L := [HSet T S]) (intv_get h)).tail (p := own (some ⟨gP, 0, none⟩) m cap2 3 1 (intv P))) _ hs
          have c2 := r2 x c hx2
          rcases Nat.eq_zero_or_pos c with h0 | h0
          · subst h0
            have hd0 : decide (n = 0) = false := decide_eq_false (by omega)
            clear hx hx2 hPg hPn r2 HM HN HA HLI HSE hS hsm
            go_wp2
            refine wp_region_grow (by kernel_rfl) (by kernel_rfl) fun hne => ?_
            have g1 := fun p : GW wr => p.grew.cell c1
            have g2 := fun p : GW wr => p.grew.cell c2
            clear c1 c2
            repeat (go_big_quiet_step (fail))
            refine wpQuiet_nil ?_
            clear hne g1 g2
            intro u hu
            replace hs := hs.grew hu
            clear hu
            go_wp2
            go_roundw
            case rel => exact ⟨i + 1, 1, by omega, Lib.hid (by have := hc.out; omega), rfl, by go_num, hs⟩
            case measure => simp [intOf] <;> omega
          · obtain ⟨d, rfl⟩ : ∃ d, c = d + 1 := ⟨c - 1, by omega⟩
            have hdl : d + 1 < S.length := by rw [HN.out]; exact hcn
            obtain ⟨y, hy⟩ : ∃ y, S[d]? = some y := ⟨_, List.getElem?_eq_getElem (Nat.lt_of_succ_lt hdl)⟩
            have hyx : (y : Int) < x := by
              have h1 := sorted_get hS hdl
              rw [List.getElem?_eq_getElem (Nat.lt_of_succ_lt hdl)] at hy
              rw [List.getElem?_eq_getElem hdl] at hx2
              rw [Option.some.inj hy, Option.some.inj hx2] at h1
              omega
            have c3 := r2 y d hy
            have hd0 : decide ((n : Int) ≤ (d : Int) + 1) = false := decide_eq_false (by omega)
            have hd1 : decide ((0 : Int) < (d : Int) + 1) = true := decide_eq_true (by omega)
            have hd2 : decide ((x : Int) ≤ (y : Int)) = false := decide_eq_false (by omega)
            clear hx hx2 hPg hPn r2 HM HN HA HLI HSE hS hsm hy hdl
            go_wp2
            refine wp_region_grow (by kernel_rfl) (by kernel_rfl) fun hne => ?_
            have g1 := fun p : GW wr => p.grew.cell c1
            have g2 := fun p : GW wr => p.grew.cell c2
            have g3 := fun p : GW wr => p.grew.cell c3
            clear c1 c2 c3
            repeat (go_big_quiet_step (fail))
            refine wpQuiet_nil ?_
            clear hne g1 g2 g3
            intro u hu
            replace hs := hs.grew hu
            clear hu
            go_wp2
            go_roundw
            case rel => exact ⟨i + 1, d + 2, by omega, Lib.hid (by have := hc.out; omega), by go_num, by go_num, hs⟩
            case measure => simp [intOf] <;> omega
        · obtain rfl : i = m := by omega
          obtain rfl : c = k + i := hc.out
          clear hc
          obtain ⟨x, hx⟩ : ∃ x, P[i - 1]? = some x := ⟨_, List.getElem?_eq_getElem (by rw [HM.out]; omega)⟩
          have hP2 := hPn x (by omega) hx
          have hx3 : x < 16777216 := hsm x (List.mem_of_getElem? (hPg _ _ hx))
          have hie : (i : Int) - 1 = ((i - 1 : Nat) : Int) := by omega
          have c1 := (Rd.own (w0 := w0) (g := gP) (n := i) (cap := cap2) (e := 3) (size := 1) (L := [own (some ⟨gB, 0, none⟩) n cap 3 1 (intv S), HSet T S]) (intv_get hx)) _ hs
          have hi1 : i - 1 < i := by omega
          clear hx hPg hPn HM HN HA HLI HSE hS hsm
          go_wp2
          go_roundw
          case rel => exact ⟨(x : Int) + 1, k + i, by omega, rfl, by go_num, by omega, by omega, hP2, hs.drop⟩
          case measure => simp [intOf] <;> omega
end Go.Proofs.YtdcihfofdjckjaaDoor
