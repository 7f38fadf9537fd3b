/-
  HibitBack.
-/
import Derived.Test.YtdcihfofdjckjaaDoorHsame2
import Derived.Test.YtdcihfofdjckjaaDoorHlev
import Derived.Test.YtdcihfofdjckjaaDoorHls
import Derived.Test.YtdcihfofdjckjaaDoorHfar
set_option maxRecDepth 100000
namespace Go.Proofs.YtdcihfofdjckjaaDoor
open Go Go.RowKit
attribute [local irreducible] wpList Calls Code.wp

/-- What was added that was not there, and is there still but the first i. -/
structure BackI (S0 O S : List Nat) (i : Nat) : Prop where
  sorted : S.Pairwise (· < ·)
  mem : ∀ x, x ∈ S ↔ x ∈ S0 ∨ x ∈ O.drop i
  nodup : O.Nodup
  out : ∀ q ∈ O, q ∉ S0 ∧ q < 16777216
theorem backI_start {S0 : List Nat} (h : S0.Pairwise (· < ·)) : BackI S0 [] S0 0 := ⟨h, fun x => by simp, List.nodup_nil, fun q hq => absurd hq (List.not_mem_nil)⟩
theorem BackI.add {S0 O S : List Nat} (h : BackI S0 O S 0) {q : Nat} (hq : q < 16777216) (hn : q ∉ S) : BackI S0 (O ++ [q]) (insS q S) 0 where
  sorted := sorted_insS h.sorted
  mem x := by
    have := h.mem x
    simp only [List.drop_zero] at this ⊢
    rw [mem_insS, this, List.mem_append, List.mem_singleton]
    constructor
    · rintro (h1 | h1 | h1)
      · exact .inr (.inr h1)
      · exact .inl h1
      · exact .inr (.inl h1)
    · rintro (h1 | h1 | h1)
      · exact .inr (.inl h1)
      · exact .inr (.inr h1)
      · exact .inl h1
  nodup := by
    rw [List.nodup_append]
    refine ⟨h.nodup, by simp, fun a ha b hb => ?_⟩
    simp at hb
    subst hb
    exact fun e => hn ((h.mem _).2 (.inr (by simpa [e] using ha)))
  out p hp := by
    rcases List.mem_append.1 hp with h1 | h1
    · exact h.out p h1
    · simp at h1
      subst h1
      exact ⟨fun h2 => hn ((h.mem _).2 (.inl h2)), hq⟩
theorem BackI.rem {S0 O S : List Nat} {i q : Nat} (h : BackI S0 O S i) (hq : O[i]? = some q) : q ∈ S ∧ q < 16777216 ∧ BackI S0 O (delS q S) (i + 1) := by
  have hi : i < O.length := by
    rcases Nat.lt_or_ge i O.length with h1 | h1
    · exact h1
    · rw [List.getElem?_eq_none h1] at hq; cases hq
  have hqe : O[i] = q := by rw [List.getElem?_eq_getElem hi] at hq; exact Option.some.inj hq
  have hd : O.drop i = q :: O.drop (i + 1) := by rw [List.drop_eq_getElem_cons hi, hqe]
  have hqO : q ∈ O := List.mem_of_getElem? hq
  have hnd : (O.drop i).Nodup := h.nodup.sublist (List.drop_sublist i O)
  rw [hd, List.nodup_cons] at hnd
  refine ⟨(h.mem q).2 (.inr (by rw [hd]; exact List.mem_cons_self)), (h.out q hqO).2, sorted_delS h.sorted, fun x => ?_, h.nodup, h.out⟩
  rw [mem_delS, h.mem, hd, List.mem_cons]
  constructor
  · rintro ⟨h1 | h1 | h1, h2⟩
    · exact .inl h1
    · exact absurd h1 h2
    · exact .inr h1
  · rintro (h1 | h1)
    · exact ⟨.inl h1, fun e => (h.out q hqO).1 (e ▸ h1)⟩
    · exact ⟨.inr (.inr h1), fun e => hnd.1 (e ▸ h1)⟩
theorem BackI.done {S0 O S : List Nat} {i : Nat} (h : BackI S0 O S i) (hS : S0.Pairwise (· < ·)) (hi : O.length ≤ i) : S = S0 :=
  sorted_ext h.sorted hS fun x => by rw [h.mem, List.drop_of_length_le hi]; simp
theorem BackI.len {S0 O S : List Nat} (h : BackI S0 O S 0) (hS : S0.Pairwise (· < ·)) : S.length = S0.length + O.length := by
  rw [← List.length_append]
  refine List.Perm.length_eq ((List.perm_ext_iff_of_nodup (sorted_nodup h.sorted) ?_).2 fun x => ?_)
  · rw [List.nodup_append]
    exact ⟨sorted_nodup hS, h.nodup, fun a ha b hb e => (h.out b hb).1 (e ▸ ha)⟩
  · rw [h.mem, List.mem_append, List.drop_zero]
theorem remS_in {S : List Nat} {i : Nat} (h : i < 16777216) : remS S (i : Int) = delS i S := by unfold remS; rw [okN_in (by omega) (by omega)]; simp
theorem added {S : List Nat} {z : Int} (h : (okN z && !memS S z) = true) : ∃ q : Nat, z = (q : Int) ∧ q < 16777216 ∧ q ∉ S := by
  rw [Bool.and_eq_true] at h
  have h1 : 0 ≤ z ∧ z < 16777216 := of_decide_eq_true h.1
  obtain ⟨q, rfl⟩ := Int.eq_ofNat_of_zero_le h1.1
  exact ⟨q, rfl, by omega, fun hq => by have := memS_nat.2 hq; rw [this] at h; simp at h⟩
theorem not_added {S : List Nat} (hS : S.Pairwise (· < ·)) {z : Int} (h : (okN z && !memS S z) = false) : addS S z = S := by
  unfold addS
  cases ho : okN z with
  | false => rfl
  | true =>
    have h1 : 0 ≤ z ∧ z < 16777216 := of_decide_eq_true ho
    obtain ⟨q, rfl⟩ := Int.eq_ofNat_of_zero_le h1.1
    rw [ho] at h
    have h2 : memS S (q : Int) = true := by simpa using h
    simpa using ins_id hS (memS_nat.1 h2)
theorem nil_next : nextS [] 0 = -1 := by decide
theorem nil_list : listS [] 0 5 = [] := by decide
theorem nil_word : wordS [] 3 0 = 0 := by decide
attribute [local irreducible] setS addS okN memS remS errN nextS listS fromS wordS
set_option maxHeartbeats 1000000 in
theorem back_c {w0 : World} (hT : Tab w0) {va vb : Value} {za zb : List Int} (hva : IntArg w0 va za) (hvb : IntArg w0 vb zb) (z : Int) : Calls Tryd.prog 6 #[va, vb, .int .i64 z] w0 (LawPost w0) := by
  obtain ⟨A, na, ca, rfl, hlen, hnc, hcm, hra, hba⟩ := hva
  obtain ⟨B, nb, cb, rfl, hlenb, hncb, hcmb, hrb, hbb⟩ := hvb
  subst hlen
  subst hlenb
  have hlm : za.length ≤ maxLen := by omega
  unfold maxLen at hcm hcmb
  have hs := St.start w0
  have hand := and_3ffff z
  have hm := kk_lt z
  generalize kk z = m at hand hm
  clear hba hbb
  by_cases h50 : 50 < za.length ∨ 50 < zb.length
  · by_cases h51 : 50 < za.length
    · clear h50
      go_enter Tryd.func6, Tryd.ntmps6
      go_wp2_with (first
        | (go_at_call 9; refine (awake2 hT).mono ?_; rintro e w' ⟨rfl, hg⟩; replace hs := hs.grew hg; clear hg))
      go_ret
      exact ⟨rfl, hs⟩
    · have h52 : 50 < zb.length := h50.resolve_left h51
      clear h50
      go_enter Tryd.func6, Tryd.ntmps6
      go_wp2_with (first
        | (go_at_call 9; refine (awake2 hT).mono ?_; rintro e w' ⟨rfl, hg⟩; replace hs := hs.grew hg; clear hg))
      go_ret
      exact ⟨rfl, hs⟩
  have h51 : ¬ 50 < za.length := fun h => h50 (.inl h)
  have h52 : ¬ 50 < zb.length := fun h => h50 (.inr h)
  clear h50
  obtain ⟨S0, HSE⟩ : ∃ S, Hid (setS za = S) := ⟨_, rfl⟩
  go_enter Tryd.func6, Tryd.ntmps6
  go_wp2_with (first
    | (go_at_call 10; refine (new_v hs hra hlm rfl HSE).mono ?_; clear hs; rintro e w1 ⟨T1, rfl, hs⟩)
    | (go_at_call 10; refine (new_v hs hra.tail hlm rfl HSE).mono ?_; clear hs; rintro e w2 ⟨T2, rfl, hs⟩))
  obtain ⟨hS0, hS0s⟩ := hs.sorted
  replace hs : St w0 [HSet T1 S0, own none 0 0 3 1 (intv []), HSet T2 S0] w2 := (hs.rot.own_nil 3 1).rot
  go_loopw [9, 10] (fun ov cv wr => ∃ (k : Nat) (O S : List Nat) (D : Option Addr) (cap : Nat), k ≤ zb.length ∧ O.length ≤ k ∧ ov = .slice D O.length cap ∧ cv = .int .i64 (k : Nat) ∧ BackI S0 O S 0 ∧ St w0 [HSet T1 S, own D O.length cap 3 1 (intv O), HSet T2 S0] wr) (fun _ cv _ => zb.length - (intOf cv).toNat)
  case atStart => exact ⟨0, [], S0, none, 0, Nat.zero_le _, Nat.zero_le _, rfl, rfl, backI_start hS0, hs⟩
  case round =>
    clear hs
    obtain ⟨k, O, S, D, cap, hk, hOk, rfl, rfl, HO, hs⟩ := hrel
    by_cases hlt : k < zb.length
    · obtain ⟨b, o, x, rfl, hcx, hx⟩ := hrb.int hlt
      have hc0 := hcx w0 (St.start w0)
      have hc := Rd.old hc0 _ hs
      obtain ⟨y, HE⟩ : ∃ y, Hid (errN x = y) := ⟨_, rfl⟩
      clear hx hcx
      cases hd : (okN x && !memS S x) with
      | true =>
        obtain ⟨q, rfl, hq, hqn⟩ := added hd
        have HD := Lib.hid hd
        have HA : Hid (addS S (q : Int) = insS q S) := by rw [Hid, addS_in (by omega) (by omega), Int.toNat_natCast]
        have HO2 := HO.add hq hqn
        clear hd HO hqn
        go_wp2_with (first
          | (go_at_call 17; refine (add_v hs HD HE HA).mono ?_; clear hs hc; rintro e w1 ⟨rfl, hs⟩; have hc := Rd.old hc0 _ hs)
          | (refine wpl_build1 elem24 (by decide) rfl rfl hs ?_; clear hs; intro gb w hs)
          | (refine wpl_append (B := some ⟨gb, 0, none⟩) (news := [.int .i64 (q : Int)]) elem24 rfl rfl hs (Ent.skip (Ent.skip (Ent.refl _))) RdS.blk rfl (ints_one _) (by unfold maxLen; omega) (by omega) ?_; clear hs; intro D' cap' w hs; rw [intv_append] at hs; replace hs := hs.rot.drop.rot))
        go_roundw
        case rel => exact ⟨k + 1, O ++ [q], insS q S, D', cap', by omega, by simp; omega, by simp, by go_num, HO2, by simpa using hs⟩
        case measure => simp [intOf] <;> omega
      | false =>
        have HD := Lib.hid hd
        have HA := Lib.hid (not_added HO.sorted hd)
        clear hd
        go_wp2_with (first
          | (go_at_call 17; refine (add_v hs HD HE HA).mono ?_; clear hs hc; rintro e w1 ⟨rfl, hs⟩; have hc := Rd.old hc0 _ hs))
        go_roundw
        case rel => exact ⟨k + 1, O, S, D, cap, by omega, by omega, rfl, by go_num, HO, hs⟩
        case measure => simp [intOf] <;> omega
    · obtain ⟨n0, HL2⟩ : ∃ n, Hid (S0.length = n) := ⟨_, rfl⟩
      have HL1 : Hid (S.length = n0 + O.length) := by rw [Hid, HO.len hS0, HL2.out]
      have hOl : O.length ≤ 50 := by omega
      have hn0 : n0 ≤ 50 := by
        have := setS_len za
        rw [HSE.out, HL2.out] at this
        omega
      clear hk hOk hrb hra
      go_wp2_with (first
        | (go_at_call 14; refine (hlen_v hs HL1).mono ?_; rintro e w' ⟨rfl, rfl⟩)
        | (go_at_call 14; refine (hlen_v (hs.ent (Ent.skip (Ent.skip (Ent.refl _)))) HL2).mono ?_; rintro e w' ⟨rfl, rfl⟩))
      clear HL1 hlt
      go_loopw [13] (fun cv wr => ∃ (i : Nat) (S : List Nat), i ≤ O.length ∧ cv = .int .i64 (i : Nat) ∧ BackI S0 O S i ∧ St w0 [HSet T1 S, own D O.length cap 3 1 (intv O), HSet T2 S0] wr) (fun cv _ => O.length - (intOf cv).toNat)
      case atStart => exact ⟨0, S, Nat.zero_le _, rfl, HO, hs⟩
      case round =>
        clear hs HO
        obtain ⟨i, S, hi, rfl, HO, hs⟩ := hrel
        by_cases hil : i < O.length
        · obtain ⟨gO, rfl⟩ := hs.rot.own_at (by omega)
          obtain ⟨q, hq⟩ : ∃ q, O[i]? = some q := ⟨_, List.getElem?_eq_getElem hil⟩
          have hc := (Rd.own (w0 := w0) (g := gO) (n := O.length) (cap := cap) (e := 3) (size := 1) (L := [HSet T2 S0]) (intv_get hq)).tail (p := HSet T1 S) _ hs
          obtain ⟨hqS, hq2, HO2⟩ := HO.rem hq
          have HM : Hid (memS S (q : Int) = true) := memS_nat.2 hqS
          have HE : Hid (errN (q : Int) = 0) := errN_in (by omega) (by omega)
          have HR : Hid (remS S (q : Int) = delS q S) := remS_in hq2
          clear hq hqS HO
          go_wp2_with (first
            | (go_at_call 18; refine (remove_v hs HM HE HR).mono ?_; clear hs hc; rintro e w1 ⟨rfl, hs⟩))
          go_roundw
          case rel => exact ⟨i + 1, delS q S, by omega, by go_num, HO2, hs⟩
          case measure => simp [intOf] <;> omega
        · obtain rfl : S = S0 := HO.done hS0 (by omega)
          clear HO hi
          go_wp2
          clear hil
          go_loopw [16] (fun cv wr => ∃ j : Int, 0 ≤ j ∧ j ≤ 4 ∧ cv = .int .i64 j ∧ St w0 [HSet T1 S, own D O.length cap 3 1 (intv O), HSet T2 S] wr) (fun cv _ => 4 - (intOf cv).toNat)
          case atStart => exact ⟨0, by decide, by decide, rfl, hs⟩
          case round =>
            clear hs
            obtain ⟨j, hj1, hj4, rfl, hs⟩ := hrel
            have h4 : j = 0 ∨ j = 1 ∨ j = 2 ∨ j = 3 ∨ j = 4 := by omega
            clear hj1 hj4
            rcases h4 with rfl | rfl | rfl | rfl | rfl
            · skip
              obtain ⟨x, HX⟩ : ∃ x, Hid (wordS S 0 ((m : Int)) = x) := ⟨_, rfl⟩
              have hs2 := hs.ent (Ent.skip (Ent.skip (Ent.refl _)))
              go_wp2
              refine wp_region_grow (by kernel_rfl) (by kernel_rfl) fun hne => ?_
              repeat (go_big_quiet_step ((first
                | (go_at_call 11; exact in_grew (hword_v (hs.grew (GW.grew _)) HX))
                | (go_at_call 11; exact in_grew (hword_v (hs2.grew (GW.grew _)) HX)))))
              refine wpQuiet_nil ?_
              clear hne hs2
              intro u hu
              replace hs := hs.grew hu
              clear hu
              go_wp2
              go_roundw
              case rel => exact ⟨0 + 1, by decide, by decide, rfl, hs⟩
              case measure => simp [intOf] <;> omega
            · skip
              obtain ⟨x, HX⟩ : ∃ x, Hid (wordS S 1 ((m : Int) / 64) = x) := ⟨_, rfl⟩
              have hs2 := hs.ent (Ent.skip (Ent.skip (Ent.refl _)))
              go_wp2
              refine wp_region_grow (by kernel_rfl) (by kernel_rfl) fun hne => ?_
              repeat (go_big_quiet_step ((first
                | (go_at_call 11; exact in_grew (hword_v (hs.grew (GW.grew _)) HX))
                | (go_at_call 11; exact in_grew (hword_v (hs2.grew (GW.grew _)) HX)))))
              refine wpQuiet_nil ?_
              clear hne hs2
              intro u hu
              replace hs := hs.grew hu
              clear hu
              go_wp2
              go_roundw
              case rel => exact ⟨1 + 1, by decide, by decide, rfl, hs⟩
              case measure => simp [intOf] <;> omega
            · skip
              obtain ⟨x, HX⟩ : ∃ x, Hid (wordS S 2 ((m : Int) / 4096) = x) := ⟨_, rfl⟩
              have hs2 := hs.ent (Ent.skip (Ent.skip (Ent.refl _)))
              go_wp2
              refine wp_region_grow (by kernel_rfl) (by kernel_rfl) fun hne => ?_
              repeat (go_big_quiet_step ((first
                | (go_at_call 11; exact in_grew (hword_v (hs.grew (GW.grew _)) HX))
                | (go_at_call 11; exact in_grew (hword_v (hs2.grew (GW.grew _)) HX)))))
              refine wpQuiet_nil ?_
              clear hne hs2
              intro u hu
              replace hs := hs.grew hu
              clear hu
              go_wp2
              go_roundw
              case rel => exact ⟨2 + 1, by decide, by decide, rfl, hs⟩
              case measure => simp [intOf] <;> omega
            · skip
              obtain ⟨x, HX⟩ : ∃ x, Hid (wordS S 3 ((m : Int) / 262144) = x) := ⟨_, rfl⟩
              have hs2 := hs.ent (Ent.skip (Ent.skip (Ent.refl _)))
              go_wp2
              refine wp_region_grow (by kernel_rfl) (by kernel_rfl) fun hne => ?_
              repeat (go_big_quiet_step ((first
                | (go_at_call 11; exact in_grew (hword_v (hs.grew (GW.grew _)) HX))
                | (go_at_call 11; exact in_grew (hword_v (hs2.grew (GW.grew _)) HX)))))
              refine wpQuiet_nil ?_
              clear hne hs2
              intro u hu
              replace hs := hs.grew hu
              clear hu
              go_wp2
              go_roundw
              case rel => exact ⟨3 + 1, by decide, by decide, rfl, hs⟩
              case measure => simp [intOf] <;> omega
            · have h1 := SetV.of hs
              have h2 := SetV.of (hs.ent (Ent.skip (Ent.skip (Ent.refl _))))
              have hb : true = true ↔ S = S := ⟨fun _ => rfl, fun _ => rfl⟩
              have HS := Lib.hid (hsame_g h1 h2 hS0 hS0s hS0 hS0s hb)
              have HN0 := Lib.hid nil_next
              have HL0 : Hid (([] : List Nat).length = 0) := rfl
              have HLi := Lib.hid nil_list
              have HW := Lib.hid nil_word
              clear h1 h2 hb hand hm hS0 hS0s
              go_wp2_with (first
                | (go_at_call 19; refine HS.out.mono ?_; rintro e w' ⟨rfl, hg⟩; replace hs := hs.grew hg; clear hg)
                | (go_at_call 20; refine (clear_h hs).mono ?_; clear hs; rintro e w' ⟨rfl, hs⟩)
                | (go_at_call 14; refine (hlen_v hs HL0).mono ?_; rintro e w' ⟨rfl, rfl⟩)
                | (go_at_call 15; refine (next_v hs (hT.grew hs.below) HN0).mono ?_; rintro e w' ⟨rfl, hg⟩; replace hs := hs.grew hg; clear hg)
                | (go_at_call 13; refine (hlist_n hs (hT.grew hs.below) HLi HL0).mono ?_; rintro e w' ⟨B4, cap4, rfl, hm⟩; replace hs := (hs.made hm).drop; clear hm)
                | (go_at_call 11; refine (hword_v hs HW).mono ?_; rintro e w' ⟨rfl, hg⟩; replace hs := hs.grew hg; clear hg)
                | (go_at_call 9; refine (awake2 (hT.grew hs.below)).mono ?_; rintro e w' ⟨rfl, hg⟩; replace hs := hs.grew hg; clear hg))
              go_ret
              exact ⟨rfl, hs.drop.drop.drop⟩
end Go.Proofs.YtdcihfofdjckjaaDoor
