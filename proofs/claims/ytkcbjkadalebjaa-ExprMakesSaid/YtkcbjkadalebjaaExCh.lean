/-
  ExprChecks: the walk.
-/
import Derived.Test.YtkcbjkadalebjaaExAr
import Derived.Test.YtkcbjkadalebjaaExDe
set_option maxRecDepth 100000
namespace Go.Proofs.Ytkcbjkadalebjaa
open Go Go.RowKit
attribute [local irreducible] wpList Calls Code.wp

theorem PtrsR.own {w0 w : World} {B : Option Addr} {n cap : Nat} {e : TypeId} {ss : List Value} {L : List As} (hs : St w0 (own B n cap e 1 ss :: L) w) : PtrsR w B ss := fun i v hv => by
  obtain ⟨b, o, rfl, hc⟩ := (RdS.own hs).get hv
  exact ⟨b, o, rfl, hc _ hs⟩
theorem load_back {xs : List RNode} {m : Nat} (h : checkV xs (m : Int) = 0) : (xs.map toE).map toR = xs := by
  have := (checkV_ok h).back
  rw [List.map_map]
  conv => rhs; rw [← List.map_id xs]
  exact List.map_congr_left fun x hx => this x hx
theorem take_all {α : Type} {rs : List α} {i : Nat} {r : α} {p : α → Prop} (h : ∀ x ∈ rs.take i, p x) (hr : rs[i]? = some r) (hp : p r) : ∀ x ∈ rs.take (i + 1), p x := by
  obtain ⟨hi, rfl⟩ := List.getElem?_eq_some_iff.1 hr
  rw [List.take_succ_eq_append_getElem hi]
  intro x hx
  rcases List.mem_append.1 hx with h1 | h1
  · exact h x h1
  · rw [List.mem_singleton.1 h1]; exact hp
attribute [local irreducible] checkV sameNd setS
set_option maxHeartbeats 4000000 in
theorem echecks_c {w0 : World} {va : Value} {rs : List NRow} (hva : RowsArg encN (QN w0) w0 va rs) (z : Int) : Calls Try.prog 10 #[va, .int .i64 z] w0 (LawPost w0) := by
  obtain ⟨A, cap, rfl, hle, hcap, hrow⟩ := rows_ndv hva
  unfold maxLen at hcap
  have HR := Lib.hid hrow
  have hs := St.start w0
  obtain ⟨n, HN⟩ : ∃ n, Hid (rs.length = n) := ⟨_, rfl⟩
  rw [HN.out] at hle ⊢
  clear hrow hva
  by_cases h60 : 60 < n
  · have d : decide (60 < (n : Int)) = true := decide_eq_true (by omega)
    clear h60
    go_enter Try.func10, Try.ntmps10
    go_wp2_with (first
      | (go_at_call 11; refine (awake3 _).mono ?_; rintro e w' ⟨rfl, hg⟩; replace hs := hs.grew hg; clear hg))
    go_ret
    exact ⟨rfl, hs⟩
  · have d : decide (60 < (n : Int)) = false := decide_eq_false (by omega)
    obtain ⟨m, hm4, hand⟩ := mask_small z 2 (by decide)
    replace hand : bits .and .i64 z 3 = (m : Nat) := hand
    have hm : m < 4 := hm4
    clear hm4
    go_enter Try.func10, Try.ntmps10
    go_wp2
    go_loopw [5] (fun cv wr => ∃ i : Nat, i ≤ n ∧ cv = .int .i64 (i : Nat) ∧ Hid (∀ r ∈ rs.take i, r.x.kids.length ≤ 80) ∧ St w0 [] wr) (fun cv _ => n - (intOf cv).toNat)
    case atStart => exact ⟨0, Nat.zero_le _, rfl, (fun r hr => by simp at hr), hs⟩
    case round =>
      clear hs
      obtain ⟨i, hi, rfl, HK, hs⟩ := hrel
      by_cases hlt : i < n
      · obtain ⟨r, hr⟩ : ∃ r, rs[i]? = some r := ⟨_, List.getElem?_eq_getElem (by rw [HN.out]; exact hlt)⟩
        obtain ⟨hq, b, o, rfl, c0, c1⟩ := HR.out i r hr
        have hb1 := Lib.hid hq.row.bound
        have hl1 := Lib.hid hq.row.le
        replace c1 := hs.made_grew.cell c1
        obtain ⟨k, HKl⟩ : ∃ k, Hid (r.x.kids.length = k) := ⟨_, rfl⟩
        rw [HKl.out] at c1
        clear hq c0
        by_cases h80 : 80 < k
        · have d8 : decide (80 < (k : Int)) = true := decide_eq_true (by omega)
          clear h80 hr
          go_wp2_with (first
            | (go_at_call 11; refine (awake3 _).mono ?_; rintro e w' ⟨rfl, hg⟩; replace hs := hs.grew hg; clear hg))
          go_ret
          exact ⟨rfl, hs⟩
        · have d8 : decide (80 < (k : Int)) = false := decide_eq_false (by omega)
          have HK2 : Hid (∀ r ∈ rs.take (i + 1), r.x.kids.length ≤ 80) := take_all HK.out hr (by rw [HKl.out]; omega)
          clear h80 hr
          go_wp2
          go_roundw
          case rel => exact ⟨i + 1, by omega, by go_num, HK2, hs⟩
          case measure => simp [intOf] <;> omega
      · have hin : i = n := by omega
        subst hin
        have hk := HK.out
        rw [List.take_of_length_le (by rw [HN.out]; exact Nat.le_refl _)] at hk
        have HV := Lib.hid (nd_short HR.out hk)
        have HXl : Hid ((rs.map NRow.x).length = i) := by rw [Hid, List.length_map, HN.out]
        generalize rs.map NRow.x = xs at HV HXl
        clear hk HK HR HN
        obtain ⟨v1, HV1⟩ : ∃ v, Hid (checkV xs z = v) := ⟨_, rfl⟩
        have hi4 : i ≤ 4000000000 := by omega
        go_wp2_with (first
          | (go_at_call 26; refine (chk_c HXl hi4 (HV.out.grew hs.made_grew) HV1).mono ?_; rintro e w' ⟨rfl, hg⟩; replace hs := hs.grew hg; clear hg)
          | (go_at_call 31; refine (refchk_c HXl hi4 (HV.out.grew hs.made_grew) HV1).mono ?_; rintro e w' ⟨rfl, hg⟩; replace hs := hs.grew hg; clear hg))
        clear hand
        replace hs := hs.own_nil 27 1
        go_loopw [7, 8] (fun sv cv wr => ∃ (j : Nat) (B : Option Addr) (c : Nat) (ss : List Value), j ≤ m ∧ sv = .slice B j c ∧ cv = .int .i64 (j : Nat) ∧ Hid (ss.length = j) ∧ Hid (∀ v ∈ ss, v.oneCell' = true) ∧ St w0 [own B j c 27 1 ss] wr) (fun _ cv _ => m - (intOf cv).toNat)
        case atStart => exact ⟨0, none, 0, [], Nat.zero_le _, rfl, rfl, rfl, (fun v hv => nomatch hv), hs⟩
        case round =>
          clear hs
          obtain ⟨j, B, c, ss, hj, rfl, rfl, HSl, H1, hs⟩ := hrel
          by_cases hlj : j < m
          · go_wp2_with (first
              | (refine wpl_build1 (v := .int .i64 (j : Nat)) elem24 (by decide) rfl rfl hs ?_; clear hs; intro gi w3 hs)
              | (go_at_call 13; refine (new_v (n := 1) (zs := [(j : Int)]) (A := some ⟨gi, 0, none⟩) hs RdS.blk (Lib.hid rfl) (by decide) (Lib.hid rfl)).mono ?_; clear hs; rintro e w' ⟨T1, rfl, hs⟩; replace hs := hs.drop.drop)
              | (refine wpl_build1 (v := ptr T1) elemP (by decide) rfl rfl hs ?_; clear hs; intro gp w3 hs)
              | (refine wpl_append (A := B) (B := some ⟨gp, 0, none⟩) (m := 1) (news := [ptr T1]) elemP rfl rfl hs (Ent.skip (Ent.refl _)) RdS.blk rfl (by intro u hu; simp at hu; subst hu; rfl) (by unfold maxLen; omega) (by omega) ?_; clear hs; intro B2 c2 w4 hs; replace hs := hs.rot.drop))
            go_roundw
            case rel => exact ⟨j + 1, B2, c2, ss ++ [ptr T1], by omega, rfl, by go_num, by rw [Hid, List.length_append, HSl.out]; rfl, (fun v hv => by
              rcases List.mem_append.1 hv with h | h
              · exact H1.out v h
              · rw [List.mem_singleton.1 h]; rfl), hs⟩
            case measure => simp [intOf] <;> omega
          · have hjm : j = m := by omega
            subst hjm
            obtain ⟨v2, HV2⟩ : ∃ v, Hid (checkV xs (j : Int) = v) := ⟨_, rfl⟩
            by_cases hv0 : v2 = 0
            · subst hv0
              have HBk := Lib.hid (load_back HV2.out)
              have HLd := Lib.hid (checkV_ok HV2.out).ok
              obtain ⟨l, HLl⟩ : ∃ l, Hid (xs.map toE = l) := ⟨_, rfl⟩
              rw [HLl.out] at HBk HLd
              have HSame : Hid (sameNd (l.map toR) xs = true) := by rw [Hid, HBk.out, sameNd_refl]
              have HLn : Hid (l.length = i) := by rw [Hid, ← HLl.out, List.length_map, HXl.out]
              have HMl : Hid ((l.map toR).length = i) := by rw [Hid, List.length_map, HLn.out]
              go_wp2_with (first
                | (go_at_call 30; refine (load_c HXl hi4 (HV.out.grew hs.made_grew) HV2 (PtrsR.own hs) HSl (by omega) H1.out).mono ?_; rintro e w' ⟨D, rfl, hl⟩; replace hs := hs.made hl; clear hl; rw [HLl.out] at hs)
                | (go_at_call 31; refine (refchk_c HXl hi4 (HV.out.grew hs.made_grew) HV2).mono ?_; rintro e w' ⟨rfl, hg⟩; replace hs := hs.grew hg; clear hg)
                | (go_at_call 22; refine (nodes_c hs HLd.out HLn).mono ?_; rintro e w' ⟨C, capC, rfl, hl⟩; replace hs := hs.made hl; clear hl)
                | (go_at_call 21; refine (samenodes_c HMl HXl (by omega) (hs.ndview HLd.out.kids64) (HV.out.grew hs.made_grew) HSame).mono ?_; rintro e w' ⟨rfl, hg⟩; replace hs := hs.grew hg; clear hg)
                | (go_at_call 11; refine (awake3 _).mono ?_; rintro e w' ⟨rfl, hg⟩; replace hs := hs.grew hg; clear hg))
              go_ret
              exact ⟨rfl, hs.nothing⟩
            · have q1 : (v2 == 0) = false := by simp; exact hv0
              have q2 : (v2 != 0) = true := by simp; exact hv0
              have hv0' := Lib.hid hv0
              clear hv0
              go_wp2_with (first
                | (go_at_call 30; refine (load_no HXl hi4 (HV.out.grew hs.made_grew) HV2 hv0'.out).mono ?_; rintro e w' ⟨rfl, hg⟩; replace hs := hs.grew hg; clear hg)
                | (go_at_call 31; refine (refchk_c HXl hi4 (HV.out.grew hs.made_grew) HV2).mono ?_; rintro e w' ⟨rfl, hg⟩; replace hs := hs.grew hg; clear hg)
                | (go_at_call 11; refine (awake3 _).mono ?_; rintro e w' ⟨rfl, hg⟩; replace hs := hs.grew hg; clear hg))
              go_ret
              exact ⟨rfl, hs.nothing⟩
end Go.Proofs.Ytkcbjkadalebjaa
