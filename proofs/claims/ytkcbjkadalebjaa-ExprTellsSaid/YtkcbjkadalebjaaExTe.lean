/-
  ExprTells: the walk.
-/
import Derived.Test.YtkcbjkadalebjaaEx17
import Derived.Test.YtkcbjkadalebjaaRegA
set_option maxRecDepth 100000
namespace Go.Proofs.Ytkcbjkadalebjaa
open Go Go.RowKit
attribute [local irreducible] wpList Calls Code.wp

theorem kidsR_ownI {w0 w : World} {R : Option Addr} {n c : Nat} {zs : List Int} {L : List As} (hs : St w0 (own R n c 3 1 (ints zs) :: L) w) : KidsR w R zs := fun j y hy => by
  obtain ⟨b, o, rfl, hc⟩ := (RdS.own hs).get (ints_get hy)
  exact ⟨b, o, rfl, hc _ hs⟩
/-- The numbers that are asked. -/
structure AskR (w : World) (Q : Option Addr) (qn : Nat) (asks : List Int) : Prop where
  len : asks.length = qn
  at_ : KidsR w Q asks
theorem ints_app (a b : List Int) : ints a ++ ints b = ints (a ++ b) := by simp [ints]
attribute [local irreducible] checkV sameNd setS fewB exTell ksS
set_option maxHeartbeats 4000000 in
theorem etells_c {w0 : World} {va vb vc : Value} {rs : List IRow} {za zq : List Int} (hva : RowsArg encI (QI w0) w0 va rs) (hvb : IntArg w0 vb za) (hvc : IntArg w0 vc zq) : Calls Try.prog 9 #[va, vb, vc] w0 (LawPost w0) := by
  obtain ⟨A, ca, rfl, hle, hcap, hrow⟩ := rows_v hva
  obtain ⟨B0, na, cb, rfl, hlen, hnc, hcm, hra, hba⟩ := hvb
  obtain ⟨C0, nq, cq, rfl, hlen2, hnc2, hcm2, hrq, hbq⟩ := hvc
  have HLz := Lib.hid hlen
  have HLq := Lib.hid hlen2
  unfold maxLen at hcap hcm hcm2
  have HRw := Lib.hid hrow
  have HKz : Hid (KidsR w0 B0 za) := fun j y hy => by
    obtain ⟨b, o, h1, h2⟩ := hra.get (ints_get hy)
    exact ⟨b, o, h1, h2 _ (St.start w0)⟩
  have HKq : Hid (KidsR w0 C0 zq) := fun j y hy => by
    obtain ⟨b, o, h1, h2⟩ := hrq.get (ints_get hy)
    exact ⟨b, o, h1, h2 _ (St.start w0)⟩
  have hs := St.start w0
  obtain ⟨n, HN⟩ : ∃ n, Hid (rs.length = n) := ⟨_, rfl⟩
  rw [HN.out] at hle ⊢
  have hn9 : n ≤ 9223372036854775807 := by omega
  clear hrow hva hba hbq hlen hlen2 hra hrq
  obtain ⟨fb, HF⟩ : ∃ b, Hid (fewB rs = b) := ⟨_, rfl⟩
  by_cases hno : fb = false ∨ 40 < na ∨ 30 < nq
  · by_cases hfb : fb = false
    · subst hfb
      clear hno
      go_enter Try.func9, Try.ntmps9
      go_wp2_with (first
        | (go_at_call 27; refine (few_c HN hn9 HRw.out HF).mono ?_; rintro e w' ⟨rfl, hg⟩; replace hs := hs.grew hg; clear hg)
        | (go_at_call 11; refine (awake3 _).mono ?_; rintro e w' ⟨rfl, hg⟩; replace hs := hs.grew hg; clear hg))
      go_ret
      exact ⟨rfl, hs.nothing⟩
    · have hft : fb = true := by cases fb with
        | true => rfl
        | false => exact absurd rfl hfb
      subst hft
      by_cases h40 : 40 < na
      · have d40 : decide (40 < (na : Int)) = true := decide_eq_true (by omega)
        clear hno hfb h40
        go_enter Try.func9, Try.ntmps9
        go_wp2_with (first
          | (go_at_call 27; refine (few_c HN hn9 HRw.out HF).mono ?_; rintro e w' ⟨rfl, hg⟩; replace hs := hs.grew hg; clear hg)
          | (go_at_call 11; refine (awake3 _).mono ?_; rintro e w' ⟨rfl, hg⟩; replace hs := hs.grew hg; clear hg))
        go_ret
        exact ⟨rfl, hs.nothing⟩
      · have d40 : decide (40 < (na : Int)) = false := decide_eq_false (by omega)
        have d30 : decide (30 < (nq : Int)) = true := decide_eq_true (by
          rcases hno with h | h | h
          · cases h
          · exact absurd h h40
          · omega)
        clear hno hfb h40
        go_enter Try.func9, Try.ntmps9
        go_wp2_with (first
          | (go_at_call 27; refine (few_c HN hn9 HRw.out HF).mono ?_; rintro e w' ⟨rfl, hg⟩; replace hs := hs.grew hg; clear hg)
          | (go_at_call 11; refine (awake3 _).mono ?_; rintro e w' ⟨rfl, hg⟩; replace hs := hs.grew hg; clear hg))
        go_ret
        exact ⟨rfl, hs.nothing⟩
  · have hft : fb = true := by cases fb with
      | true => rfl
      | false => exact absurd (.inl rfl) hno
    subst hft
    have d40 : decide (40 < (na : Int)) = false := decide_eq_false (by omega)
    have d30 : decide (30 < (nq : Int)) = false := decide_eq_false (by omega)
    have na40 : na ≤ 40 := by omega
    have nq30 : nq ≤ 30 := by omega
    obtain ⟨hf40, hn10⟩ := few_all HF.out
    rw [HN.out] at hn10
    have HF4 := Lib.hid hf40
    clear hno hf40
    go_enter Try.func9, Try.ntmps9
    go_upto_region 8 with (first
      | (go_at_call 27; refine (few_c HN hn9 HRw.out HF).mono ?_; rintro e w' ⟨rfl, hg⟩; replace hs := hs.grew hg; clear hg)
      | (go_at_call 28; refine (sets_c HN (HRw.out.grew hs.made_grew) HF4.out).mono ?_; rintro e w' ⟨B, c, C, c2, ks, m, rfl, HKl, hm6, hko, hl⟩; replace hs := hs.made hl; clear hl; have HKo := Lib.hid hko; clear hko; have HSl : Hid ((ks.map fun k => ptr k.T).length = m) := by rw [Hid, List.length_map, HKl.out])
      | (go_at_call 29; refine (tame_c HLz hm6 (HKz.out.grew hs.made_grew)).mono ?_; rintro e w' ⟨E, ce, l, q, rfl, HLl, hok, hl18, hl⟩; replace hs := hs.made hl; clear hl; have HO := Lib.hid hok; clear hok; rw [HLl.out] at hl18; have HXl : Hid ((l.map toR).length = q) := (by rw [Hid, List.length_map, HLl.out]); have HCk := Lib.hid HO.out.check)
      | (go_at_call 30; refine (load_c HXl (by omega) (hs.ndview HO.out.kids64) HCk hs.rot.ksview.ptrs HSl (by omega) (ptrs_one ks)).mono ?_; rintro e w' ⟨D1, rfl, hl⟩; replace hs := hs.made hl; clear hl; rw [maps_back] at hs)
      | (go_at_call 23; refine (exlen_w hs HLl).mono ?_; rintro e w' ⟨rfl, rfl⟩)
      | (go_at_call 22; refine (nodes_c hs HO.out HLl).mono ?_; rintro e w' ⟨E2, ce2, rfl, hl⟩; replace hs := hs.made hl; clear hl)
      | (go_at_call 21; refine (samenodes_c HXl HXl (by omega) (hs.ndview HO.out.kids64) (hs.up2.ndview HO.out.kids64) (Lib.hid (sameNd_refl _))).mono ?_; rintro e w' ⟨rfl, hg⟩; replace hs := hs.grew hg; clear hg; replace hs := hs.drop))
    have HOs : Hid (ArOk l (ks.map fun k => ptr k.T).length) := by rw [Hid, HSl.out]; exact HO.out
    have hq0 : AskR w' C0 nq zq := ⟨HLq.out, HKq.out.grew hs.made_grew⟩
    go_wp2
    go_loopw [2, 12] (fun sv cv wr => ∃ (i : Nat) (Q : Option Addr) (qn qc : Nat) (asks : List Int), i ≤ m ∧ sv = .slice Q qn qc ∧ cv = .int .i64 (i : Nat) ∧ qn ≤ 30 + 10 * i ∧ AskR wr Q qn asks ∧ St w0 [ExB D1 l (ks.map fun k => ptr k.T), NdsB E ce l, SrB B c C c2 ks] wr) (fun _ cv _ => m - (intOf cv).toNat)
    case atStart => exact ⟨0, C0, nq, cq, zq, Nat.zero_le _, rfl, rfl, by omega, hq0, hs⟩
    case round =>
      clear hs hq0
      obtain ⟨i, Q, qn, qc, asks, hi, rfl, rfl, hqn, hask, hs⟩ := hrel
      by_cases hlt : i < m
      · obtain ⟨k, hk⟩ : ∃ k, ks[i]? = some k := ⟨_, List.getElem?_eq_getElem (by rw [HKl.out]; exact hlt)⟩
        have hkm := List.mem_of_getElem? hk
        have hS40 := HKo.out.few k hkm
        have HSm := Lib.hid (HKo.out.small k hkm)
        have HK := Lib.hid hk
        obtain ⟨N, HNs⟩ : ∃ n, Hid (k.S.length = n) := ⟨_, rfl⟩
        rw [HNs.out] at hS40
        clear hk hkm
        go_wp2
        go_loopw [2, 13] (fun sv cv wr => ∃ (j : Nat) (Q : Option Addr) (qn qc : Nat) (asks : List Int), j ≤ N ∧ j ≤ 5 ∧ sv = .slice Q qn qc ∧ cv = .int .i64 (j : Nat) ∧ qn ≤ 30 + 10 * i + 2 * j ∧ AskR wr Q qn asks ∧ St w0 [ExB D1 l (ks.map fun k => ptr k.T), NdsB E ce l, SrB B c C c2 ks] wr) (fun _ cv _ => N - (intOf cv).toNat)
        case atStart => exact ⟨0, Q, qn, qc, asks, Nat.zero_le _, Nat.zero_le _, rfl, rfl, by omega, hask, hs⟩
        case round =>
          clear hs hask hqn
          obtain ⟨j, Q, qn, qc, asks, hj, hj5, rfl, rfl, hqn, hask, hs⟩ := hrel
          obtain ⟨b, o, rfl, r1, r2⟩ := hs.up2.ksview.row i k HK.out
          rw [HNs.out] at r1
          have HR2 := Lib.hid r2
          have HQl := Lib.hid hask.len
          have HQk := Lib.hid hask.at_
          clear r2 hask
          by_cases hlj : j < N ∧ j < 5
          · obtain ⟨hlj, hlj5⟩ := hlj
            have d1 : decide (j < N) = true := decide_eq_true hlj
            have d2 : decide ((j : Int) < 5) = true := decide_eq_true (by omega)
            obtain ⟨a, ha⟩ : ∃ a, k.S[j]? = some a := ⟨_, List.getElem?_eq_getElem (by rw [HNs.out]; exact hlj)⟩
            have ha24 := HSm.out a (List.mem_of_getElem? ha)
            obtain ⟨b2, o2, hR0, r3⟩ := HR2.out j (a : Int) (by unfold natI; rw [List.getElem?_map, ha]; rfl)
            rw [hR0] at r1
            clear ha hR0
            go_wp2
            refine wp_all_plain (n := 5) [true, false, true, false, false, false, false, false, false, false, false, false, false, false, false, false, false, false, true, true, true] (St.start wr) (by kernel_rfl) (by kernel_rfl) (by kernel_rfl) fun hne => ?_
            have e0 := (Rd.old (L := []) r1).alln
            have e1 := (Rd.old (L := []) r3).alln
            simp only [pickOps]
            repeat (go_big_quiet_step (fail))
            refine wpQuiet_nil ?_
            clear hne e0 e1 r1 r3
            have ha := (St.start wr).drew
            refine wpAllP_next [0, 18] (by kernel_rfl) (fun c hc => ?_)
            simp only [List.mem_cons, List.not_mem_nil, or_false] at hc
            rcases hc with rfl | rfl
            · refine ⟨_, rfl, ?_⟩
              refine wpl_build_none elem24 ha ?_
              clear ha
              intro A0 w1 ha
              refine wpList_nil ⟨rfl, ha.nothing, ?_⟩
              refine wpAllP_next [2, 18] (by kernel_rfl) (fun c hc => ?_)
              simp only [List.mem_cons, List.not_mem_nil, or_false] at hc
              rcases hc with rfl | rfl
              · refine ⟨_, rfl, ?_⟩
                refine wpl_append (A := A0) (B := Q) (n := 0) (m := qn) (news := ints asks) elem24 rfl rfl ha (Ent.refl _) (RdS.kids HQk.out) (by rw [ints_len, HQl.out, Nat.mul_one]) (ints_one' _) (by unfold maxLen; omega) (by omega) ?_
                clear ha
                intro A1 c1 w2 ha
                rw [List.nil_append] at ha
                refine wpList_nil ⟨rfl, ha.nothing, ?_⟩
                refine wpAllP_next [18] (by kernel_rfl) (fun c hc => ?_)
                simp only [List.mem_singleton] at hc
                subst hc
                refine ⟨_, rfl, ?_⟩
                refine wpl_buildN (vs := [.int .i64 (a : Nat), .int .i64 ((a : Int) + 1)]) elem24 rfl rfl (by simp) (by simp) (by intro v hv; simp at hv; rcases hv with rfl | rfl <;> rfl) ha ?_
                clear ha
                intro gp w3 ha
                refine wpList_nil ⟨rfl, ha.nothing, ?_⟩
                replace ha := ha.rot
                refine wpAllP_next [19] (by kernel_rfl) (fun c hc => ?_)
                simp only [List.mem_singleton] at hc
                subst hc
                refine ⟨_, rfl, ?_⟩
                refine wpl_append (A := A1) (B := some ⟨gp, 0, none⟩) (n := 0 + qn) (m := 2) (news := ints [(a : Int), (a : Int) + 1]) elem24 rfl rfl ha (Ent.refl _) RdS.blk.tail rfl (ints_one' _) (by unfold maxLen; omega) (by omega) ?_
                clear ha
                intro A2 c2' w4 ha
                rw [ints_app] at ha
                refine wpList_nil ⟨rfl, ha.nothing, ?_⟩
                refine wpAll_last [20] (by kernel_rfl) (fun c hc => ?_)
                simp only [List.mem_singleton] at hc
                subst hc
                refine ⟨_, rfl, ?_⟩
                go_wp2
                replace hs := hs.grew ha.made_grew
                have hq2 : Hid ((asks ++ [(a : Int), (a : Int) + 1]).length = qn + 2) := by rw [Hid, List.length_append, HQl.out]; rfl
                have hk2 := kidsR_ownI ha
                go_roundw
                case rel => first
                  | exact ⟨j + 1, A2, qn + 2, c2', asks ++ [(a : Int), (a : Int) + 1], by omega, by omega, rfl, by go_num, by omega, ⟨hq2.out, hk2⟩, hs⟩
                  | ((repeat apply Exists.intro); refine ⟨?_, rfl⟩; exact ⟨j + 1, A2, qn + 2, c2', asks ++ [(a : Int), (a : Int) + 1], by omega, by omega, rfl, by go_num, by omega, ⟨hq2.out, hk2⟩, hs⟩)
                case measure => simp [intOf] <;> omega
              · refine ⟨_, rfl, ?_⟩
                refine wpl_buildN (vs := [.int .i64 (a : Nat), .int .i64 ((a : Int) + 1)]) elem24 rfl rfl (by simp) (by simp) (by intro v hv; simp at hv; rcases hv with rfl | rfl <;> rfl) ha ?_
                clear ha
                intro gp w3 ha
                refine wpList_nil ⟨rfl, ha.nothing, ?_⟩
                refine wpAllP_next [2] (by kernel_rfl) (fun c hc => ?_)
                simp only [List.mem_singleton] at hc
                subst hc
                refine ⟨_, rfl, ?_⟩
                refine wpl_append (A := A0) (B := Q) (n := 0) (m := qn) (news := ints asks) elem24 rfl rfl ha (Ent.skip (Ent.refl _)) (RdS.kids HQk.out) (by rw [ints_len, HQl.out, Nat.mul_one]) (ints_one' _) (by unfold maxLen; omega) (by omega) ?_
                clear ha
                intro A1 c1 w2 ha
                rw [List.nil_append] at ha
                refine wpList_nil ⟨rfl, ha.nothing, ?_⟩
                refine wpAllP_next [19] (by kernel_rfl) (fun c hc => ?_)
                simp only [List.mem_singleton] at hc
                subst hc
                refine ⟨_, rfl, ?_⟩
                refine wpl_append (A := A1) (B := some ⟨gp, 0, none⟩) (n := 0 + qn) (m := 2) (news := ints [(a : Int), (a : Int) + 1]) elem24 rfl rfl ha (Ent.refl _) RdS.blk.tail rfl (ints_one' _) (by unfold maxLen; omega) (by omega) ?_
                clear ha
                intro A2 c2' w4 ha
                rw [ints_app] at ha
                refine wpList_nil ⟨rfl, ha.nothing, ?_⟩
                refine wpAll_last [20] (by kernel_rfl) (fun c hc => ?_)
                simp only [List.mem_singleton] at hc
                subst hc
                refine ⟨_, rfl, ?_⟩
                go_wp2
                replace hs := hs.grew ha.made_grew
                have hq2 : Hid ((asks ++ [(a : Int), (a : Int) + 1]).length = qn + 2) := by rw [Hid, List.length_append, HQl.out]; rfl
                have hk2 := kidsR_ownI ha
                go_roundw
                case rel => first
                  | exact ⟨j + 1, A2, qn + 2, c2', asks ++ [(a : Int), (a : Int) + 1], by omega, by omega, rfl, by go_num, by omega, ⟨hq2.out, hk2⟩, hs⟩
                  | ((repeat apply Exists.intro); refine ⟨?_, rfl⟩; exact ⟨j + 1, A2, qn + 2, c2', asks ++ [(a : Int), (a : Int) + 1], by omega, by omega, rfl, by go_num, by omega, ⟨hq2.out, hk2⟩, hs⟩)
                case measure => simp [intOf] <;> omega
            · refine ⟨_, rfl, ?_⟩
              refine wpl_buildN (vs := [.int .i64 (a : Nat), .int .i64 ((a : Int) + 1)]) elem24 rfl rfl (by simp) (by simp) (by intro v hv; simp at hv; rcases hv with rfl | rfl <;> rfl) ha ?_
              clear ha
              intro gp w3 ha
              refine wpList_nil ⟨rfl, ha.nothing, ?_⟩
              refine wpAllP_next [0] (by kernel_rfl) (fun c hc => ?_)
              simp only [List.mem_singleton] at hc
              subst hc
              refine ⟨_, rfl, ?_⟩
              refine wpl_build_none elem24 ha ?_
              clear ha
              intro A0 w1 ha
              refine wpList_nil ⟨rfl, ha.nothing, ?_⟩
              refine wpAllP_next [2] (by kernel_rfl) (fun c hc => ?_)
              simp only [List.mem_singleton] at hc
              subst hc
              refine ⟨_, rfl, ?_⟩
              refine wpl_append (A := A0) (B := Q) (n := 0) (m := qn) (news := ints asks) elem24 rfl rfl ha (Ent.refl _) (RdS.kids HQk.out) (by rw [ints_len, HQl.out, Nat.mul_one]) (ints_one' _) (by unfold maxLen; omega) (by omega) ?_
              clear ha
              intro A1 c1 w2 ha
              rw [List.nil_append] at ha
              refine wpList_nil ⟨rfl, ha.nothing, ?_⟩
              refine wpAllP_next [19] (by kernel_rfl) (fun c hc => ?_)
              simp only [List.mem_singleton] at hc
              subst hc
              refine ⟨_, rfl, ?_⟩
              refine wpl_append (A := A1) (B := some ⟨gp, 0, none⟩) (n := 0 + qn) (m := 2) (news := ints [(a : Int), (a : Int) + 1]) elem24 rfl rfl ha (Ent.refl _) RdS.blk.tail rfl (ints_one' _) (by unfold maxLen; omega) (by omega) ?_
              clear ha
              intro A2 c2' w4 ha
              rw [ints_app] at ha
              refine wpList_nil ⟨rfl, ha.nothing, ?_⟩
              refine wpAll_last [20] (by kernel_rfl) (fun c hc => ?_)
              simp only [List.mem_singleton] at hc
              subst hc
              refine ⟨_, rfl, ?_⟩
              go_wp2
              replace hs := hs.grew ha.made_grew
              have hq2 : Hid ((asks ++ [(a : Int), (a : Int) + 1]).length = qn + 2) := by rw [Hid, List.length_append, HQl.out]; rfl
              have hk2 := kidsR_ownI ha
              go_roundw
              case rel => first
                | exact ⟨j + 1, A2, qn + 2, c2', asks ++ [(a : Int), (a : Int) + 1], by omega, by omega, rfl, by go_num, by omega, ⟨hq2.out, hk2⟩, hs⟩
                | ((repeat apply Exists.intro); refine ⟨?_, rfl⟩; exact ⟨j + 1, A2, qn + 2, c2', asks ++ [(a : Int), (a : Int) + 1], by omega, by omega, rfl, by go_num, by omega, ⟨hq2.out, hk2⟩, hs⟩)
              case measure => simp [intOf] <;> omega
          · by_cases h6 : j < N
            · have d1 : decide (j < N) = true := decide_eq_true h6
              have d2 : decide ((j : Int) < 5) = false := decide_eq_false (by omega)
              clear hlj h6
              go_wp2
              go_roundw
              case rel => exact ⟨i + 1, Q, qn, qc, asks, by omega, rfl, by go_num, by omega, ⟨HQl.out, HQk.out⟩, hs⟩
              case measure => simp [intOf] <;> omega
            · have d1 : decide (j < N) = false := decide_eq_false h6
              clear hlj h6
              go_wp2
              go_roundw
              case rel => exact ⟨i + 1, Q, qn, qc, asks, by omega, rfl, by go_num, by omega, ⟨HQl.out, HQk.out⟩, hs⟩
              case measure => simp [intOf] <;> omega
      · have him : i = m := by omega
        subst him
        have hq90 : qn ≤ 90 := by omega
        have HQl := Lib.hid hask.len
        have hQk := hask.at_
        clear hask hqn hlt
        go_wp2
        go_loopw [14] (fun cv wr => ∃ j : Nat, j ≤ qn ∧ cv = .int .i64 (j : Nat) ∧ KidsR wr Q asks ∧ St w0 [ExB D1 l (ks.map fun k => ptr k.T), NdsB E ce l, SrB B c C c2 ks] wr) (fun cv _ => qn - (intOf cv).toNat)
        case atStart => exact ⟨0, Nat.zero_le _, rfl, hQk, hs⟩
        case round =>
          clear hs hQk
          obtain ⟨j, hj, rfl, hQk, hs⟩ := hrel
          by_cases hlj : j < qn
          · obtain ⟨a, ha⟩ : ∃ a, asks[j]? = some a := ⟨_, List.getElem?_eq_getElem (by rw [HQl.out]; exact hlj)⟩
            have HA := Lib.hid ha
            clear ha
            go_wp2
            go_loopw [15] (fun cv wr => ∃ p : Nat, p ≤ q + 2 ∧ cv = .int .i64 ((p : Int) - 1) ∧ KidsR wr Q asks ∧ St w0 [ExB D1 l (ks.map fun k => ptr k.T), NdsB E ce l, SrB B c C c2 ks] wr) (fun cv _ => q + 2 - (intOf cv + 1).toNat)
            case atStart => exact ⟨0, Nat.zero_le _, rfl, hQk, hs⟩
            case round =>
              clear hs hQk
              obtain ⟨p, hp, rfl, hQk, hs⟩ := hrel
              by_cases hpq : p < q + 2
              · obtain ⟨bv, HBv⟩ : ∃ b, Hid (exTell l (ksS ks) ((p : Int) - 1) a = b) := ⟨_, rfl⟩
                obtain ⟨b, o, rfl, r1⟩ := hQk j a HA.out
                have d1 : decide ((p : Int) - 1 ≤ (q : Int)) = true := decide_eq_true (by omega)
                have hv1 := Lib.hid hs.up2.ksview
                have hn1 := Lib.hid (hs.rot.ndview HO.out.kids64)
                obtain ⟨pn, hpn⟩ : ∃ pn : Int, (p : Int) - 1 = pn := ⟨_, rfl⟩
                have hpn2 : pn + 1 = (p : Int) := by omega
                rw [hpn] at HBv d1 ⊢
                have hpl : -1 ≤ pn := by omega
                have hpl2 : pn ≤ 100 := by omega
                clear hpn
                go_wp2
                refine wp_region_grow (by kernel_rfl) (by kernel_rfl) fun hne2 => ?_
                have g1 := fun p : GW wr => p.grew.cell r1
                repeat (go_big_quiet_step ((first
                  | (go_at_call 17; exact in_grew (exhas_v (hs.grew (GW.grew _)) HOs.out (hv1.out.sets.grew (GW.grew _)) HBv))
                  | (go_at_call 32; exact in_grew (reftells_c HLl HO.out (hn1.out.grew (GW.grew _)) (hv1.out.grew (GW.grew _)) HKl HKo.out pn a HBv)))))
                refine wpQuiet_nil ?_
                clear hne2 g1 r1
                intro u hu
                replace hs := hs.grew hu
                replace hQk := hQk.grew hu
                clear hu
                go_wp2
                go_roundw
                case rel => exact ⟨p + 1, by omega, by first | rfl | (congr 1; omega), hQk, hs⟩
                case measure => simp [intOf] <;> omega
              · have d1 : decide ((p : Int) - 1 ≤ (q : Int)) = false := decide_eq_false (by omega)
                have hpe : (p : Int) - 1 = (q : Int) + 1 := by omega
                rw [hpe]
                clear d1 hpe hpq
                go_wp2
                go_roundw
                case rel => exact ⟨j + 1, by omega, by go_num, hQk, hs⟩
                case measure => simp [intOf] <;> omega
          · have hjq : j = qn := by omega
            subst hjq
            go_wp2_with (first
              | (go_at_call 11; refine (awake3 _).mono ?_; rintro e w' ⟨rfl, hg⟩; replace hs := hs.grew hg; clear hg))
            go_ret
            exact ⟨rfl, hs.nothing⟩
end Go.Proofs.Ytkcbjkadalebjaa
