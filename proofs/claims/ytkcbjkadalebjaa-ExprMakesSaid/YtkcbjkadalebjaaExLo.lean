/-
  ExprLoads: the walk.
-/
import Derived.Test.YtkcbjkadalebjaaEx15
import Derived.Test.YtkcbjkadalebjaaExCh
import Derived.Deep.DeepCutAuto
import Derived.Deep.CutBlock
set_option maxRecDepth 100000
namespace Go.Proofs.Ytkcbjkadalebjaa
open Go Go.RowKit
attribute [local irreducible] wpList Calls Code.wp

theorem exlen_w {w0 w : World} {L : List As} {D n : Nat} {l : List NodeE} {ss : List Value} (hs : St w0 (ExB D l ss :: L) w) (hn : Hid (l.length = n)) : Calls Try.prog 23 #[ptr D] w fun e w' => e = .returned (.int .i64 (n : Nat)) ∧ w' = w := by
  rw [← hn.out]; exact exlen_c hs
theorem toE_toR (e : NodeE) : toE (toR e) = e := by
  obtain ⟨k, kids⟩ := e
  unfold toE toR kI
  simp only [Int.toNat_natCast, List.map_map]
  congr 1
  conv => rhs; rw [← List.map_id kids]
  exact List.map_congr_left fun x _ => by simp
theorem maps_back (l : List NodeE) : (l.map toR).map toE = l := by
  rw [List.map_map]
  conv => rhs; rw [← List.map_id l]
  exact List.map_congr_left fun x _ => toE_toR x
/-- What the sets' rows say. -/
def ksS (ks : List KS) (s : Nat) : List Nat := (ks.map KS.S).getD s []
structure KsV (w : World) (B C : Option Addr) (ks : List KS) : Prop where
  ptrs : PtrsR w B (ks.map fun k => ptr k.T)
  sets : SetsOk w (ks.map fun k => ptr k.T) (ksS ks)
  row : ∀ (i : Nat) (k : KS), ks[i]? = some k → ∃ b o, C = some ⟨b, o, none⟩ ∧ w.cell? ⟨b, o + i, none⟩ = some (.slice k.R k.S.length k.rc) ∧ KidsR w k.R (natI k.S)
theorem KsV.grew {w w' : World} {B C : Option Addr} {ks : List KS} (h : KsV w B C ks) (hg : Grew w w') : KsV w' B C ks :=
  ⟨fun i v hv => let ⟨b, o, h1, h2⟩ := h.ptrs i v hv; ⟨b, o, h1, hg.cell h2⟩, h.sets.grew hg, fun i k hk => let ⟨b, o, h1, h2, h3⟩ := h.row i k hk; ⟨b, o, h1, hg.cell h2, h3.grew hg⟩⟩
theorem KidsR.own {w0 w : World} {R : Option Addr} {n c : Nat} {S : List Nat} {L : List As} (hs : St w0 (own R n c 3 1 (intv S) :: L) w) : KidsR w R (natI S) := fun j y hy => by
  have hg : (intv S)[j]? = some (.int .i64 y) := by
    unfold natI at hy
    rw [List.getElem?_map] at hy
    cases hk : S[j]? with
    | none => rw [hk] at hy; cases hy
    | some v =>
      rw [hk] at hy
      simp at hy
      subst hy
      exact intv_get hk
  obtain ⟨b, o, rfl, hc⟩ := (RdS.own hs).get hg
  exact ⟨b, o, rfl, hc _ hs⟩
theorem St.ksview {w0 w : World} {B C : Option Addr} {c c2 : Nat} {ks : List KS} {L : List As} (hs : St w0 (SrB B c C c2 ks :: L) w) : KsV w B C ks := by
  have h := hs.sropen
  have item : ∀ (i : Nat) (k : KS), ks[i]? = some k → ∃ M, St w0 (HSet k.T k.S :: Ytkcbjkadalebjaa.own k.R k.S.length k.rc 3 1 (intv k.S) :: M) w := fun i k hk => by
    obtain ⟨M, hp⟩ := Ent.pick (L := L) (M := ks.map ksA) (i := i) (p := ksA k) (by rw [List.getElem?_map, hk]; rfl)
    exact ⟨M, (h.drop.drop.ent hp).ent (Ent.open2 fun _ hx => hx)⟩
  refine ⟨PtrsR.own h, fun s v hv => ?_, fun i k hk => ?_⟩
  · rw [List.getElem?_map] at hv
    cases hk : ks[s]? with
    | none => rw [hk] at hv; cases hv
    | some k =>
      rw [hk] at hv
      simp at hv
      subst hv
      obtain ⟨M, hm⟩ := item s k hk
      have e : ksS ks s = k.S := by unfold ksS; rw [List.getD_eq_getElem?_getD, List.getElem?_map, hk]; rfl
      rw [e]
      exact SetW.here hm
  · obtain ⟨b, o, rfl, hc⟩ := (RdS.own h.rot).get (show (ks.map ksV)[i]? = some (ksV k) by rw [List.getElem?_map, hk]; rfl)
    obtain ⟨M, hm⟩ := item i k hk
    exact ⟨b, o, rfl, hc _ h.rot, KidsR.own hm.rot⟩
theorem PtrsR.grew {w w' : World} {S : Option Addr} {ss : List Value} (h : PtrsR w S ss) (hg : Grew w w') : PtrsR w' S ss := fun i v hv => let ⟨b, o, h1, h2⟩ := h i v hv; ⟨b, o, h1, hg.cell h2⟩
theorem ptrs_one (ks : List KS) : ∀ v ∈ ks.map (fun k => ptr k.T), v.oneCell' = true := by
  intro v hv
  obtain ⟨k, _, rfl⟩ := List.mem_map.1 hv
  rfl
theorem few_all {rs : List IRow} (h : fewB rs = true) : (∀ r ∈ rs, r.zs.length ≤ 40) ∧ rs.length ≤ 10 := by
  unfold fewB at h
  rw [Bool.and_eq_true] at h
  refine ⟨fun r hr => ?_, of_decide_eq_true h.2⟩
  have := List.all_eq_true.1 h.1 r hr
  exact of_decide_eq_true this
attribute [local irreducible] checkV sameNd setS fewB exTell ksS
set_option maxHeartbeats 4000000 in
theorem eloads_c {w0 : World} {va vb : Value} {rs : List IRow} {za : List Int} (hva : RowsArg encI (QI w0) w0 va rs) (hvb : IntArg w0 vb za) (z : Int) : Calls Try.prog 8 #[va, vb, .int .i64 z] w0 (LawPost w0) := by
  obtain ⟨A, ca, rfl, hle, hcap, hrow⟩ := rows_v hva
  obtain ⟨B0, na, cb, rfl, hlen, hnc, hcm, hra, hba⟩ := hvb
  have HLz := Lib.hid hlen
  unfold maxLen at hcap hcm
  have HRw := Lib.hid hrow
  have HKz : Hid (KidsR w0 B0 za) := fun j y hy => by
    obtain ⟨b, o, h1, h2⟩ := hra.get (ints_get hy)
    exact ⟨b, o, h1, h2 _ (St.start w0)⟩
  have hs := St.start w0
  obtain ⟨n, HN⟩ : ∃ n, Hid (rs.length = n) := ⟨_, rfl⟩
  rw [HN.out] at hle ⊢
  have hn9 : n ≤ 9223372036854775807 := by omega
  clear hrow hva hba hlen hra
  obtain ⟨fb, HF⟩ : ∃ b, Hid (fewB rs = b) := ⟨_, rfl⟩
  by_cases hno : fb = false ∨ 40 < na
  · by_cases hfb : fb = false
    · subst hfb
      clear hno
      go_enter Try.func8, Try.ntmps8
      go_wp2_with (first
        | (go_at_call 27; refine (few_c HN hn9 HRw.out HF).mono ?_; rintro e w' ⟨rfl, hg⟩; replace hs := hs.grew hg; clear hg)
        | (go_at_call 11; refine (awake3 _).mono ?_; rintro e w' ⟨rfl, hg⟩; replace hs := hs.grew hg; clear hg))
      go_ret
      exact ⟨rfl, hs.nothing⟩
    · have hft : fb = true := by cases fb with
        | true => rfl
        | false => exact absurd rfl hfb
      subst hft
      have d40 : decide (40 < (na : Int)) = true := decide_eq_true (by
        rcases hno with h | h
        · cases h
        · omega)
      clear hno hfb
      go_enter Try.func8, Try.ntmps8
      go_wp2_with (first
        | (go_at_call 27; refine (few_c HN hn9 HRw.out HF).mono ?_; rintro e w' ⟨rfl, hg⟩; replace hs := hs.grew hg; clear hg)
        | (go_at_call 11; refine (awake3 _).mono ?_; rintro e w' ⟨rfl, hg⟩; replace hs := hs.grew hg; clear hg))
      go_ret
      exact ⟨rfl, hs.nothing⟩
  · have hft : fb = true := by cases fb with
      | true => rfl
      | false => exact absurd (.inl rfl) hno
    subst hft
    have d40 : decide (40 < (na : Int)) = false := decide_eq_false (by omega)
    have na40 : na ≤ 40 := by omega
    obtain ⟨hf40, hn10⟩ := few_all HF.out
    rw [HN.out] at hn10
    have HF4 := Lib.hid hf40
    clear hno hf40
    go_enter Try.func8, Try.ntmps8
    go_upto_region 11 with (first
      | (go_at_call 27; refine (few_c HN hn9 HRw.out HF).mono ?_; rintro e w' ⟨rfl, hg⟩; replace hs := hs.grew hg; clear hg)
      | (go_at_call 28; refine (sets_c HN (HRw.out.grew hs.made_grew) HF4.out).mono ?_; rintro e w' ⟨B, c, C, c2, ks, m, rfl, HKl, hm6, hko, hl⟩; replace hs := hs.made hl; clear hl; have HKo := Lib.hid hko; clear hko; have HSl : Hid ((ks.map fun k => ptr k.T).length = m) := by rw [Hid, List.length_map, HKl.out])
      | (go_at_call 29; refine (tame_c HLz hm6 (HKz.out.grew hs.made_grew)).mono ?_; rintro e w' ⟨E, ce, l, q, rfl, HLl, hok, hl18, hl⟩; replace hs := hs.made hl; clear hl; have HO := Lib.hid hok; clear hok; rw [HLl.out] at hl18; have HXl : Hid ((l.map toR).length = q) := (by rw [Hid, List.length_map, HLl.out]); have HCk := Lib.hid HO.out.check)
      | (go_at_call 30; refine (load_c HXl (by omega) (hs.ndview HO.out.kids64) HCk hs.rot.ksview.ptrs HSl (by omega) (ptrs_one ks)).mono ?_; rintro e w' ⟨D1, rfl, hl⟩; replace hs := hs.made hl; clear hl; rw [maps_back] at hs)
      | (go_at_call 22; refine (nodes_c hs HO.out HLl).mono ?_; rintro e w' ⟨E2, ce2, rfl, hl⟩; replace hs := hs.made hl; clear hl)
      | (go_at_call 30; refine (load_c HXl (by omega) (hs.ndview HO.out.kids64) HCk hs.up3.ksview.ptrs HSl (by omega) (ptrs_one ks)).mono ?_; rintro e w' ⟨D2, rfl, hl⟩; replace hs := hs.made hl; clear hl; rw [maps_back] at hs; replace hs := hs.rot.drop.up2.drop)
      | (go_at_call 23; refine (exlen_w hs HLl).mono ?_; rintro e w' ⟨rfl, rfl⟩)
      | (go_at_call 23; refine (exlen_w hs.rot HLl).mono ?_; rintro e w' ⟨rfl, rfl⟩)
      | (go_at_call 22; refine (nodes_c hs.rot HO.out HLl).mono ?_; rintro e w' ⟨F1, cf1, rfl, hl⟩; replace hs := hs.made hl; clear hl)
      | (go_at_call 22; refine (nodes_c hs.rot HO.out HLl).mono ?_; rintro e w' ⟨F2, cf2, rfl, hl⟩; replace hs := hs.made hl; clear hl)
      | (go_at_call 21; refine (samenodes_c HXl HXl (by omega) (hs.rot.ndview HO.out.kids64) (hs.ndview HO.out.kids64) (Lib.hid (sameNd_refl _))).mono ?_; rintro e w' ⟨rfl, hg⟩; replace hs := hs.grew hg; clear hg; replace hs := hs.drop.drop))
    have HOs : Hid (ArOk l (ks.map fun k => ptr k.T).length) := by rw [Hid, HSl.out]; exact HO.out
    obtain ⟨y, hy8, hand⟩ := mask_small z 8 (by decide)
    replace hand : bits .and .i64 z 255 = (y : Nat) := hand
    by_cases hm0 : m = 0
    · have e1 : decide ((0 : Int) < (m : Int)) = false := decide_eq_false (by omega)
      have e1n : decide (0 < m) = false := decide_eq_false (by omega)
      clear hm0
      go_wp2
      go_loopw [14] (fun cv wr => ∃ j : Nat, j ≤ q ∧ cv = .int .i64 (j : Nat) ∧ St w0 [ExB D2 l (ks.map fun k => ptr k.T), ExB D1 l (ks.map fun k => ptr k.T), SrB B c _ c2 ks] wr) (fun cv _ => q - (intOf cv).toNat)
      case atStart => exact ⟨0, Nat.zero_le _, rfl, hs⟩
      case round =>
        clear hs
        obtain ⟨j, hj, rfl, hs⟩ := hrel
        by_cases hlt : j < q
        · obtain ⟨bh, HBh⟩ : ∃ b, Hid (exTell l (ksS ks) (j : Int) z = b) := ⟨_, rfl⟩
          go_wp2_with (first
            | (go_at_call 23; refine (exlen_w hs.rot HLl).mono ?_; rintro e w' ⟨rfl, rfl⟩)
            | (go_at_call 17; refine (exhas_v hs.rot HOs.out hs.up2.ksview.sets HBh).mono ?_; rintro e w' ⟨rfl, hg⟩; replace hs := hs.grew hg; clear hg)
            | (go_at_call 17; refine (exhas_v hs HOs.out hs.up2.ksview.sets HBh).mono ?_; rintro e w' ⟨rfl, hg⟩; replace hs := hs.grew hg; clear hg))
          go_roundw
          case rel => first
            | exact ⟨j + 1, by omega, by go_num, hs⟩
            | ((repeat apply Exists.intro); refine ⟨?_, rfl⟩; exact ⟨j + 1, by omega, by go_num, hs⟩)
          case measure => simp [intOf] <;> omega
        · have hjq : j = q := by omega
          subst hjq
          go_wp2_with (first
            | (go_at_call 23; refine (exlen_w hs.rot HLl).mono ?_; rintro e w' ⟨rfl, rfl⟩)
            | (go_at_call 22; refine (nodes_c hs.rot HO.out HLl).mono ?_; rintro e w' ⟨F1, cf1, rfl, hl⟩; replace hs := hs.made hl; clear hl)
            | (go_at_call 31; refine (refchk_c HXl (by omega) (hs.ndview HO.out.kids64) HCk).mono ?_; rintro e w' ⟨rfl, hg⟩; replace hs := hs.grew hg; clear hg)
            | (go_at_call 11; refine (awake3 _).mono ?_; rintro e w' ⟨rfl, hg⟩; replace hs := hs.grew hg; clear hg))
          go_ret
          exact ⟨rfl, hs.nothing⟩
    · have e1 : decide ((0 : Int) < (m : Int)) = true := decide_eq_true (by omega)
      obtain ⟨k0, hk0⟩ : ∃ k, ks[0]? = some k := ⟨_, List.getElem?_eq_getElem (by rw [HKl.out]; omega)⟩
      obtain ⟨bb, oo, rfl, r1, r2⟩ := hs.up2.ksview.row 0 k0 hk0
      rw [Nat.add_zero] at r1
      have hS40 := HKo.out.few k0 (List.mem_of_getElem? hk0)
      have HR2 := Lib.hid r2
      have HSn : Hid ((natI k0.S).length = k0.S.length) := natI_len _
      have hm1 : 0 < m := by omega
      clear hm0 hk0 r2
      obtain ⟨N, HNs⟩ : ∃ n, Hid (k0.S.length = n) := ⟨_, rfl⟩
      rw [HNs.out] at r1 hS40 HSn
      by_cases hS0 : N = 0
      · have e2 : decide ((0 : Int) < (N : Int)) = false := decide_eq_false (by omega)
        have e2n : decide (0 < N) = false := decide_eq_false (by omega)
        clear hS0
        go_wp2
        go_loopw [14] (fun cv wr => ∃ j : Nat, j ≤ q ∧ cv = .int .i64 (j : Nat) ∧ St w0 [ExB D2 l (ks.map fun k => ptr k.T), ExB D1 l (ks.map fun k => ptr k.T), SrB B c _ c2 ks] wr) (fun cv _ => q - (intOf cv).toNat)
        case atStart => exact ⟨0, Nat.zero_le _, rfl, hs⟩
        case round =>
          clear hs
          obtain ⟨j, hj, rfl, hs⟩ := hrel
          by_cases hlt : j < q
          · obtain ⟨bh, HBh⟩ : ∃ b, Hid (exTell l (ksS ks) (j : Int) z = b) := ⟨_, rfl⟩
            go_wp2_with (first
              | (go_at_call 23; refine (exlen_w hs.rot HLl).mono ?_; rintro e w' ⟨rfl, rfl⟩)
              | (go_at_call 17; refine (exhas_v hs.rot HOs.out hs.up2.ksview.sets HBh).mono ?_; rintro e w' ⟨rfl, hg⟩; replace hs := hs.grew hg; clear hg)
              | (go_at_call 17; refine (exhas_v hs HOs.out hs.up2.ksview.sets HBh).mono ?_; rintro e w' ⟨rfl, hg⟩; replace hs := hs.grew hg; clear hg))
            go_roundw
            case rel => first
              | exact ⟨j + 1, by omega, by go_num, hs⟩
              | ((repeat apply Exists.intro); refine ⟨?_, rfl⟩; exact ⟨j + 1, by omega, by go_num, hs⟩)
            case measure => simp [intOf] <;> omega
          · have hjq : j = q := by omega
            subst hjq
            go_wp2_with (first
              | (go_at_call 23; refine (exlen_w hs.rot HLl).mono ?_; rintro e w' ⟨rfl, rfl⟩)
              | (go_at_call 22; refine (nodes_c hs.rot HO.out HLl).mono ?_; rintro e w' ⟨F1, cf1, rfl, hl⟩; replace hs := hs.made hl; clear hl)
              | (go_at_call 31; refine (refchk_c HXl (by omega) (hs.ndview HO.out.kids64) HCk).mono ?_; rintro e w' ⟨rfl, hg⟩; replace hs := hs.grew hg; clear hg)
              | (go_at_call 11; refine (awake3 _).mono ?_; rintro e w' ⟨rfl, hg⟩; replace hs := hs.grew hg; clear hg))
            go_ret
            exact ⟨rfl, hs.nothing⟩
      · have e2 : decide ((0 : Int) < (N : Int)) = true := decide_eq_true (by omega)
        have e2n : decide (0 < N) = true := decide_eq_true (by omega)
        obtain ⟨t, htN, ht1, ht2⟩ : ∃ t : Nat, t < N ∧ ((y : Int).tmod (N : Int)) = (t : Int) ∧ ((y : Int) % (N : Int)) = (t : Int) := ⟨y % N, Nat.mod_lt _ (by omega), (Int.ofNat_tmod y N).symm, (Int.natCast_emod y N).symm⟩
        obtain ⟨v, hv⟩ : ∃ v, (natI k0.S)[t]? = some v := ⟨_, List.getElem?_eq_getElem (by rw [HSn.out]; exact htN)⟩
        obtain ⟨b2, o2, hR0, r3⟩ := HR2.out t v hv
        rw [hR0] at r1
        have hN1 : ((N : Int) == 0) = false := by simp; omega
        clear hS0 hv hR0
        go_wp2
        refine wp_region_grow (by kernel_rfl) (by kernel_rfl) fun hne2 => ?_
        have g1 := fun p : GW w' => p.grew.cell r1
        have g2 := fun p : GW w' => p.grew.cell r3
        repeat (go_big_quiet_step (fail))
        refine wpQuiet_nil ?_
        clear hne2 g1 g2 ht1 ht2
        intro u hu
        replace hs := hs.grew hu
        clear hu r1 r3
        go_wp2
        go_loopw [14] (fun cv wr => ∃ j : Nat, j ≤ q ∧ cv = .int .i64 (j : Nat) ∧ St w0 [ExB D2 l (ks.map fun k => ptr k.T), ExB D1 l (ks.map fun k => ptr k.T), SrB B c _ c2 ks] wr) (fun cv _ => q - (intOf cv).toNat)
        case atStart => exact ⟨0, Nat.zero_le _, rfl, hs⟩
        case round =>
          clear hs
          obtain ⟨j, hj, rfl, hs⟩ := hrel
          by_cases hlt : j < q
          · obtain ⟨bh, HBh⟩ : ∃ b, Hid (exTell l (ksS ks) (j : Int) v = b) := ⟨_, rfl⟩
            go_wp2_with (first
              | (go_at_call 23; refine (exlen_w hs.rot HLl).mono ?_; rintro e w' ⟨rfl, rfl⟩)
              | (go_at_call 17; refine (exhas_v hs.rot HOs.out hs.up2.ksview.sets HBh).mono ?_; rintro e w' ⟨rfl, hg⟩; replace hs := hs.grew hg; clear hg)
              | (go_at_call 17; refine (exhas_v hs HOs.out hs.up2.ksview.sets HBh).mono ?_; rintro e w' ⟨rfl, hg⟩; replace hs := hs.grew hg; clear hg))
            go_roundw
            case rel => first
              | exact ⟨j + 1, by omega, by go_num, hs⟩
              | ((repeat apply Exists.intro); refine ⟨?_, rfl⟩; exact ⟨j + 1, by omega, by go_num, hs⟩)
            case measure => simp [intOf] <;> omega
          · have hjq : j = q := by omega
            subst hjq
            go_wp2_with (first
              | (go_at_call 23; refine (exlen_w hs.rot HLl).mono ?_; rintro e w' ⟨rfl, rfl⟩)
              | (go_at_call 22; refine (nodes_c hs.rot HO.out HLl).mono ?_; rintro e w' ⟨F1, cf1, rfl, hl⟩; replace hs := hs.made hl; clear hl)
              | (go_at_call 31; refine (refchk_c HXl (by omega) (hs.ndview HO.out.kids64) HCk).mono ?_; rintro e w' ⟨rfl, hg⟩; replace hs := hs.grew hg; clear hg)
              | (go_at_call 11; refine (awake3 _).mono ?_; rintro e w' ⟨rfl, hg⟩; replace hs := hs.grew hg; clear hg))
            go_ret
            exact ⟨rfl, hs.nothing⟩
end Go.Proofs.Ytkcbjkadalebjaa
