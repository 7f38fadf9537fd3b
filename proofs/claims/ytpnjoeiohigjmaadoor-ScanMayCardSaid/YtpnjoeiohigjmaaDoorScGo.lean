/-
  ScanGoes: the walk.
-/
import Derived.Test.YtpnjoeiohigjmaaDoorScLw
import Derived.Test.YtpnjoeiohigjmaaDoorJF
set_option maxRecDepth 100000
namespace Go.Proofs.YtpnjoeiohigjmaaDoor
open Go Go.RowKit
attribute [local irreducible] wpList Calls Code.wp

theorem schas_c {w : World} {D : Nat} {l : List NodeE} {ss : List Value} {Ss : Nat → List Nat} (hc : ScV w D l ss Ss) (n i : Int) {b : Bool} (hb : Hid (exTell l Ss n i = b)) :
    Calls Tryd.prog 27 #[ptr D, .int .i64 n, .int .i64 i] w fun e w' => e = .returned (.bool b) ∧ Grew w w' := by
  obtain ⟨N, cap, P, cap2, hv⟩ := hc.view
  exact exhas_c hv hc.ok hc.sets n i hb
/-- Where the list's i-th number is looked for. -/
def atO (f : Nat) (o : List Nat) (i : Nat) : Nat := if i = 0 then f else o.getD (i - 1) 0 + 1
theorem lst_get {p : Nat → Bool} {f hi m i : Nat} (h : i < (lst p f hi m).length) : (lst p f hi m).getD i 0 = (sel p f hi).getD i 0 ∧ i < (sel p f hi).length ∧ i < m := by
  unfold lst at h ⊢
  rw [List.length_take] at h
  refine ⟨?_, by omega, by omega⟩
  rw [List.getD_eq_getElem?_getD, List.getD_eq_getElem?_getD, List.getElem?_take_of_lt (by omega)]
theorem sel_at {p : Nat → Bool} {f hi i : Nat} (h : i < (sel p f hi).length) : f ≤ (sel p f hi).getD i 0 ∧ (sel p f hi).getD i 0 < hi ∧ p ((sel p f hi).getD i 0) = true := by
  rw [List.getD_eq_getElem?_getD, List.getElem?_eq_getElem h, Option.getD_some]
  exact mem_sel.1 (List.getElem_mem h)
theorem sel_lt {p : Nat → Bool} {f hi i j : Nat} (hj : j < (sel p f hi).length) (h : i < j) : (sel p f hi).getD i 0 < (sel p f hi).getD j 0 := by
  rw [List.getD_eq_getElem?_getD, List.getD_eq_getElem?_getD, List.getElem?_eq_getElem hj, List.getElem?_eq_getElem (show i < _ by omega), Option.getD_some, Option.getD_some]
  exact List.pairwise_iff_getElem.1 (sel_sorted p f hi) i j (by omega) hj h
theorem sel_ix {p : Nat → Bool} {f hi x : Nat} (h1 : f ≤ x) (h2 : x < hi) (h3 : p x = true) : ∃ j, j < (sel p f hi).length ∧ (sel p f hi).getD j 0 = x := by
  obtain ⟨j, hj, e⟩ := List.getElem_of_mem (mem_sel.2 ⟨h1, h2, h3⟩)
  refine ⟨j, hj, ?_⟩
  rw [List.getD_eq_getElem?_getD, List.getElem?_eq_getElem hj, Option.getD_some, e]
theorem atO_ge {p : Nat → Bool} {f hi m i : Nat} (h : i ≤ (lst p f hi m).length) : f ≤ atO f (lst p f hi m) i := by
  unfold atO
  split
  · exact Nat.le_refl _
  · have h1 := lst_get (p := p) (f := f) (hi := hi) (m := m) (i := i - 1) (by omega)
    have := sel_at h1.2.1
    omega
/-- .. is the next one from there on. -/
theorem lst_nx {p : Nat → Bool} {f hi m i : Nat} (h : i < (lst p f hi m).length) : Nx p (atO f (lst p f hi m) i) hi (((lst p f hi m).getD i 0 : Nat) : Int) := by
  obtain ⟨h1, h2, h3⟩ := lst_get h
  obtain ⟨h4, h5, h6⟩ := sel_at h2
  rw [h1]
  refine .inr ⟨_, rfl, ?_, h5, h6, fun x hx1 hx2 => ?_⟩
  · unfold atO
    split
    · exact h4
    · have g := lst_get (p := p) (f := f) (hi := hi) (m := m) (i := i - 1) (by omega)
      have := sel_lt (p := p) (f := f) (hi := hi) (i := i - 1) (j := i) h2 (by omega)
      omega
  · cases hp : p x with
    | false => rfl
    | true =>
      exfalso
      have hf := atO_ge (p := p) (f := f) (hi := hi) (m := m) (i := i) (by omega)
      obtain ⟨j, hj, e⟩ := sel_ix (p := p) (f := f) (hi := hi) (show f ≤ x by omega) (by omega) hp
      rcases Nat.lt_trichotomy j i with hji | hji | hji
      · unfold atO at hx1
        rw [if_neg (by omega)] at hx1
        have g := lst_get (p := p) (f := f) (hi := hi) (m := m) (i := i - 1) (by omega)
        by_cases e2 : j = i - 1
        · subst e2; omega
        · have := sel_lt (p := p) (f := f) (hi := hi) (i := j) (j := i - 1) (by omega) (by omega)
          omega
      · subst hji; omega
      · have := sel_lt (p := p) (f := f) (hi := hi) (i := i) (j := j) hj hji
        omega
/-- .. and behind the last one there is none, if there were few. -/
theorem lst_end {p : Nat → Bool} {f hi m : Nat} (h : (lst p f hi m).length < m) : Nx p (atO f (lst p f hi m) (lst p f hi m).length) hi (-1) := by
  have hs : (sel p f hi).length ≤ m := by
    unfold lst at h
    rw [List.length_take] at h
    omega
  have hl := lst_all hs
  refine .inl ⟨rfl, fun x hx1 hx2 => ?_⟩
  cases hp : p x with
  | false => rfl
  | true =>
    exfalso
    have hf := atO_ge (p := p) (f := f) (hi := hi) (m := m) (i := (lst p f hi m).length) (Nat.le_refl _)
    obtain ⟨j, hj, e⟩ := sel_ix (p := p) (f := f) (hi := hi) (show f ≤ x by omega) hx2 hp
    rw [hl] at hx1
    unfold atO at hx1
    rw [if_neg (by omega)] at hx1
    by_cases e2 : j = (sel p f hi).length - 1
    · subst e2; omega
    · have := sel_lt (p := p) (f := f) (hi := hi) (i := j) (j := (sel p f hi).length - 1) (by omega) (by omega)
      omega
/-- What a round knows of its number. -/
structure GoI (l : List NodeE) (Ss : Nat → List Nat) (n c k : Nat) : Prop where
  le : c ≤ k
  lt : k < 16777216
  has : exTell l Ss n k = true
  nx : nxt (tel l Ss n) (c : Int).toNat 16777216 = (k : Int)
  none : ∀ x : Int, (c : Int) ≤ x → x < k → exTell l Ss n x = false
theorem goI {l : List NodeE} {Ss : Nat → List Nat} {n c k : Nat} (h : Nx (tel l Ss n) c 16777216 (k : Int)) : GoI l Ss n c k := by
  rcases h with ⟨h, _⟩ | ⟨k', h, h1, h2, h3, h4⟩
  · omega
  · have : k' = k := by omega
    subst this
    refine ⟨h1, h2, h3, (Nx.eq (.inr ⟨k', rfl, by omega, h2, h3, fun i a b => h4 i (by omega) b⟩)).symm, fun x a b => ?_⟩
    have := h4 x.toNat (by omega) (by omega)
    unfold tel at this
    rw [show ((x.toNat : Nat) : Int) = x by omega] at this
    exact this
def mask8 (z : Int) : Nat := (z % 256).toNat
attribute [local irreducible] checkV sameNd setS fewB exTell ksS nxt lst tel sel atO
set_option maxHeartbeats 4000000 in
theorem scgoes_c {w0 : World} (hT : Tab w0) {va vb : Value} {rs : List IRow} {za : List Int} (hva : RowsArg encI (QI w0) w0 va rs) (hvb : IntArg w0 vb za) (zn zf : Int) : Calls Tryd.prog 9 #[va, vb, .int .i64 zn, .int .i64 zf] w0 (LawPost w0) := by
  obtain ⟨A, ca, rfl, hle, hcap, hrow⟩ := rows_v hva
  obtain ⟨B0, na, cb, rfl, hlen, hnc, hcm, hra, hba⟩ := hvb
  have HLz := Lib.hid hlen
  unfold maxLen at hcap hcm
  have HRw := Lib.hid hrow
  have HKz : Hid (KidsR w0 B0 za) := fun j y hy => by
    obtain ⟨b, o, h1, h2⟩ := hra.get (ints_get hy)
    exact ⟨b, o, h1, h2 _ (St.start w0)⟩
  have hs := St.start w0
  have HT := Lib.hid hT
  obtain ⟨n, HN⟩ : ∃ n, Hid (rs.length = n) := ⟨_, rfl⟩
  rw [HN.out] at hle ⊢
  have hn9 : n ≤ 9223372036854775807 := by omega
  clear hrow hva hba hlen hra hT
  obtain ⟨fb, HF⟩ : ∃ b, Hid (fewB rs = b) := ⟨_, rfl⟩
  by_cases hno : fb = false ∨ 40 < na
  · by_cases hfb : fb = false
    · subst hfb
      clear hno
      go_enter Tryd.func9, Tryd.ntmps9
      go_wp2_with (first
        | (go_at_call 29; refine (few_c HN hn9 HRw.out HF).mono ?_; rintro e w' ⟨rfl, hg⟩; replace hs := hs.grew hg; clear hg)
        | (go_at_call 17; refine (awake4 _ (HT.out.st hs)).mono ?_; rintro e w' ⟨rfl, hg⟩; replace hs := hs.grew hg; clear hg))
      go_ret
      exact ⟨rfl, hs.nothing⟩
    · have hft : fb = true := by cases fb with
        | true => rfl
        | false => exact absurd rfl hfb
      subst hft
      have d40 : decide (40 < (na : Int)) = true := decide_eq_true (by
        rcases hno with h | h
        · cases h
        · omega)
      clear hno hfb
      go_enter Tryd.func9, Tryd.ntmps9
      go_wp2_with (first
        | (go_at_call 29; refine (few_c HN hn9 HRw.out HF).mono ?_; rintro e w' ⟨rfl, hg⟩; replace hs := hs.grew hg; clear hg)
        | (go_at_call 17; refine (awake4 _ (HT.out.st hs)).mono ?_; rintro e w' ⟨rfl, hg⟩; replace hs := hs.grew hg; clear hg))
      go_ret
      exact ⟨rfl, hs.nothing⟩
  · have hft : fb = true := by cases fb with
      | true => rfl
      | false => exact absurd (.inl rfl) hno
    subst hft
    have d40 : decide (40 < (na : Int)) = false := decide_eq_false (by omega)
    have na40 : na ≤ 40 := by omega
    obtain ⟨hf40, hn10⟩ := few_all HF.out
    rw [HN.out] at hn10
    have HF4 := Lib.hid hf40
    clear hno hf40
    go_enter Tryd.func9, Tryd.ntmps9
    go_upto_region 8 with (first
      | (go_at_call 29; refine (few_c HN hn9 HRw.out HF).mono ?_; rintro e w' ⟨rfl, hg⟩; replace hs := hs.grew hg; clear hg)
      | (go_at_call 30; refine (sets_c HN (HRw.out.grew hs.made_grew) HF4.out).mono ?_; rintro e w' ⟨B, c, C, c2, ks, m, rfl, HKl, hm6, hko, hl⟩; replace hs := hs.made hl; clear hl; have HKo := Lib.hid hko; clear hko; have HSl : Hid ((ks.map fun k => ptr k.T).length = m) := by rw [Hid, List.length_map, HKl.out])
      | (go_at_call 31; refine (tame_c HLz hm6 (HKz.out.grew hs.made_grew)).mono ?_; rintro e w' ⟨E, ce, l, q, rfl, HLl, hok, hl18, hl⟩; replace hs := hs.made hl; clear hl; have HO := Lib.hid hok; clear hok; rw [HLl.out] at hl18; have HXl : Hid ((l.map toR).length = q) := (by rw [Hid, List.length_map, HLl.out]); have HCk := Lib.hid HO.out.check)
      | (go_at_call 32; refine (load_c HXl (by omega) (hs.ndview HO.out.kids64) HCk hs.rot.ksview.ptrs HSl (by omega) (ptrs_one ks)).mono ?_; rintro e w' ⟨D1, rfl, hl⟩; replace hs := hs.made hl; clear hl; rw [maps_back] at hs))
    have HOs : Hid (ArOk l (ks.map fun k => ptr k.T).length) := by rw [Hid, HSl.out]; exact HO.out
    have hsc := hs.scv HOs.out hs.up2.ksview.sets HT.out
    by_cases hq0 : q = 0
    · subst hq0
      go_wp2_with (first
        | (go_at_call 17; refine (awake4 _ hsc.tab).mono ?_; rintro e w' ⟨rfl, hg⟩; replace hs := hs.grew hg; clear hg))
      go_ret
      exact ⟨rfl, hs.nothing⟩
    · have hq0' : decide (q = 0) = false := decide_eq_false hq0
      obtain ⟨y, hy, ha⟩ := mask_small zn 8 (by decide)
      replace ha : bits .and .i64 zn 255 = (y : Nat) := ha
      replace hy : y < 256 := hy
      obtain ⟨N, hN, hNq⟩ : ∃ N : Nat, ((y : Int)).tmod (q : Int) = (N : Int) ∧ N < q := ⟨y % q, by rw [Int.ofNat_tmod], Nat.mod_lt _ (by omega)⟩
      have hfm := and_ffffff zf
      have hf24 := kk24_lt zf
      generalize kk24 zf = F at hfm hf24
      obtain ⟨o, HOL⟩ : ∃ o, Hid (lst (tel l (ksS ks) (N : Nat)) (F : Int).toNat 16777216 (min (12 : Int) 100000).toNat = o) := ⟨_, rfl⟩
      obtain ⟨z, HZ⟩ : ∃ z, Hid (o.length = z) := ⟨_, rfl⟩
      go_wp2_with (first
        | (go_at_call 14; refine (sclist_c hsc (N : Nat) (F : Nat) 12 HOL HZ).mono ?_; rintro e w' ⟨A2, cp, rfl, hl⟩; replace hs := hs.made hl; replace hsc := hsc.grew hl.made_grew; clear hl))
      have hFO : Hid (atO F o 0 = F) := by rw [Hid]; unfold atO; rfl
      have HG : Hid (∀ i, i < z → GoI l (ksS ks) N (atO F o i) (o.getD i 0)) := fun i hi => by
        have h1 := HOL.out
        rw [Int.toNat_natCast] at h1
        have h2 := lst_nx (p := tel l (ksS ks) (N : Nat)) (f := F) (hi := 16777216) (m := (min (12 : Int) 100000).toNat) (i := i) (by rw [h1, HZ.out]; exact hi)
        rw [h1] at h2
        exact goI h2
      have HE : Hid (z = 12 ∨ nxt (tel l (ksS ks) (N : Nat)) ((atO F o z : Nat) : Int).toNat 16777216 = -1) := by
        by_cases h12 : z = 12
        · exact .inl h12
        · right
          have h1 := HOL.out
          rw [Int.toNat_natCast] at h1
          have hz12 : z ≤ 12 := by
            rw [← HZ.out, ← h1]
            unfold lst
            exact Nat.le_trans (List.length_take_le _ _) (by decide)
          have h2 := lst_end (p := tel l (ksS ks) (N : Nat)) (f := F) (hi := 16777216) (m := (min (12 : Int) 100000).toNat) (by rw [h1, HZ.out]; exact Nat.lt_of_lt_of_eq (show z < 12 by omega) (by decide))
          rw [h1, HZ.out] at h2
          rw [Int.toNat_natCast]
          exact h2.eq.symm
      have hz100 : z ≤ 100 := by
        rw [← HZ.out, ← HOL.out]
        unfold lst
        exact Nat.le_trans (List.length_take_le _ _) (by decide)
      clear HOL hq0 hy ha hN hfm hsc
      go_loopw [15, 16] (fun cv iv wr => ∃ i cc : Nat, cv = .int .i64 (cc : Nat) ∧ iv = .int .i64 (i : Nat) ∧ i ≤ z ∧ Hid (atO F o i = cc) ∧ St w0 [own A2 z cp 3 1 (ints (natI o)), ExB D1 l (ks.map fun k => ptr k.T), NdsB E ce l, SrB B c C c2 ks] wr) (fun _ iv _ => z - (intOf iv).toNat)
      case atStart => exact ⟨0, F, rfl, rfl, Nat.zero_le _, hFO, hs⟩
      case round =>
        clear hs
        obtain ⟨i, c0, rfl, rfl, hi, HC0, hs⟩ := hrel
        have hsc := hs.rot.scv HOs.out hs.up3.ksview.sets HT.out
        by_cases hlt : i < z
        · obtain ⟨k, HK⟩ : ∃ k, Hid (o.getD i 0 = k) := ⟨_, rfl⟩
          have hG := HG.out i hlt
          rw [HC0.out, HK.out] at hG
          have HGo := Lib.hid hG
          have hck := hG.le
          have hk24 := hG.lt
          have hr : (ints (natI o))[i]? = some (.int .i64 (k : Nat)) := by
            refine ints_get ?_
            unfold natI
            rw [List.getElem?_map]
            have : o[i]? = some k := by
              have h1 := HK.out
              rw [List.getD_eq_getElem?_getD, List.getElem?_eq_getElem (by rw [HZ.out]; exact hlt), Option.getD_some] at h1
              rw [List.getElem?_eq_getElem (by rw [HZ.out]; exact hlt), h1]
            rw [this]
            rfl
          obtain ⟨b9, rfl⟩ := hs.own_at (by omega)
          have HR9 := Lib.hid (Rd.own (w0 := w0) (g := b9) (n := z) (cap := cp) (e := 3) (size := 1) (L := [ExB D1 l (ks.map fun k => ptr k.T), NdsB E ce l, SrB B c C c2 ks]) hr)
          have r1 := HR9.out _ hs
          have d1 : decide (i < z) = true := decide_eq_true hlt
          have d2 : decide (k < c0) = false := decide_eq_false (by omega)
          have HCK := Lib.hid hck
          clear hG hr hck
          go_upto_region 16 with (fail)
          refine wp_region_grow (by kernel_rfl) (by kernel_rfl) fun hne2 => ?_
          have g1 := fun p : GW wr => p.grew.cell r1
          repeat (go_big_quiet_step ((first
            | (go_at_call 27; exact in_grew (schas_c (hsc.grew (GW.grew _)) _ _ (Lib.hid HGo.out.has)))
            | (go_at_call 13; exact in_grew (scn_c (hsc.grew (GW.grew _)) _ _ (Lib.hid HGo.out.nx))))))
          refine wpQuiet_nil ?_
          clear hne2 g1 d2
          intro u hu
          replace hs := hs.grew hu
          replace hsc := hsc.grew hu
          clear hu r1
          go_wp2
          go_loopw [17] (fun xv wr => ∃ j : Nat, xv = .int .i64 (j : Nat) ∧ j ≤ m ∧ St w0 [own (some ⟨b9, 0, none⟩) z cp 3 1 (ints (natI o)), ExB D1 l (ks.map fun k => ptr k.T), NdsB E ce l, SrB B c C c2 ks] wr) (fun xv _ => m - (intOf xv).toNat)
          case atStart => exact ⟨0, rfl, Nat.zero_le _, hs⟩
          case round =>
            clear hs hsc
            obtain ⟨j, rfl, hj, hs⟩ := hrel
            by_cases hjm : j < m
            · obtain ⟨kk, hkk⟩ : ∃ kk, ks[j]? = some kk := ⟨_, List.getElem?_eq_getElem (by rw [HKl.out]; exact hjm)⟩
              have HKK := Lib.hid hkk
              have hS40 := HKo.out.few kk (List.mem_of_getElem? hkk)
              obtain ⟨t, HTl⟩ : ∃ t, Hid (kk.S.length = t) := ⟨_, rfl⟩
              rw [HTl.out] at hS40
              have dj : decide (j < m) = true := decide_eq_true hjm
              clear hkk
              go_wp2
              go_loopw [18] (fun xv wr => ∃ v : Nat, xv = .int .i64 (v : Nat) ∧ v ≤ t ∧ St w0 [own (some ⟨b9, 0, none⟩) z cp 3 1 (ints (natI o)), ExB D1 l (ks.map fun k => ptr k.T), NdsB E ce l, SrB B c C c2 ks] wr) (fun xv _ => t - (intOf xv).toNat)
              case atStart => exact ⟨0, rfl, Nat.zero_le _, hs⟩
              case round =>
                clear hs
                obtain ⟨v, rfl, hv, hs⟩ := hrel
                obtain ⟨b, o3, rfl, r2, r3⟩ := hs.up3.ksview.row j kk HKK.out
                rw [HTl.out] at r2
                have HR3 := Lib.hid r3
                clear r3
                by_cases hvt : v < t
                · obtain ⟨x, hx⟩ : ∃ x, kk.S[v]? = some x := ⟨_, List.getElem?_eq_getElem (by rw [HTl.out]; exact hvt)⟩
                  obtain ⟨b2, o2, hR0, r4⟩ := HR3.out v (x : Int) (by unfold natI; rw [List.getElem?_map, hx]; rfl)
                  rw [hR0] at r2
                  have r1 := HR9.out _ hs
                  have hsc := hs.rot.scv HOs.out hs.up3.ksview.sets HT.out
                  have dv : decide (v < t) = true := decide_eq_true hvt
                  clear hx hR0
                  by_cases hin : c0 ≤ x ∧ x < k
                  · have HH : Hid (exTell l (ksS ks) (N : Nat) (x : Nat) = false) := HGo.out.none (x : Int) (by omega) (by omega)
                    have e1 : decide (c0 ≤ x) = true := decide_eq_true hin.1
                    have e2 : decide (x < k) = true := decide_eq_true hin.2
                    clear hin
                    go_wp2_with (first
                      | (go_at_call 27; refine (schas_c hsc _ _ HH).mono ?_; rintro e w' ⟨rfl, hg⟩; replace hs := hs.grew hg; clear hg))
                    go_roundw
                    case rel => exact ⟨v + 1, by go_num, by omega, hs⟩
                    case measure => simp [intOf] <;> omega
                  · by_cases h1 : c0 ≤ x
                    · have e1 : decide (c0 ≤ x) = true := decide_eq_true h1
                      have e2 : decide (x < k) = false := decide_eq_false (by omega)
                      clear hin h1
                      go_wp2
                      go_roundw
                      case rel => exact ⟨v + 1, by go_num, by omega, hs⟩
                      case measure => simp [intOf] <;> omega
                    · have e1 : decide (c0 ≤ x) = false := decide_eq_false h1
                      clear hin h1
                      go_wp2
                      go_roundw
                      case rel => exact ⟨v + 1, by go_num, by omega, hs⟩
                      case measure => simp [intOf] <;> omega
                · have dv : decide (v < t) = false := decide_eq_false hvt
                  clear hvt
                  go_wp2
                  go_roundw
                  case rel => exact ⟨j + 1, by go_num, by omega, hs⟩
                  case measure => simp [intOf] <;> omega
            · have dj : decide (j < m) = false := decide_eq_false hjm
              have r1 := HR9.out _ hs
              have HC2 : Hid (atO F o (i + 1) = k + 1) := by
                rw [Hid]
                unfold atO
                rw [if_neg (by omega), Nat.add_sub_cancel, HK.out]
              have hsc := hs.rot.scv HOs.out hs.up3.ksview.sets HT.out
              clear hjm
              by_cases hck2 : c0 < k
              · have e1 : decide (c0 < k) = true := decide_eq_true hck2
                have HH : Hid (exTell l (ksS ks) (N : Nat) (c0 : Nat) = false) := HGo.out.none (c0 : Int) (by omega) (by omega)
                clear hck2
                go_wp2_with (first
                  | (go_at_call 27; refine (schas_c hsc _ _ HH).mono ?_; rintro e w' ⟨rfl, hg⟩; replace hs := hs.grew hg; replace r1 := hg.cell r1; clear hg))
                go_roundw
                case rel => exact ⟨i + 1, k + 1, by go_num, by go_num, by omega, HC2, hs⟩
                case measure => simp [intOf] <;> omega
              · have e1 : decide (c0 < k) = false := decide_eq_false hck2
                clear hck2
                go_wp2
                go_roundw
                case rel => exact ⟨i + 1, k + 1, by go_num, by go_num, by omega, HC2, hs⟩
                case measure => simp [intOf] <;> omega
        · have hiz : i = z := by omega
          subst hiz
          have he := HE.out
          rw [HC0.out] at he
          have d1 : decide (i < i) = false := decide_eq_false (Nat.lt_irrefl i)
          clear hlt
          by_cases h12 : i = 12
          · subst h12
            clear he
            go_wp2_with (first
              | (go_at_call 17; refine (awake4 _ hsc.tab).mono ?_; rintro e w' ⟨rfl, hg⟩; replace hs := hs.grew hg; clear hg))
            go_ret
            exact ⟨rfl, hs.nothing⟩
          · have HNX := Lib.hid (he.resolve_left h12)
            have e12 : ((i : Int) == 12) = false := by simp; omega
            clear h12 he
            go_wp2_with (first
              | (go_at_call 13; refine (scn_c hsc _ _ HNX).mono ?_; rintro e w' ⟨rfl, hg⟩; replace hs := hs.grew hg; replace hsc := hsc.grew hg; clear hg)
              | (go_at_call 17; refine (awake4 _ hsc.tab).mono ?_; rintro e w' ⟨rfl, hg⟩; replace hs := hs.grew hg; clear hg))
            go_ret
            exact ⟨rfl, hs.nothing⟩
end Go.Proofs.YtpnjoeiohigjmaaDoor
