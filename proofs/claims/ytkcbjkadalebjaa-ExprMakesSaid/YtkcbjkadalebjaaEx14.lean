/-
  The statements' Few and Sets.
-/
import Derived.Test.YtkcbjkadalebjaaExAr
import Derived.Test.YtkcbjkadalebjaaRrow5
set_option maxRecDepth 100000
namespace Go.Proofs.Ytkcbjkadalebjaa
open Go Go.RowKit
attribute [local irreducible] wpList Calls Code.wp

/-- Rows of ints in memory. -/
structure RowsV (w : World) (A : Option Addr) (rs : List IRow) : Prop where
  row : ∀ (i : Nat) (r : IRow), rs[i]? = some r → ∃ b o, A = some ⟨b, o, none⟩ ∧ w.cell? ⟨b, o + i, none⟩ = some (.slice r.B r.zs.length r.bc) ∧ KidsR w r.B r.zs ∧ r.zs.length ≤ 9223372036854775807
theorem RowsV.grew {w w' : World} {A : Option Addr} {rs : List IRow} (h : RowsV w A rs) (hg : Grew w w') : RowsV w' A rs :=
  ⟨fun i r hr => let ⟨b, o, h1, h2, h3, h4⟩ := h.row i r hr; ⟨b, o, h1, hg.cell h2, h3.grew hg, h4⟩⟩
theorem rows_v {w : World} {v : Value} {rs : List IRow} (h : RowsArg encI (QI w) w v rs) : ∃ A cap, v = .slice A rs.length cap ∧ rs.length ≤ cap ∧ cap ≤ maxLen ∧ RowsV w A rs := by
  obtain ⟨A, cap, rfl, h1, h2, h3, h4⟩ := h
  refine ⟨A, cap, rfl, h1, h2, ⟨fun i r hr => ?_⟩⟩
  have g0 := flat_get (f := encI) (p := 1) (fun _ => rfl) hr 0 _ rfl
  rw [Nat.mul_one, Nat.add_zero] at g0
  obtain ⟨b, o, rfl, c0⟩ := h3.get g0
  have hq := h4 r (List.mem_of_getElem? hr)
  exact ⟨b, o, rfl, c0 w (St.start w), hq.kids, by have := hq.le; have := hq.bound; unfold maxLen at this; omega⟩
def fewB (rs : List IRow) : Bool := rs.all (fun r => decide (r.zs.length ≤ 40)) && decide (rs.length ≤ 10)
theorem few_take {rs : List IRow} {i : Nat} {r : IRow} (h : (rs.take i).all (fun r => decide (r.zs.length ≤ 40)) = true) (hr : rs[i]? = some r) (hl : r.zs.length ≤ 40) : (rs.take (i + 1)).all (fun r => decide (r.zs.length ≤ 40)) = true := by
  obtain ⟨hi, rfl⟩ := List.getElem?_eq_some_iff.1 hr
  rw [List.take_succ_eq_append_getElem hi, List.all_append, h]
  simp [hl]
theorem few_bad {rs : List IRow} {i : Nat} {r : IRow} (hr : rs[i]? = some r) (hl : ¬ r.zs.length ≤ 40) : fewB rs = false := by
  unfold fewB
  have : rs.all (fun r => decide (r.zs.length ≤ 40)) = false := by
    rw [List.all_eq_false]
    exact ⟨r, List.mem_of_getElem? hr, by simpa using hl⟩
  rw [this, Bool.false_and]
theorem few_c {w : World} {A : Option Addr} {rs : List IRow} {n cap : Nat} (hn : Hid (rs.length = n)) (hm : n ≤ 9223372036854775807) (hv : RowsV w A rs) {b : Bool} (hb : Hid (fewB rs = b)) :
    Calls Try.prog 27 #[.slice A n cap] w fun e w' => e = .returned (.bool b) ∧ Grew w w' := by
  have HV := Lib.hid hv
  rw [← hb.out]
  clear hv hb b
  obtain ⟨fb, HF⟩ : ∃ b, Hid (fewB rs = b) := ⟨_, rfl⟩
  rw [HF.out]
  go_enter Try.func27, Try.ntmps27
  go_wp2
  go_loopw [3] (fun cv wr => ∃ i : Nat, i ≤ n ∧ cv = .int .i64 (i : Nat) ∧ Hid ((rs.take i).all (fun r => decide (r.zs.length ≤ 40)) = true) ∧ Grew w wr) (fun cv _ => n - (intOf cv).toNat)
  case atStart => exact ⟨0, Nat.zero_le _, rfl, rfl, Grew.refl _⟩
  case round =>
    obtain ⟨i, hi, rfl, HT, hg⟩ := hrel
    by_cases hlt : i < n
    · obtain ⟨r, hr⟩ : ∃ r, rs[i]? = some r := ⟨_, List.getElem?_eq_getElem (by rw [hn.out]; exact hlt)⟩
      obtain ⟨b, o, rfl, c0, _, hl⟩ := HV.out.row i r hr
      replace c0 := hg.cell c0
      obtain ⟨k, HK⟩ : ∃ k, Hid (r.zs.length = k) := ⟨_, rfl⟩
      rw [HK.out] at c0 hl
      by_cases h40 : 40 < k
      · have d : decide (40 < (k : Int)) = true := decide_eq_true (by omega)
        have HB : Hid (fb = false) := by rw [Hid, ← HF.out, few_bad hr (by rw [HK.out]; omega)]
        clear h40 hr
        go_wp2
        go_ret
        exact ⟨by rw [HB.out]; rfl, hg⟩
      · have d : decide (40 < (k : Int)) = false := decide_eq_false (by omega)
        have HT2 := Lib.hid (few_take HT.out hr (by rw [HK.out]; omega))
        clear h40 hr
        go_wp2
        go_roundw
        case rel => exact ⟨i + 1, by omega, by go_num, HT2, hg⟩
        case measure => simp [intOf] <;> omega
    · have hin : i = n := by omega
      subst hin
      have hB : fb = decide (i ≤ 10) := by
        rw [← HF.out]
        unfold fewB
        have h := HT.out
        rw [List.take_of_length_le (by rw [hn.out]; exact Nat.le_refl _)] at h
        rw [h, Bool.true_and, hn.out]
      by_cases h10 : i ≤ 10
      · rw [decide_eq_true h10] at hB
        have d : decide ((i : Int) ≤ 10) = true := decide_eq_true (by omega)
        replace hB := Lib.hid hB
        clear h10
        go_wp2
        go_ret
        exact ⟨by rw [hB.out]; rfl, hg⟩
      · rw [decide_eq_false h10] at hB
        have d : decide ((i : Int) ≤ 10) = false := decide_eq_false (by omega)
        replace hB := Lib.hid hB
        clear h10
        go_wp2
        go_ret
        exact ⟨by rw [hB.out]; rfl, hg⟩
/-- A set, and its numbers as a row. -/
structure KS where
  T : Nat
  S : List Nat
  R : Option Addr
  rc : Nat
def ksA (k : KS) : As := star (HSet k.T k.S) (Ytkcbjkadalebjaa.own k.R k.S.length k.rc 3 1 (intv k.S))
def ksV (k : KS) : Value := .slice k.R k.S.length k.rc
def SrB (B : Option Addr) (c : Nat) (C : Option Addr) (c2 : Nat) (ks : List KS) : As := fun h =>
  big (Ytkcbjkadalebjaa.own B ks.length c 27 1 (ks.map fun k => ptr k.T) :: Ytkcbjkadalebjaa.own C ks.length c2 22 1 (ks.map ksV) :: ks.map ksA) h
theorem St.sropen {w0 w : World} {B C : Option Addr} {c c2 : Nat} {ks : List KS} {L : List As} (hs : St w0 (SrB B c C c2 ks :: L) w) :
    St w0 (Ytkcbjkadalebjaa.own B ks.length c 27 1 (ks.map fun k => ptr k.T) :: Ytkcbjkadalebjaa.own C ks.length c2 22 1 (ks.map ksV) :: (ks.map ksA ++ L)) w :=
  (show St w0 (big (Ytkcbjkadalebjaa.own B ks.length c 27 1 (ks.map fun k => ptr k.T) :: Ytkcbjkadalebjaa.own C ks.length c2 22 1 (ks.map ksV) :: ks.map ksA) :: L) w from hs).ent (Ent.flat _ L)
theorem Ent.srshut {B C : Option Addr} {c c2 n : Nat} {ks : List KS} {L : List As} (hn : n = ks.length) :
    Ent (Ytkcbjkadalebjaa.own B n c 27 1 (ks.map fun k => ptr k.T) :: Ytkcbjkadalebjaa.own C n c2 22 1 (ks.map ksV) :: (ks.map ksA ++ L)) (SrB B c C c2 ks :: L) := by
  subst hn
  exact Ent.unflat (Ytkcbjkadalebjaa.own B ks.length c 27 1 (ks.map fun k => ptr k.T) :: Ytkcbjkadalebjaa.own C ks.length c2 22 1 (ks.map ksV) :: ks.map ksA) L
structure KsOk (ks : List KS) : Prop where
  sorted : ∀ k ∈ ks, k.S.Pairwise (· < ·)
  small : ∀ k ∈ ks, ∀ a ∈ k.S, a < 16777216
  few : ∀ k ∈ ks, k.S.length ≤ 40
theorem KsOk.snoc {ks : List KS} {k : KS} {zs : List Int} (h : KsOk ks) (hz : zs.length ≤ 40) (hk : k.S = setS zs) : KsOk (ks ++ [k]) := by
  refine ⟨fun x hx => ?_, fun x hx => ?_, fun x hx => ?_⟩ <;> rcases List.mem_append.1 hx with h1 | h1
  · exact h.sorted x h1
  · rw [List.mem_singleton.1 h1, hk]; exact setS_sorted zs
  · exact h.small x h1
  · rw [List.mem_singleton.1 h1, hk]; exact setS_lt zs
  · exact h.few x h1
  · rw [List.mem_singleton.1 h1, hk]; have := setS_len zs; omega
theorem elemSS : ElemOk Try.prog 48 22 1 24 := ElemOk.of Try.underlying48 (z := .slice none 0 0) (by kernel_rfl) rfl (by decide)
theorem kidsR_nat {w : World} {A : Option Addr} {S : List Nat} (h : KidsR w A (natI S)) : RdS w [] A (intv S) := by
  have e : intv S = ints (natI S) := by
    unfold intv ints natI
    rw [List.map_map]
    rfl
  rw [e]
  exact RdS.kids h
attribute [local irreducible] setS
set_option maxHeartbeats 1000000 in
theorem sets_c {w : World} {A : Option Addr} {rs : List IRow} {n cap : Nat} (hn : Hid (rs.length = n)) (hv : RowsV w A rs) (hf : ∀ r ∈ rs, r.zs.length ≤ 40) :
    Calls Try.prog 28 #[.slice A n cap] w fun e w' => ∃ B c C c2 ks m, e = .returned (.tuple #[.slice B m c, .slice C m c2]) ∧ Hid (ks.length = m) ∧ m ≤ 6 ∧ KsOk ks ∧ St w [SrB B c C c2 ks] w' := by
  have HV := Lib.hid hv
  have HFw := Lib.hid hf
  have hs : St w [SrB none 0 none 0 []] w := (((St.start w).own_nil 22 1).own_nil 27 1).ent (Ent.srshut (ks := []) (L := []) rfl)
  clear hv hf
  go_enter Try.func28, Try.ntmps28
  go_wp2
  go_loopw [4, 5, 6] (fun bv cv iv wr => ∃ (i : Nat) (B : Option Addr) (c : Nat) (C : Option Addr) (c2 : Nat) (ks : List KS), i ≤ n ∧ i ≤ 6 ∧ bv = .slice B i c ∧ cv = .slice C i c2 ∧ iv = .int .i64 (i : Nat) ∧ Hid (ks.length = i) ∧ KsOk ks ∧ St w [SrB B c C c2 ks] wr) (fun _ _ iv _ => n - (intOf iv).toNat)
  case atStart => exact ⟨0, none, 0, none, 0, [], Nat.zero_le _, Nat.zero_le _, rfl, rfl, rfl, rfl, ⟨(fun k hk => nomatch hk), (fun k hk => nomatch hk), (fun k hk => nomatch hk)⟩, hs⟩
  case round =>
    clear hs
    obtain ⟨i, B, c, C, c2, ks, hi, hi6, rfl, rfl, rfl, HKl, HKo, hs⟩ := hrel
    by_cases hlt : i < n ∧ i < 6
    · obtain ⟨hlt, hlt6⟩ := hlt
      obtain ⟨r, hr⟩ : ∃ r, rs[i]? = some r := ⟨_, List.getElem?_eq_getElem (by rw [hn.out]; exact hlt)⟩
      obtain ⟨b, o, rfl, c0, hkR, _⟩ := HV.out.row i r hr
      have h40 := HFw.out r (List.mem_of_getElem? hr)
      have HR := Lib.hid hkR
      obtain ⟨k, HK⟩ : ∃ k, Hid (r.zs.length = k) := ⟨_, rfl⟩
      rw [HK.out] at c0 h40
      have HC := Lib.hid c0
      replace c0 := hs.made_grew.cell c0
      obtain ⟨S, HS⟩ : ∃ S, Hid (setS r.zs = S) := ⟨_, rfl⟩
      have hSl : S.length ≤ 40 := by rw [← HS.out]; have := setS_len r.zs; rw [HK.out] at this; omega
      have HKo2 : ∀ (T : Nat) (R : Option Addr) (rc : Nat), KsOk (ks ++ [⟨T, S, R, rc⟩]) := fun T R rc => HKo.snoc (zs := r.zs) (by rw [HK.out]; exact h40) HS.out.symm
      replace HKo2 := Lib.hid HKo2
      replace hs := hs.sropen
      rw [HKl.out] at hs
      clear hr hkR HKo
      go_wp2_with (first
        | (go_at_call 13; refine (new_v (n := k) hs (RdS.kids HR.out) HK (by unfold maxLen; omega) HS).mono ?_; clear hs c0; rintro e w' ⟨T1, rfl, hs⟩; have c0 := hs.made_grew.cell HC.out)
        | (refine wpl_build1 (v := ptr T1) elemP (by decide) rfl rfl hs ?_; clear hs c0; intro gp w3 hs)
        | (refine wpl_append (A := B) (B := some ⟨gp, 0, none⟩) (m := 1) (news := [ptr T1]) elemP rfl rfl hs (Ent.skip (Ent.skip (Ent.refl _))) RdS.blk rfl (by intro u hu; simp at hu; subst hu; rfl) (by unfold maxLen; omega) (by omega) ?_; clear hs; intro B2 cB2 w4 hs; replace hs := hs.rot.drop; have c0 := hs.made_grew.cell HC.out)
        | (go_at_call 45; refine (rset_c (n := k) hs (RdS.kids HR.out) HK.out (by omega) HS).mono ?_; clear hs c0; rintro e w' ⟨R1, rc1, rfl, hs⟩)
        | (refine wpl_build1 (v := .slice R1 S.length rc1) elemSS (by decide) rfl rfl hs ?_; clear hs; intro gs w5 hs)
        | (refine wpl_append (A := C) (B := some ⟨gs, 0, none⟩) (m := 1) (news := [.slice R1 S.length rc1]) elemSS rfl rfl hs (Ent.skip (Ent.skip (Ent.skip (Ent.skip (Ent.refl _))))) RdS.blk rfl (by intro u hu; simp at hu; subst hu; rfl) (by unfold maxLen; omega) (by omega) ?_; clear hs; intro C2 cC2 w6 hs; replace hs := hs.rot.drop))
      have hs2 : St w [SrB B2 cB2 C2 cC2 (ks ++ [⟨T1, S, R1, rc1⟩])] w6 := by
        have h1 := (hs.up2.ent (Ent.cons _ (Ent.cons _ (Ent.swap _ _ _)))).ent (Ent.cons _ (Ent.cons _ (Ent.shut2 (p := ksA ⟨T1, S, R1, rc1⟩) (fun _ h => h))))
        have h2 := h1.ent (Ent.cons _ (Ent.cons _ (Ent.push (ksA ⟨T1, S, R1, rc1⟩) (ks.map ksA) [])))
        have h3 := Ent.srshut (B := B2) (C := C2) (c := cB2) (c2 := cC2) (n := i + 1) (ks := ks ++ [⟨T1, S, R1, rc1⟩]) (L := []) (by rw [List.length_append, HKl.out]; rfl)
        simp only [List.map_append, List.map_cons, List.map_nil, List.append_assoc, List.cons_append, List.nil_append] at h3
        exact h2.ent h3
      go_roundw
      case rel => exact ⟨i + 1, B2, cB2, C2, cC2, _, by omega, by omega, rfl, rfl, by go_num, by rw [Hid, List.length_append, HKl.out]; rfl, HKo2.out T1 R1 rc1, hs2⟩
      case measure => simp [intOf] <;> omega
    · have hg : (decide ((i : Int) < (n : Int)) && decide ((i : Int) < 6)) = false := by
        rw [Bool.and_eq_false_iff]
        simp only [decide_eq_false_iff_not]
        omega
      have HKo' := Lib.hid HKo
      clear HKo
      by_cases h6 : i < n
      · have d1 : decide (i < n) = true := decide_eq_true h6
        have d2 : decide ((i : Int) < 6) = false := decide_eq_false (by omega)
        clear hlt h6 hg
        go_wp2
        go_ret2
        exact ⟨B, c, C, c2, ks, i, rfl, HKl, hi6, HKo'.out, hs⟩
      · have d1 : decide (i < n) = false := decide_eq_false h6
        clear hlt h6 hg
        go_wp2
        go_ret2
        exact ⟨B, c, C, c2, ks, i, rfl, HKl, hi6, HKo'.out, hs⟩
end Go.Proofs.Ytkcbjkadalebjaa
