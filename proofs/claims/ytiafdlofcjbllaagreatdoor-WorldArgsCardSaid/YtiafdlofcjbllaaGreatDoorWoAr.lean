/-
  WorldArgs: New of any size, the document's May; the walk.
-/
import Derived.Test.YtiafdlofcjbllaaGreatDoorWo13
import Derived.Test.YtiafdlofcjbllaaGreatDoorEnAr
import Derived.Test.YtiafdlofcjbllaaGreatDoorArgC
import Derived.Test.YtiafdlofcjbllaaGreatDoorJA
set_option maxRecDepth 100000
namespace Go.Proofs.YtiafdlofcjbllaaGreatDoor
open Go Go.RowKit
attribute [local irreducible] wpList Calls Code.wp okI okN pS tS memS getG pG insS delS getV pV tV okVal newSl SlS.put SlS.err SlS.putU SlS.putB descE SlS.take SlS.set SlS.errSet SlS.get SlS.has stV EnS.live EnS.get EnS.slot EnS.ins EnS.set EnS.rem EnS.parts EnS.del ofN strL delA newA giveV cs3 errDs descsL mkV alMay newErr
theorem RdS.take8 {w0 : World} {L : List As} {A : Option Addr} {l : List Int} (h : RdS w0 L A (i8v l)) (k : Nat) : RdS w0 L A (i8v (l.take k)) := fun j u hu => by
  unfold i8v at hu
  rw [List.map_take, List.getElem?_take] at hu
  split at hu
  · exact h j u hu
  · cases hu
theorem renew_g {w0 w : World} {L : List As} {B : Option Addr} {k cB : Nat} {rs r2 : List Int} (hs : St w0 L w) (hr2 : Hid (rs.take 32 = r2)) (hB : B = none → k = 0 ∧ cB = 0) (hk : Hid (rs.length = k)) (hkc : k ≤ cB) (hrs : RdS w0 L B (i8v rs)) :
    Calls Tryz.prog 100 #[.slice B k cB] w fun e w' => ∃ R, e = .returned (.pointer (some ⟨R, 0, none⟩)) ∧ St w0 (ReB R r2 :: L) w' := by
  rw [← hr2.out]
  by_cases h : k ≤ 32
  · rw [List.take_of_length_le (by rw [hk.out]; exact h)]
    exact renew_c hs hB hk h hkc hrs
  · have hmin : min (k : Int) 32 = 32 := by omega
    have h32 : (32 : Int) ≤ (cB : Int) := by omega
    have h32n : 32 ≤ cB := by omega
    have hl : (rs.take 32).length = 32 := by rw [List.length_take, hk.out]; omega
    have hB2 : B = none → 32 = 0 ∧ cB = 0 := fun q => by have := (hB q).1; omega
    have HL := Lib.hid hl
    have HB := Lib.hid (clone8_c (l := rs.take 32) (cap := cB) hB2 hl (by decide) hs (hrs.take8 32))
    clear hrs hB hB2 hl
    go_enter Tryz.func100, Tryz.ntmps100
    go_wp2_with (first
      | (go_at_call 145; refine HB.out.mono ?_; clear hs; rintro r w ⟨A, cA, rfl, hs⟩)
      | (refine wpl_box_v (v := .agg #[.slice A 32 cA]) rfl hs ?_; clear hs; intro g1 w hs))
    go_ret
    exact ⟨g1, rfl, St.reshut HL.out hs⟩
set_option maxHeartbeats 4000000 in
theorem wo_new_g {w0 w : World} {L : List As} (hs : St w0 L w) {n : Nat} {top : Int} (h1 : 1 ≤ n) (h2 : n ≤ 65536) (h3 : 1 ≤ top) (h4 : top ≤ 4294967295) {A : Option Addr} {m cA : Nat} {ds : List V3} (hm : Hid (ds.length = m)) (hmb : m ≤ 140737488355328) (hr : RdS w0 L A (cs3 ds)) (he : Hid (errDs 0 ds = 0))
    {B : Option Addr} {k cB : Nat} {rs : List Int} {r2 : List Int} (hr2 : Hid (rs.take 32 = r2)) (hB : B = none → k = 0 ∧ cB = 0) (hk : Hid (rs.length = k)) (hkc : k ≤ cB) (hrs : RdS w0 L B (i8v rs)) :
    Calls Tryz.prog 47 #[.agg (cfC (n : Nat) top A m cA B k cB).toArray] w fun r w' => ∃ W E A1 R X Q l, Hid (NewL ds l) ∧ r = .returned (.tuple #[.pointer (some ⟨W, 0, none⟩), .int .i64 0]) ∧ St w0 (WoB W E A1 R X Q n ⟨⟨top, newA n, l⟩, [], r2, false⟩ :: L) w' := by
  have b1 := build_th
  have b2 := build_on
  have b3 := build_wa
  have b4 := build_wo
  go_enter Tryz.func47, Tryz.ntmps47
  go_upto_region 1 with (first
    | (refine wpl_box_v (v := .agg (cfC (n : Nat) top A m cA B k cB).toArray) rfl hs ?_; clear hs; intro g1 w hs; replace hs : St w0 (blk g1 (cfC (n : Nat) top A m cA B k cB).toArray 28 :: L) w := hs))
  have c0 : World.cell? _ ⟨g1, 0, none⟩ = some (.int .i64 (n : Nat)) := Rd.blk (by rfl) _ hs
  have c1 : World.cell? _ ⟨g1, 1, none⟩ = some (.int .i64 top) := Rd.blk (by rfl) _ hs
  have c2 : World.cell? _ ⟨g1, 2, none⟩ = some (.slice A m cA) := Rd.blk (by rfl) _ hs
  go_upto_region 4 with (first
    | (go_at_call 14; refine (en_new_ok hs h1 h2 h3 h4 hm hmb hr.tail he).mono ?_; clear hs c0 c1 c2; rintro r w ⟨E, A1, R, l, HNL, rfl, hs⟩))
  replace hs : St w0 (blk g1 (cfC (n : Nat) top A m cA B k cB).toArray 28 :: EnB E A1 R ⟨top, newA n, l⟩ :: L) _ := hs.ent (by (repeat first | exact Ent.refl _ | refine Ent.step (by repeat first | exact Ent.refl _ | apply Ent.skip) ?_))
  refine wp_mix 3 [0, 1, 2, 3, 8, 9, 10, 11] [4, 5, 6, 7, 12, 13, 14, 15] hs.only (by kernel_rfl) (by kernel_rfl) fun hne => ?_
  have r0 := (show Rd w0 [blk g1 (cfC (n : Nat) top A m cA B k cB).toArray 28] ⟨g1, 0, none⟩ (.int .i64 (n : Nat)) from Rd.blk (by rfl)).alln
  have r1 := (show Rd w0 [blk g1 (cfC (n : Nat) top A m cA B k cB).toArray 28] ⟨g1, 1, none⟩ (.int .i64 top) from Rd.blk (by rfl)).alln
  have r3 := (show Rd w0 [blk g1 (cfC (n : Nat) top A m cA B k cB).toArray 28] ⟨g1, 3, none⟩ (.slice B k cB) from Rd.blk (by rfl)).alln
  simp only [opsAt, List.getElem?_toArray, List.getElem?_cons_succ, List.getElem?_cons_zero]
  repeat (go_big_quiet_step (fail))
  refine wpQuiet_nil ?_
  clear hne r0 r1 r3
  replace hs := hs.drew
  refine wpMix_next [4] (by kernel_rfl) (by simp) (fun c hc => ?_)
  simp only [List.mem_singleton] at hc
  subst hc
  refine ⟨_, rfl, ?_⟩
  go_wp2_with (first
    | (go_at_call 100; refine (renew_g hs hr2 hB hk hkc hrs.tail.tail).mono ?_; clear hs; rintro r w ⟨X, rfl, hs⟩))
  replace hs : St w0 (blk g1 (cfC (n : Nat) top A m cA B k cB).toArray 28 :: EnB E A1 R ⟨top, newA n, l⟩ :: ReB X r2 :: L) w := hs.ent (by (repeat first | exact Ent.refl _ | refine Ent.step (by repeat first | exact Ent.refl _ | apply Ent.skip) ?_))
  replace hs : St w0 (blk g1 (cfC (n : Nat) top A m cA B k cB).toArray 28 :: EnB E A1 R ⟨top, newA n, l⟩ :: ReB X r2 :: L) w := hs.ent (by (repeat first | exact Ent.refl _ | refine Ent.step (by repeat first | exact Ent.refl _ | apply Ent.skip) ?_))
  refine mix_quiet [5] [6, 7, 12, 13, 14, 15] hs.only (by kernel_rfl) (by kernel_rfl) fun hne => ?_
  simp only [opsAt, List.getElem?_toArray, List.getElem?_cons_succ, List.getElem?_cons_zero]
  repeat (go_big_quiet_step (fail))
  refine wpQuiet_nil ?_
  clear hne
  refine wpMix_next [6] (by kernel_rfl) (by simp) (fun c hc => ?_)
  simp only [List.mem_singleton] at hc
  subst hc
  refine ⟨_, rfl, ?_⟩
  go_wp2_with (first
    | (go_at_call 101; refine (qnew_c hs).mono ?_; clear hs; rintro r w ⟨Q, rfl, hs⟩))
  replace hs : St w0 (blk g1 (cfC (n : Nat) top A m cA B k cB).toArray 28 :: EnB E A1 R ⟨top, newA n, l⟩ :: ReB X r2 :: QuB Q [] :: L) w := hs.ent (by (repeat first | exact Ent.refl _ | refine Ent.step (by repeat first | exact Ent.refl _ | apply Ent.skip) ?_))
  refine mix_quiet [7, 12] [13, 14, 15] hs.only (by kernel_rfl) (by kernel_rfl) fun hne => ?_
  simp only [opsAt, List.getElem?_toArray, List.getElem?_cons_succ, List.getElem?_cons_zero]
  repeat (go_big_quiet_step (fail))
  refine wpQuiet_nil ?_
  clear hne
  refine wpMix_next [13] (by kernel_rfl) (by simp) (fun c hc => ?_)
  simp only [List.mem_singleton] at hc
  subst hc
  refine ⟨_, rfl, ?_⟩
  refine wpl_box_v (v := .agg (woC E X Q false n top)) rfl hs ?_
  clear hs
  intro W w hs
  replace hs : St w0 (blk W (woC E X Q false n top) 132 :: blk g1 (cfC (n : Nat) top A m cA B k cB).toArray 28 :: EnB E A1 R ⟨top, newA n, l⟩ :: ReB X r2 :: QuB Q [] :: L) w := hs
  replace hs : St w0 (blk g1 (cfC (n : Nat) top A m cA B k cB).toArray 28 :: EnB E A1 R ⟨top, newA n, l⟩ :: ReB X r2 :: QuB Q [] :: blk W (woC E X Q false n top) 132 :: L) w := hs.ent (by (repeat first | exact Ent.refl _ | refine Ent.step (by repeat first | exact Ent.refl _ | apply Ent.skip) ?_))
  refine wpList_nil ⟨rfl, ?_⟩
  refine mix_quiet [14, 15] [] hs.only (by kernel_rfl) (by kernel_rfl) fun hne => ?_
  simp only [opsAt, List.getElem?_toArray, List.getElem?_cons_succ, List.getElem?_cons_zero]
  try simp only [Act.put, List.setIfInBounds_toArray, List.set_cons_succ, List.set_cons_zero]
  repeat (go_big_quiet_step (fail))
  refine wpQuiet_nil ?_
  clear hne
  refine wpMix_end ?_
  go_wp2
  go_ret2
  exact ⟨W, E, A1, R, X, Q, l, HNL, rfl, St.woshut (s := ⟨⟨top, newA n, l⟩, [], r2, false⟩) (hs.ent (M := blk W (woC E X Q false n top) 132 :: EnB E A1 R ⟨top, newA n, l⟩ :: ReB X r2 :: QuB Q [] :: blk g1 (cfC (n : Nat) top A m cA B k cB).toArray 28 :: L) (by (repeat first | exact Ent.refl _ | refine Ent.step (by repeat first | exact Ent.refl _ | apply Ent.skip) ?_))) |> fun h => h.rot.drop⟩
/-- New refused: nil and the error. -/
theorem wo_new_e {w0 w : World} {L : List As} (hs : St w0 L w) {n top : Int} {A : Option Addr} {m cA : Nat} {ds : List V3} (hm : Hid (ds.length = m)) (hmb : m ≤ 140737488355328) (hr : RdS w0 L A (cs3 ds)) {e : Int} (he : Hid (newErr n top ds = e)) (h0 : Hid (e ≠ 0)) {B : Option Addr} {k cB : Nat} :
    Calls Tryz.prog 47 #[.agg (cfC n top A m cA B k cB).toArray] w fun r w' => r = .returned (.tuple #[.pointer none, .int .i64 e]) ∧ ∃ g, St w0 (blk g (cfC n top A m cA B k cB).toArray 28 :: L) w' := by
  have e5 : (e == 0) = false := by simpa using h0.out
  have e6 : (e != 0) = true := by simpa using h0.out
  go_enter Tryz.func47, Tryz.ntmps47
  go_upto_region 1 with (first
    | (refine wpl_box_v (v := .agg (cfC n top A m cA B k cB).toArray) rfl hs ?_; clear hs; intro g1 w hs; replace hs : St w0 (blk g1 (cfC n top A m cA B k cB).toArray 28 :: L) w := hs))
  have c0 : World.cell? _ ⟨g1, 0, none⟩ = some (.int .i64 n) := Rd.blk (by rfl) _ hs
  have c1 : World.cell? _ ⟨g1, 1, none⟩ = some (.int .i64 top) := Rd.blk (by rfl) _ hs
  have c2 : World.cell? _ ⟨g1, 2, none⟩ = some (.slice A m cA) := Rd.blk (by rfl) _ hs
  go_wp2_with (first
    | (go_at_call 14; refine (en_new_ge hs hm hmb hr.tail he h0).mono ?_; clear hs c0 c1 c2; rintro r w ⟨rfl, hs⟩))
  go_ret2
  exact ⟨rfl, g1, hs⟩
/-! ### The walk -/
theorem relen_v {w0 w : World} {L : List As} {W E A R X Q n : Nat} {s : WoS} (hs : St w0 (WoB W E A R X Q n s :: L) w) {j : Nat} (hj : Hid (s.r.length = j)) : Calls Tryz.prog 50 #[.pointer (some ⟨X, 0, none⟩)] w fun e w' => e = .returned (.int .i64 (j : Nat)) ∧ Grew w w' := by
  rw [← hj.out]
  exact relen_c (L := EnB E A R s.e :: YtiafdlofcjbllaaGreatDoor.blk W (woC E X Q s.held n s.e.top) 132 :: QuB Q s.q :: L) ((wo_en hs).ent (by (repeat first | exact Ent.refl _ | refine Ent.step (by repeat first | exact Ent.refl _ | apply Ent.skip) ?_)))
theorem woheld_w {w0 w : World} {L : List As} {W E A R X Q n : Nat} {s : WoS} (hs : St w0 (WoB W E A R X Q n s :: L) w) {b : Bool} (hb : Hid (s.held = b)) : Calls Tryz.prog 51 #[.pointer (some ⟨W, 0, none⟩)] w fun e w' => e = .returned (.bool b) ∧ Grew w w' := by
  rw [← hb.out]; exact woheld_c hs
theorem newErr_0 {n top : Int} {ds : List V3} (h : newErr n top ds = 0) : ∃ N : Nat, n = (N : Int) ∧ 1 ≤ N ∧ N ≤ 65536 ∧ 1 ≤ top ∧ top ≤ 4294967295 ∧ errDs 0 ds = 0 := by
  unfold newErr at h
  cases hM : alMay n top with
  | false => rw [hM] at h; simp at h
  | true =>
    rw [hM] at h
    simp only [if_true] at h
    obtain ⟨a1, a2, a3, a4⟩ := alMay_iff.1 hM
    obtain ⟨k, rfl⟩ := Int.eq_ofNat_of_zero_le (show 0 ≤ n by omega)
    exact ⟨k, rfl, by omega, by omega, a3, a4, h⟩
set_option maxHeartbeats 8000000 in
theorem woargs_c {w0 : World} (hT : Tab w0) {v : Value} (hv : CfgArg w0 v) :
    Calls Tryz.prog 4 #[v] w0 (LawPost w0) := by
  obtain ⟨n, top, v2, v3, ds, rs, rfl, ⟨A, cA, rfl, hnc, hcm, hr, -⟩, ⟨B, k, cB, rfl, hk, hkc, hkm, hrb, -⟩, hB⟩ := hv
  unfold maxLen at hcm hkm
  obtain ⟨m, hm⟩ : ∃ n, Hid (ds.length = n) := ⟨_, rfl⟩
  rw [hm.out] at hnc
  rw [hm.out]
  replace hk := Lib.hid hk
  have hBn : B = none → k = 0 ∧ cB = 0 := fun q => hB k cB (by rw [q])
  clear hB
  have hs := St.start w0
  rw [← cs3_rows] at hr
  change RdS w0 [] B (i8v rs) at hrb
  show Calls Tryz.prog 4 #[.agg (cfC n top A m cA B k cB).toArray] w0 (LawPost w0)
  go_enter Tryz.func4, Tryz.ntmps4
  go_upto_region 1 with (first
    | (refine wpl_box_v (v := .agg (cfC n top A m cA B k cB).toArray) rfl hs ?_; clear hs; intro g1 w hs; replace hs : St w0 [blk g1 (cfC n top A m cA B k cB).toArray 28] w := hs))
  have c2 : World.cell? _ ⟨g1, 2, none⟩ = some (.slice A m cA) := Rd.blk (by rfl) _ hs
  have c3' : World.cell? _ ⟨g1, 3, none⟩ = some (.slice B k cB) := Rd.blk (by rfl) _ hs
  by_cases h70 : 70 < m
  · have h71 : (70 : Int) < (m : Int) := by omega
    (go_wp2_with (first
      | (go_at_call 46; refine (awake16 (hT.grew hs.below)).mono ?_; rintro r w ⟨rfl, hg⟩; replace hs := hs.grew hg; clear hg)))
    go_ret
    exact ⟨rfl, hs.drop⟩
  · have h71 : ¬ (70 : Int) < (m : Int) := by omega
    by_cases h60 : 60 < k
    · have h61 : (60 : Int) < (k : Int) := by omega
      (go_wp2_with (first
        | (go_at_call 46; refine (awake16 (hT.grew hs.below)).mono ?_; rintro r w ⟨rfl, hg⟩; replace hs := hs.grew hg; clear hg)))
      go_ret
      exact ⟨rfl, hs.drop⟩
    · have h61 : ¬ (60 : Int) < (k : Int) := by omega
      go_upto_region 3 with (fail)
      clear c2 c3' h71 h61
      obtain ⟨e, HE⟩ : ∃ z, Hid (newErr n top ds = z) := ⟨_, rfl⟩
      by_cases h0 : e = 0
      · subst h0
        obtain ⟨N, rfl, n1, n2, n3, n4, h00⟩ := newErr_0 HE.out
        have HD := Lib.hid h00
        obtain ⟨r2, HR2⟩ : ∃ z, Hid (rs.take 32 = z) := ⟨_, rfl⟩
        obtain ⟨j, HJ⟩ : ∃ z, Hid (r2.length = z) := ⟨_, rfl⟩
        have hmin : min (k : Int) 32 = (j : Int) := by
          have h1 := HJ.out
          rw [← HR2.out, List.length_take, hk.out] at h1
          omega
        clear h00
        go_upto_region 5 with (first
          | (refine wpl_load_agg (cs := cfC (N : Nat) top A m cA B k cB) (b := g1) (o := 0) rfl aggCf (sizeCf _ _ _ _ _ _ _ _) hs ?hh ?_; case hh => exact fun j x hx => by first | exact Rd.blk (by simpa using hx) | exact (Rd.blk (by simpa using hx)).tail)
          | (go_at_call 47; refine (wo_new_g hs n1 n2 n3 n4 hm (by omega) hr.tail HD HR2 hBn hk hkc hrb.tail).mono ?_; clear hs; rintro r w ⟨W, E, A1, R, X, Q, l, HNL, rfl, hs⟩)
          | (go_at_call 48; refine (may15_c hs hm (by omega) hr.tail.tail HE).mono ?_; rintro r w ⟨rfl, hg⟩; replace hs := hs.grew hg; clear hg))
        obtain ⟨s0, HS0⟩ : ∃ z, Hid ((⟨⟨top, newA N, l⟩, [], r2, false⟩ : WoS) = z) := ⟨_, rfl⟩
        have HHe : Hid (s0.held = false) := by rw [← HS0.out]; exact Lib.hid rfl
        have HJ2 : Hid (s0.r.length = j) := by rw [← HS0.out]; exact HJ
        rw [HS0.out] at hs
        clear n1 n2 n3 n4 HD HNL HS0 HJ HE HR2
        have k3 : World.cell? _ ⟨g1, 3, none⟩ = some (.slice B k cB) := (Rd.blk (k := 3) (by rfl)).tail _ hs
        go_upto_region 7 with (fail)
        refine wp_region_grow (by kernel_rfl) (by kernel_rfl) fun hne => ?_
        have f3 := fun p : GW _ => p.grew.cell k3
        repeat (go_big_quiet_step (first
          | (go_at_call 49; exact in_gsame (wo_res (hs.grew (GW.grew _))))
          | (go_at_call 50; exact in_grew (relen_v (hs.grew (GW.grew _)) HJ2))
          | (go_at_call 51; exact in_grew (woheld_w (hs.grew (GW.grew _)) HHe))
          | (go_at_call 46; exact in_grew (awake16 (hT.grew (hs.grew (GW.grew _)).below)))))
        refine wpQuiet_nil ?_
        clear hne f3 k3
        intro u hu
        replace hs := hs.grew hu
        go_wp2
        go_ret
        exact ⟨rfl, hs.drop.drop⟩
      · have e5 : (e == 0) = false := by simpa using h0
        have e6 : (e != 0) = true := by simpa using h0
        have H0 := Lib.hid h0
        clear h0
        go_upto_region 7 with (first
          | (refine wpl_load_agg (cs := cfC n top A m cA B k cB) (b := g1) (o := 0) rfl aggCf (sizeCf _ _ _ _ _ _ _ _) hs ?hh ?_; case hh => exact fun j x hx => by first | exact Rd.blk (by simpa using hx) | exact (Rd.blk (by simpa using hx)).tail)
          | (go_at_call 47; refine (wo_new_e hs hm (by omega) hr.tail HE H0).mono ?_; clear hs; rintro r w ⟨rfl, g2, hs⟩)
          | (go_at_call 48; refine (may15_c hs hm (by omega) hr.tail.tail HE).mono ?_; rintro r w ⟨rfl, hg⟩; replace hs := hs.grew hg; clear hg))
        refine wp_region_grow (by kernel_rfl) (by kernel_rfl) fun hne => ?_
        repeat (go_big_quiet_step (first
          | (go_at_call 46; exact in_grew (awake16 (hT.grew (hs.grew (GW.grew _)).below)))))
        refine wpQuiet_nil ?_
        clear hne
        intro u hu
        replace hs := hs.grew hu
        go_wp2
        go_ret
        exact ⟨rfl, hs.drop.drop⟩
end Go.Proofs.YtiafdlofcjbllaaGreatDoor
