/-
  AllocPlays.
-/
import Derived.Test.YtkcbjkadalebjaaDoorRa6
set_option maxRecDepth 100000
namespace Go.Proofs.YtkcbjkadalebjaaDoor
open Go Go.RowKit
attribute [local irreducible] wpList Calls Code.wp

theorem and_3 (z : Int) : bits .and .i64 z 3 = ((z % 4).toNat : Nat) := by
  show IntKind.i64.wrap ((BitVec.ofInt 64 z &&& BitVec.ofInt 64 3).toNat : Int) = _
  rw [BitVec.toNat_and, show (BitVec.ofInt 64 3).toNat = 2 ^ 2 - 1 by decide, Nat.and_two_pow_sub_one_eq_mod, BitVec.toNat_ofInt, IntKind.wrap_i64]
  omega
theorem and_7 (z : Int) : bits .and .i64 z 7 = ((z % 8).toNat : Nat) := by
  show IntKind.i64.wrap ((BitVec.ofInt 64 z &&& BitVec.ofInt 64 7).toNat : Int) = _
  rw [BitVec.toNat_and, show (BitVec.ofInt 64 7).toNat = 2 ^ 3 - 1 by decide, Nat.and_two_pow_sub_one_eq_mod, BitVec.toNat_ofInt, IntKind.wrap_i64]
  omega
theorem c4h_one (o : OpA) : ∀ v ∈ c4h o, v.oneCell' = true := by
  intro v hv
  simp [c4h, h2] at hv
  rcases hv with rfl | rfl | rfl | rfl <;> rfl
theorem aggO : aggB Tryd.prog 32 = true := by kernel_rfl
theorem sizeO (o : OpA) : (Tryd.prog.info? 32).map (·.size) = some (c4h o).length := by kernel_rfl
theorem zeroO : (Tryd.prog.info? 32).bind (·.zero) = some (.agg (c4h ⟨0, 0, (0, 0)⟩).toArray) := by kernel_rfl
theorem WrA.slotO {w0 : World} {s : Nat} {u v : OpA} {t : TypeId} {L : List As} : WrA w0 (YtkcbjkadalebjaaDoor.blk s (c4h u).toArray t :: L) ⟨s, 0, none⟩ (Value.agg (c4h v).toArray).cells.toList (YtkcbjkadalebjaaDoor.blk s (c4h v).toArray t :: L) := by
  have := WrA.blk (w0 := w0) (g := s) (o := 0) (cs := c4h u) (t := t) (vs := c4h v) (L := L) (by simp [c4h, h2]) (c4h_one v)
  rwa [splice_all (by simp [c4h, h2])] at this
theorem rmay_v {n top : Int} {b : Bool} (h : Hid (alMay n top = b)) (w : World) : Calls Tryd.prog 19 #[.int .i64 n, .int .i64 top] w fun e w' => e = .returned (.bool b) ∧ w = w' := by
  rw [← h.out]; exact rmay_c n top w
theorem giveV_x {s : Nat} {cs d : List ACell} {v : Hdl} {x : Int} (h : giveV s cs = (v, x, d)) : x = 0 ∨ x = 6 ∨ x = 7 := by
  unfold giveV at h
  split at h
  · cases h; exact .inl rfl
  · split at h
    · cases h; exact .inr (.inl rfl)
    · cases h; exact .inr (.inr rfl)
attribute [local irreducible] idxS addS okN memS remS errN insS delS nextS stA gnA stV atA hsV mergeA giveV delA newA bsV padA idxU listS allH alMay
set_option maxHeartbeats 8000000 in
theorem aplays_c {w0 : World} (hT : Tab w0) (z1 z2 : Int) {va : Value} {xs : List OpA} (hva : RowsArg c4h (fun _ => True) w0 va xs) : Calls Tryd.prog 7 #[.int .i64 z1, .int .i64 z2, va] w0 (LawPost w0) := by
  obtain ⟨A, ca, rfl, hnc, hcm, hra, _⟩ := hva
  unfold maxLen at hcm
  have hs := St.start w0
  obtain ⟨n, hn, hn1, hn2⟩ : ∃ n : Nat, ((z1 % 256).toNat : Int) % 70 + 1 = (n : Int) ∧ 1 ≤ n ∧ n ≤ 70 := ⟨(((z1 % 256).toNat : Int) % 70 + 1).toNat, by omega, by omega, by omega⟩
  obtain ⟨t, ht, ht1, ht2⟩ : ∃ t : Nat, ((z2 % 4).toNat : Int) + 1 = (t : Int) ∧ 1 ≤ t ∧ t ≤ 4 := ⟨(((z2 % 4).toNat : Int) + 1).toNat, by omega, by omega, by omega⟩
  have hand1 := and_ff z1
  have hand2 := and_3 z2
  have hr1 : (z1 % 256).toNat < 256 := by omega
  have hr2 : (z2 % 4).toNat < 4 := by omega
  go_enter Tryd.func7, Tryd.ntmps7
  go_upto_region 1 with (fail)
  go_cut [7, 8] (fun p e wx => ((alMay z1 z2 = true ∧ ∃ D, p = .pointer (some ⟨D, 0, none⟩) ∧ e = .int .i64 0) ∨ (alMay z1 z2 = false ∧ p = .pointer none ∧ e = .int .i64 1)) ∧ St w0 [] wx)
  case first => as_aux_lemma =>
    cases hm : alMay z1 z2 with
    | false =>
      have HMM := Lib.hid hm
      have HN := Lib.hid (fun w => anew_no (w := w) (hs := St.start w) hm)
      clear hm hand1 hand2 hn ht
      go_wp2_with (first
        | (go_at_call 8; refine (HN.out _).mono ?_; rintro e w' ⟨rfl, hg⟩; replace hs := hs.grew hg.made_grew; clear hg))
      go_meet
      exact ⟨.inr ⟨HMM.out, rfl, rfl⟩, hs⟩
    | true =>
      have HMM := Lib.hid hm
      have hm2 : (1 ≤ z1 ∧ z1 ≤ 65536) ∧ (1 ≤ z2 ∧ z2 ≤ 4294967295) := by
        unfold alMay at hm
        simp at hm
        omega
      obtain ⟨n0, hn0⟩ := Int.eq_ofNat_of_zero_le (show 0 ≤ z1 by omega)
      have HN := Lib.hid (fun w => anew_c (St.start w) (n := n0) (top := z2) (by omega) (by omega) (by omega) (by omega))
      rw [← hn0] at HN
      clear hm hand1 hand2 hn ht hm2 hn0
      go_wp2_with (first
        | (go_at_call 8; refine (HN.out _).mono ?_; rintro e w' ⟨D, rfl, hg⟩; replace hs := hs.grew hg.made_grew; clear hg))
      go_meet
      exact ⟨.inl ⟨HMM.out, _, rfl, rfl⟩, hs⟩
  case rest =>
  clear hs
  obtain ⟨hpe, hs⟩ := hcut
  obtain ⟨bm, HBM⟩ : ∃ b, Hid (alMay z1 z2 = b) := ⟨_, rfl⟩
  rw [HBM.out] at hpe
  go_upto_region 3 with (first
    | (go_at_call 19; refine (rmay_v HBM _).mono ?_; rintro e w' ⟨rfl, rfl⟩))
  go_cut [51] (fun v wx => v = .bool false ∧ wc = wx)
  case first => as_aux_lemma =>
    clear hand1 hand2 hn ht
    rcases hpe with ⟨rfl, D, rfl, rfl⟩ | ⟨rfl, rfl, rfl⟩
    · go_wp2
      go_meet
      exact ⟨rfl, rfl⟩
    · go_wp2
      go_meet
      exact ⟨rfl, rfl⟩
  case rest =>
  obtain ⟨rfl, rfl⟩ := hcut
  clear hpe HBM
  generalize (z1 % 256).toNat = r1 at *
  generalize (z2 % 4).toNat = r2 at *
  go_wp2_with (first
    | (go_at_call 8; refine (anew_c hs (n := n) (top := (t : Int)) (by omega) (by omega) (by omega) (by omega)).mono ?_; clear hs; rintro e w' ⟨D, rfl, hs⟩)
    | (go_at_call 12; refine (awake5 (hT.grew hs.below)).mono ?_; rintro e w' ⟨rfl, hg⟩; replace hs := hs.grew hg; clear hg)
    | (go_at_call 20; refine (rnew_c hs (n := n) (top := (t : Int)) (by omega) (by omega) (by omega)).mono ?_; clear hs; rintro e w' ⟨E, rfl, hs⟩))
  replace hs := (hs.own_nil 30 2).up2.ent (Ent.cons _ (Ent.swap _ _ _))
  rw [← padA_nil, show ([] : List Value) = hsV [] by unfold hsV; rfl] at hs
  clear hn ht hand1 hand2 hr1 hr2
  go_loopw [11, 12] (fun av iv wr => ∃ (k m : Nat) (B : Option Addr) (capB : Nat) (c : List ACell) (all : List Hdl), k ≤ xs.length ∧ k ≤ 120 ∧ m ≤ k ∧ av = .slice B m capB ∧ iv = .int .i64 (k : Nat) ∧ all.length = m ∧
    St w0 [AlB D (t : Int) (padA n c), RaB E n (t : Int) c, own B m capB 30 2 (hsV all)] wr) (fun _ iv _ => xs.length - (intOf iv).toNat)
  case atStart => exact ⟨0, 0, none, 0, [], [], Nat.zero_le _, Nat.zero_le _, Nat.le_refl _, rfl, rfl, rfl, hs⟩
  case round =>
    clear hs
    obtain ⟨k, m, B, capB, c, all, hk, hk2, hmk, rfl, rfl, hall, hs⟩ := hrel
    by_cases hlt : k < xs.length ∧ k < 120
    · obtain ⟨hkx, hk120⟩ := hlt
      obtain ⟨o, ho⟩ : ∃ o, xs[k]? = some o := ⟨_, List.getElem?_eq_getElem hkx⟩
      have hcell := fun j x hx => hra.get (rows_get (C := 4) (encX := c4h) (fun _ => rfl) ho j x hx)
      obtain ⟨b, off, rfl, _⟩ := hcell 0 _ rfl
      have hld : ∀ j x, (c4h o)[j]? = some x → Rd w0 [] ⟨b, off + k * 4 + j, none⟩ x := fun j x hx => by
        obtain ⟨b', o', he, hr⟩ := hcell j x hx
        injection he with he
        injection he with e1 e2
        subst e1; subst e2
        rw [Nat.add_assoc]; exact hr
      clear hcell ho
      have hall2 := Lib.hid hall
      clear hall
      go_upto_region 16 with (first
        | (refine wpl_load_agg (cs := c4h o) (b := b) (o := off + k * 4) rfl aggO (sizeO _) hs ?hh ?_; case hh => exact fun j x hx => (hld j x hx).any _)
        | (refine wpl_alloc zeroO hs ?_; clear hs; intro g13 w hs; replace hs : St w0 [blk g13 (c4h ⟨0, 0, (0, 0)⟩).toArray 32, AlB D (t : Int) (padA n c), RaB E n (t : Int) c, own B m capB 30 2 (hsV all)] w := hs)
        | (refine wpl_store_agg (v := .agg (c4h o).toArray) rfl rfl (sizeO _) hs WrA.slotO ?_; clear hs; intro w hs)
        | (refine wpl_load_agg (cs := h2 o.r) (b := g13) (o := 2) rfl aggH (sizeH _) hs ?hh ?_; case hh => exact fun j x hx => Rd.blk (by rw [Nat.add_comm]; simpa [c4h] using hx))
        | (refine wpl_alloc zeroH hs ?_; clear hs; intro g14 w hs; replace hs : St w0 (blk g14 (h2 (0, 0)).toArray 30 :: _) w := hs)
        | (refine wpl_store_agg (ad := ⟨g14, 0, none⟩) (v := hv o.r) rfl rfl (sizeH _) hs WrA.slotH ?_; clear hs; intro w hs))
      have f0 : World.cell? _ ⟨g13, 0, none⟩ = some (.int .i64 o.k) := Rd.blk (by rfl) _ hs.rot
      have f1 : World.cell? _ ⟨g13, 1, none⟩ = some (.int .i64 o.h) := Rd.blk (by rfl) _ hs.rot
      clear hld
      simp only [Act.put, List.setIfInBounds_toArray, List.set_cons_succ, List.set_cons_zero]
      obtain ⟨ok, oh, orr⟩ := o
      simp only at f0 f1 hs
      have hand := and_7 oh
      have hr8 : (oh % 8).toNat < 8 := by omega
      generalize (oh % 8).toNat = r8 at *
      go_cut [102] (fun v wx => (v = .bool false ∨ (v = .bool true ∧ 0 < m)) ∧ w = wx)
      case first => as_aux_lemma =>
        by_cases hm0 : 0 < m
        · by_cases h8 : r8 = 0
          · subst h8
            go_wp2
            go_meet
            exact ⟨.inl rfl, rfl⟩
          · have e8 : ((r8 : Int) != 0) = true := by simp; omega
            go_wp2
            go_meet
            exact ⟨.inr ⟨by first | rfl | simp [e8], hm0⟩, rfl⟩
        · go_wp2
          go_meet
          exact ⟨.inl rfl, rfl⟩
      case rest =>
      obtain ⟨hsel, rfl⟩ := hcut
      clear hand hr8
      go_upto_if 102 with (fail)
      clear f0 f1
      go_cut [] (fun wx => ∃ hd : Hdl, St w0 [blk g14 (h2 hd).toArray 30, blk g13 (c4h ⟨ok, oh, orr⟩).toArray 32, AlB D (t : Int) (padA n c), RaB E n (t : Int) c, own B m capB 30 2 (hsV all)] wx)
      case first => as_aux_lemma =>
        rcases hsel with rfl | ⟨rfl, hm0⟩
        · go_wp2
          go_meet
          exact ⟨orr, hs⟩
        · obtain ⟨gB, rfl⟩ := hs.up4.own_at hm0
          have hand := and_ffff (oh / 8)
          have hr : (oh / 8 % 65536).toNat < 65536 := by omega
          generalize (oh / 8 % 65536).toNat = r at hand hr
          obtain ⟨q, hq⟩ : ∃ q, r % m = q := ⟨_, rfl⟩
          have hqm : q < m := by rw [← hq]; exact Nat.mod_lt _ (by omega)
          have hrm : (r : Int) % (m : Int) = (q : Int) := by rw [← hq]; simp
          have hrt : Int.tmod (r : Int) (m : Int) = (q : Int) := by rw [Int.tmod_eq_emod_of_nonneg (by omega)]; exact hrm
          obtain ⟨⟨i, g⟩, hh⟩ : ∃ h, all[q]? = some h := ⟨_, List.getElem?_eq_getElem (by rw [hall2.out]; exact hqm)⟩
          have hld : ∀ X Y Z W, ∀ j x, (h2 (i, g))[j]? = some x → Rd w0 [X, Y, Z, W, own (some ⟨gB, 0, none⟩) m capB 30 2 (hsV all)] ⟨gB, q * 2 + j, none⟩ x := fun X Y Z W j x hx => (hsV_at hh j x hx).tail.tail.tail.tail
          have f1 : World.cell? _ ⟨g13, 1, none⟩ = some (.int .i64 oh) := Rd.blk (by rfl) _ hs.rot
          clear hh hq
          go_wp2_with (first
            | (refine wpl_load_agg (cs := h2 (i, g)) (b := gB) (o := q * 2) rfl aggH (sizeH _) hs ?hh ?_; case hh => exact hld _ _ _ _)
            | (refine wpl_store_agg (ad := ⟨g14, 0, none⟩) (v := hv (i, g)) rfl rfl (sizeH _) hs WrA.slotH ?_; clear hs; intro w hs))
          go_meet
          exact ⟨(i, g), hs⟩
      case rest =>
      clear hs hsel
      obtain ⟨hd, hs⟩ := hcut
      have f0 : World.cell? _ ⟨g13, 0, none⟩ = some (.int .i64 ok) := Rd.blk (by rfl) _ hs.rot
      go_upto_block 2 with (fail)
      go_cut [11] (fun av wx => ∃ (m' : Nat) (B' : Option Addr) (capB' : Nat) (c' : List ACell) (all' : List Hdl), av = .slice B' m' capB' ∧ all'.length = m' ∧ m' ≤ k + 1 ∧
        St w0 [blk g14 (h2 hd).toArray 30, blk g13 (c4h ⟨ok, oh, orr⟩).toArray 32, AlB D (t : Int) (padA n c'), RaB E n (t : Int) c', own B' m' capB' 30 2 (hsV all')] wx)
      case first => as_aux_lemma =>
        have hk0 : ok = 0 ∨ ok = 1 ∨ ok = 2 ∨ (ok ≠ 0 ∧ ok ≠ 1 ∧ ok ≠ 2) := by omega
        rcases hk0 with rfl | rfl | rfl | ⟨hk0, hk1, hk2'⟩
        · as_aux_lemma =>
          skip
          obtain ⟨⟨⟨vi, vg⟩, x, d⟩, hx⟩ : ∃ y, giveV 1 (padA n c) = y := ⟨_, rfl⟩
          have HV := Lib.hid hx
          have hx3 := giveV_x hx
          have HX : Hid (hsV all ++ h2 (vi, vg) = hsV (all ++ [(vi, vg)])) := by rw [Hid, hsV_append]
          clear hx
          have tk : True := trivial
          rcases hx3 with rfl | rfl | rfl
          · as_aux_lemma =>
            go_wp2_with (first
              | (go_at_call 9; refine (create_c hT hs.up2 HV).mono ?_; clear hs f0; rintro e w' ⟨rfl, hs⟩; replace hs := hs.dn2)
              | (clear tk; refine wpl_alloc zeroH hs ?_; clear hs; intro g17 w3 hs; replace hs : St w0 (blk g17 (h2 (0, 0)).toArray 30 :: _) w3 := hs)
              | (refine wpl_store_agg (ad := ⟨g17, 0, none⟩) (v := hv (vi, vg)) rfl rfl (sizeH _) hs WrA.slotH ?_; clear hs; intro w4 hs)
              | (go_at_call 21; refine (create_r hs.up4 HV).mono ?_; clear hs; rintro e w' ⟨c', hp, rfl, hs⟩; replace hs := hs.dn4)
              | (refine wpl_alloc zeroH hs ?_; clear hs; intro g19 w5 hs; replace hs : St w0 (blk g19 (h2 (0, 0)).toArray 30 :: _) w5 := hs)
              | (refine wpl_store_agg (ad := ⟨g19, 0, none⟩) (v := hv (vi, vg)) rfl rfl (sizeH _) hs WrA.slotH ?_; clear hs; intro w6 hs; obtain ⟨q0, q1⟩ := hRd hs; obtain ⟨p0, p1⟩ := hRd hs.rot; simp only at p0 p1 q0 q1)
              | (refine wpl_build1 (v := hv (vi, vg)) elemH (by decide) rfl rfl hs ?_; clear hs p0 p1 q0 q1; intro gb w2 hs; replace hs : St w0 (blk gb (h2 (vi, vg)).toArray 30 :: _) w2 := hs)
              | (refine wpl_append (B := some ⟨gb, 0, none⟩) (m := 1) (news := h2 (vi, vg)) elemH rfl rfl hs (Ent.skip (Ent.skip (Ent.skip (Ent.skip (Ent.skip (Ent.skip (Ent.skip (Ent.refl _)))))))) RdS.blk rfl (h2_one _) (by unfold maxLen; omega) (by omega) ?_; clear hs; intro B' capB' w3 hs; rw [HX.out] at hs; replace hs := hs.rot.drop.rot.drop.rot.drop))
            go_meet
            rw [← hp] at hs
            exact ⟨m + 1, B', capB', c', all ++ [(vi, vg)], rfl, by rw [List.length_append, hall2.out]; rfl, by omega, hs.dn4⟩
          · as_aux_lemma =>
            go_wp2_with (first
              | (go_at_call 9; refine (create_c hT hs.up2 HV).mono ?_; clear hs f0; rintro e w' ⟨rfl, hs⟩; replace hs := hs.dn2)
              | (clear tk; refine wpl_alloc zeroH hs ?_; clear hs; intro g17 w3 hs; replace hs : St w0 (blk g17 (h2 (0, 0)).toArray 30 :: _) w3 := hs)
              | (refine wpl_store_agg (ad := ⟨g17, 0, none⟩) (v := hv (vi, vg)) rfl rfl (sizeH _) hs WrA.slotH ?_; clear hs; intro w4 hs)
              | (go_at_call 21; refine (create_r hs.up4 HV).mono ?_; clear hs; rintro e w' ⟨c', hp, rfl, hs⟩; replace hs := hs.dn4)
              | (refine wpl_alloc zeroH hs ?_; clear hs; intro g19 w5 hs; replace hs : St w0 (blk g19 (h2 (0, 0)).toArray 30 :: _) w5 := hs)
              | (refine wpl_store_agg (ad := ⟨g19, 0, none⟩) (v := hv (vi, vg)) rfl rfl (sizeH _) hs WrA.slotH ?_; clear hs; intro w6 hs; obtain ⟨q0, q1⟩ := hRd hs; obtain ⟨p0, p1⟩ := hRd hs.rot; simp only at p0 p1 q0 q1)
              | fail)
            go_meet
            rw [← hp] at hs
            exact ⟨m, B, capB, c', all, rfl, hall2.out, by omega, hs.drop.drop⟩
          · as_aux_lemma =>
            go_wp2_with (first
              | (go_at_call 9; refine (create_c hT hs.up2 HV).mono ?_; clear hs f0; rintro e w' ⟨rfl, hs⟩; replace hs := hs.dn2)
              | (clear tk; refine wpl_alloc zeroH hs ?_; clear hs; intro g17 w3 hs; replace hs : St w0 (blk g17 (h2 (0, 0)).toArray 30 :: _) w3 := hs)
              | (refine wpl_store_agg (ad := ⟨g17, 0, none⟩) (v := hv (vi, vg)) rfl rfl (sizeH _) hs WrA.slotH ?_; clear hs; intro w4 hs)
              | (go_at_call 21; refine (create_r hs.up4 HV).mono ?_; clear hs; rintro e w' ⟨c', hp, rfl, hs⟩; replace hs := hs.dn4)
              | (refine wpl_alloc zeroH hs ?_; clear hs; intro g19 w5 hs; replace hs : St w0 (blk g19 (h2 (0, 0)).toArray 30 :: _) w5 := hs)
              | (refine wpl_store_agg (ad := ⟨g19, 0, none⟩) (v := hv (vi, vg)) rfl rfl (sizeH _) hs WrA.slotH ?_; clear hs; intro w6 hs; obtain ⟨q0, q1⟩ := hRd hs; obtain ⟨p0, p1⟩ := hRd hs.rot; simp only at p0 p1 q0 q1)
              | fail)
            go_meet
            rw [← hp] at hs
            exact ⟨m, B, capB, c', all, rfl, hall2.out, by omega, hs.drop.drop⟩
        · as_aux_lemma =>
          skip
          obtain ⟨⟨⟨vi, vg⟩, x, d⟩, hx⟩ : ∃ y, giveV 2 (padA n c) = y := ⟨_, rfl⟩
          have HV := Lib.hid hx
          have hx3 := giveV_x hx
          have HX : Hid (hsV all ++ h2 (vi, vg) = hsV (all ++ [(vi, vg)])) := by rw [Hid, hsV_append]
          clear hx
          have tk : True := trivial
          rcases hx3 with rfl | rfl | rfl
          · as_aux_lemma =>
            go_wp2_with (first
              | (go_at_call 15; refine (raise_c hT hs.up2 HV).mono ?_; clear hs f0; rintro e w' ⟨rfl, hs⟩; replace hs := hs.dn2)
              | (clear tk; refine wpl_alloc zeroH hs ?_; clear hs; intro g17 w3 hs; replace hs : St w0 (blk g17 (h2 (0, 0)).toArray 30 :: _) w3 := hs)
              | (refine wpl_store_agg (ad := ⟨g17, 0, none⟩) (v := hv (vi, vg)) rfl rfl (sizeH _) hs WrA.slotH ?_; clear hs; intro w4 hs)
              | (go_at_call 22; refine (raise_r hs.up4 HV).mono ?_; clear hs; rintro e w' ⟨c', hp, rfl, hs⟩; replace hs := hs.dn4)
              | (refine wpl_alloc zeroH hs ?_; clear hs; intro g19 w5 hs; replace hs : St w0 (blk g19 (h2 (0, 0)).toArray 30 :: _) w5 := hs)
              | (refine wpl_store_agg (ad := ⟨g19, 0, none⟩) (v := hv (vi, vg)) rfl rfl (sizeH _) hs WrA.slotH ?_; clear hs; intro w6 hs; obtain ⟨q0, q1⟩ := hRd hs; obtain ⟨p0, p1⟩ := hRd hs.rot; simp only at p0 p1 q0 q1)
              | (refine wpl_build1 (v := hv (vi, vg)) elemH (by decide) rfl rfl hs ?_; clear hs p0 p1 q0 q1; intro gb w2 hs; replace hs : St w0 (blk gb (h2 (vi, vg)).toArray 30 :: _) w2 := hs)
              | (refine wpl_append (B := some ⟨gb, 0, none⟩) (m := 1) (news := h2 (vi, vg)) elemH rfl rfl hs (Ent.skip (Ent.skip (Ent.skip (Ent.skip (Ent.skip (Ent.skip (Ent.skip (Ent.refl _)))))))) RdS.blk rfl (h2_one _) (by unfold maxLen; omega) (by omega) ?_; clear hs; intro B' capB' w3 hs; rw [HX.out] at hs; replace hs := hs.rot.drop.rot.drop.rot.drop))
            go_meet
            rw [← hp] at hs
            exact ⟨m + 1, B', capB', c', all ++ [(vi, vg)], rfl, by rw [List.length_append, hall2.out]; rfl, by omega, hs.dn4⟩
          · as_aux_lemma =>
            go_wp2_with (first
              | (go_at_call 15; refine (raise_c hT hs.up2 HV).mono ?_; clear hs f0; rintro e w' ⟨rfl, hs⟩; replace hs := hs.dn2)
              | (clear tk; refine wpl_alloc zeroH hs ?_; clear hs; intro g17 w3 hs; replace hs : St w0 (blk g17 (h2 (0, 0)).toArray 30 :: _) w3 := hs)
              | (refine wpl_store_agg (ad := ⟨g17, 0, none⟩) (v := hv (vi, vg)) rfl rfl (sizeH _) hs WrA.slotH ?_; clear hs; intro w4 hs)
              | (go_at_call 22; refine (raise_r hs.up4 HV).mono ?_; clear hs; rintro e w' ⟨c', hp, rfl, hs⟩; replace hs := hs.dn4)
              | (refine wpl_alloc zeroH hs ?_; clear hs; intro g19 w5 hs; replace hs : St w0 (blk g19 (h2 (0, 0)).toArray 30 :: _) w5 := hs)
              | (refine wpl_store_agg (ad := ⟨g19, 0, none⟩) (v := hv (vi, vg)) rfl rfl (sizeH _) hs WrA.slotH ?_; clear hs; intro w6 hs; obtain ⟨q0, q1⟩ := hRd hs; obtain ⟨p0, p1⟩ := hRd hs.rot; simp only at p0 p1 q0 q1)
              | fail)
            go_meet
            rw [← hp] at hs
            exact ⟨m, B, capB, c', all, rfl, hall2.out, by omega, hs.drop.drop⟩
          · as_aux_lemma =>
            go_wp2_with (first
              | (go_at_call 15; refine (raise_c hT hs.up2 HV).mono ?_; clear hs f0; rintro e w' ⟨rfl, hs⟩; replace hs := hs.dn2)
              | (clear tk; refine wpl_alloc zeroH hs ?_; clear hs; intro g17 w3 hs; replace hs : St w0 (blk g17 (h2 (0, 0)).toArray 30 :: _) w3 := hs)
              | (refine wpl_store_agg (ad := ⟨g17, 0, none⟩) (v := hv (vi, vg)) rfl rfl (sizeH _) hs WrA.slotH ?_; clear hs; intro w4 hs)
              | (go_at_call 22; refine (raise_r hs.up4 HV).mono ?_; clear hs; rintro e w' ⟨c', hp, rfl, hs⟩; replace hs := hs.dn4)
              | (refine wpl_alloc zeroH hs ?_; clear hs; intro g19 w5 hs; replace hs : St w0 (blk g19 (h2 (0, 0)).toArray 30 :: _) w5 := hs)
              | (refine wpl_store_agg (ad := ⟨g19, 0, none⟩) (v := hv (vi, vg)) rfl rfl (sizeH _) hs WrA.slotH ?_; clear hs; intro w6 hs; obtain ⟨q0, q1⟩ := hRd hs; obtain ⟨p0, p1⟩ := hRd hs.rot; simp only at p0 p1 q0 q1)
              | fail)
            go_meet
            rw [← hp] at hs
            exact ⟨m, B, capB, c', all, rfl, hall2.out, by omega, hs.drop.drop⟩
        · as_aux_lemma =>
          obtain ⟨i, g⟩ := hd
          have hfit := hs.up3.raopen.1.fits
          obtain ⟨⟨x, c2⟩, hx⟩ : ∃ y, delA (t : Int) c (i, g) = y := ⟨_, rfl⟩
          have HV2 := Lib.hid hx
          have HV1 : Hid (delA (t : Int) (padA n c) (i, g) = (x, padA n c2)) := by rw [Hid, del_pad hfit, hx]
          clear hx hfit
          go_upto_region 33 with (fail)
          have hsN := hs.only
          refine wp_region_plain [false, false, true, false, false, true, true] hsN (by kernel_rfl) (by kernel_rfl) fun hne => ?_
          have e0 := (Rd.blk (w0 := w0) (g := g14) (k := 0) (cs := (h2 (i, g)).toArray) (v := .int .i64 i) (t := 30) (L := []) (by rfl)).alln
          have e1 := (Rd.blk (w0 := w0) (g := g14) (k := 1) (cs := (h2 (i, g)).toArray) (v := .int .i64 g) (t := 30) (L := []) (by rfl)).alln
          simp only [pickOps]
          repeat (go_big_quiet_step (fail))
          refine wpQuiet_nil ?_
          clear hne e0 e1
          simp only [chainIx]
          replace hs := hs.drew
          clear hsN f0
          refine wpChainP_next rfl ?_
          go_wp2_with (first
            | (go_at_call 10; refine (delete_c hs.up2 HV1).mono ?_; clear hs; rintro e w' ⟨rfl, hs⟩; replace hs := hs.dn2))
          refine ⟨hs.only, ?_⟩
          refine wpChainP_next rfl ?_
          go_wp2_with (first
            | (go_at_call 23; refine (delete_r hs.up3 HV2).mono ?_; clear hs; rintro e w' ⟨rfl, hs⟩; replace hs := hs.dn3))
          refine ⟨hs.only, ?_⟩
          refine wpChain_last rfl ?_
          go_wp2
          go_meet
          exact ⟨m, B, capB, c2, all, rfl, hall2.out, by omega, hs⟩
        · as_aux_lemma =>
          have hfit := hs.up3.raopen.1.fits
          obtain ⟨q, HQ⟩ : ∃ q, Hid ((idxS 2 c).length = q) := ⟨_, rfl⟩
          have HQ' : Hid ((idxS 2 (padA n c)).length = q) := by rw [Hid, idxS_pad hfit (by decide)]; exact HQ.out
          have HEA := Lib.hid (all_pad (n := n) (s := 2) hfit (by decide))
          have HEM := Lib.hid (merge_pad (n := n) (c := c))
          have HAL : Hid ((allH c (idxS 2 c)).length = q) := by rw [Hid, allH_len]; exact HQ.out
          have hq2 : q ≤ 65536 := by have h9 := idx_len 2 c; rw [HQ.out] at h9; omega
          clear hfit
          go_wp2_with (first
            | (go_at_call 17; refine (merge_c hT hs.up2 HQ').mono ?_; clear hs f0; rintro e w' ⟨Bm, capm, rfl, hs⟩; rw [HEA.out, HEM.out] at hs)
            | (go_at_call 24; refine (merge_r hs.up4 HQ).mono ?_; clear hs; rintro e w' ⟨Br, capr, rfl, hs⟩)
            | (go_at_call 18; refine (sameH_c HAL.out (by omega) hs (RdS.own hs.drop.drop).tail.tail (RdS.own hs)).mono ?_; rintro e w5 ⟨rfl, hg⟩; replace hs := (hs.grew hg).drop.rot.drop; clear hg))
          go_meet
          exact ⟨m, B, capB, mergeA c, all, rfl, hall2.out, by omega, hs.ent (Ent.step (Ent.skip (Ent.skip (Ent.refl _))) (Ent.step (Ent.skip (Ent.skip (Ent.refl _))) (Ent.step (Ent.skip (Ent.refl _)) (Ent.refl _))))⟩
      case rest =>
      clear hs f0 hall2
      as_aux_lemma =>
      obtain ⟨m', B', capB', c', all', rfl, hall', hm', hs⟩ := hcut
      obtain ⟨i, g⟩ := hd
      have hfit := hs.up3.raopen.1.fits
      obtain ⟨⟨⟨vi, vg⟩, bv⟩, hx⟩ : ∃ y, atA c' i = y := ⟨_, rfl⟩
      have HA2 := Lib.hid hx
      have HA1 : Hid (atA (padA n c') i = ((vi, vg), bv)) := by rw [Hid, at_pad hfit, hx]
      obtain ⟨sv, HS2⟩ : ∃ y, Hid (stV c' (i, g) = y) := ⟨_, rfl⟩
      have HS1 : Hid (stV (padA n c') (i, g) = sv) := by rw [Hid, of_pad hfit]; exact HS2.out
      clear hx hfit
      obtain ⟨e0, e1⟩ := hRd hs
      simp only at e0 e1
      have tk : True := trivial
      go_upto_region 37 with (first
        | (go_at_call 25; refine (aat_c hs.up2 HA1).mono ?_; clear e0 e1; rintro e w' ⟨rfl, hg⟩; replace hs := hs.grew hg; clear hg)
        | (clear tk; refine wpl_alloc zeroH hs ?_; clear hs; intro g21 w3 hs; replace hs : St w0 (blk g21 (h2 (0, 0)).toArray 30 :: _) w3 := hs)
        | (refine wpl_store_agg (ad := ⟨g21, 0, none⟩) (v := hv (vi, vg)) rfl rfl (sizeH _) hs WrA.slotH ?_; clear hs; intro w4 hs; obtain ⟨e0, e1⟩ := hRd hs.rot; simp only at e0 e1)
        | (go_at_call 26; refine (at_r hs.up4 HA2).mono ?_; clear e0 e1; rintro e w' ⟨rfl, hg⟩; replace hs := hs.grew hg; clear hg)
        | (refine wpl_alloc zeroH hs ?_; clear hs; intro g23 w5 hs; replace hs : St w0 (blk g23 (h2 (0, 0)).toArray 30 :: _) w5 := hs)
        | (refine wpl_store_agg (ad := ⟨g23, 0, none⟩) (v := hv (vi, vg)) rfl rfl (sizeH _) hs WrA.slotH ?_; clear hs; intro w6 hs))
      obtain ⟨q0, q1⟩ := hRd hs
      obtain ⟨p0, p1⟩ := hRd hs.rot
      obtain ⟨e0, e1⟩ := hRd hs.up2
      simp only at e0 e1 p0 p1 q0 q1
      refine wp_region_grow (by kernel_rfl) (by kernel_rfl) fun hne => ?_
      have i0 := fun p : GW _ => p.grew.cell e0
      have i1 := fun p : GW _ => p.grew.cell e1
      have i2 := fun p : GW _ => p.grew.cell p0
      have i3 := fun p : GW _ => p.grew.cell p1
      have i4 := fun p : GW _ => p.grew.cell q0
      have i5 := fun p : GW _ => p.grew.cell q1
      repeat (go_big_quiet_step ((first
        | (go_at_call 11; exact in_grew (state_c (h := (i, g)) (hs.up4.grew (GW.grew _)) HS1))
        | (go_at_call 27; exact in_grew (of_c (h := (i, g)) (hs.up5.grew (GW.grew _)) HS2))
        | (go_at_call 28; exact in_grew (asame_c hT (hs.drop.drop.drop.drop.grew (GW.grew _)))))))
      refine wpQuiet_nil ?_
      clear hne i0 i1 i2 i3 i4 i5 e0 e1 p0 p1 q0 q1
      intro u hu
      replace hs := hs.grew hu
      clear hu
      go_wp2
      go_roundw
      case rel => first | exact ⟨k + 1, m', B', capB', c', all', by omega, by omega, by omega, rfl, by go_num, hall', hs.drop.drop.drop.drop⟩ | ((repeat apply Exists.intro); refine ⟨?_, rfl⟩; exact ⟨k + 1, m', B', capB', c', all', by omega, by omega, by omega, rfl, by go_num, hall', hs.drop.drop.drop.drop⟩)
      case measure => simp [intOf] <;> omega
    · by_cases h3 : k < xs.length
      · have h4 : ¬ k < 120 := fun h => hlt ⟨h3, h⟩
        clear hlt
        go_wp2
        go_ret
        exact ⟨rfl, hs.drop.drop.drop⟩
      · clear hlt
        go_wp2
        go_ret
        exact ⟨rfl, hs.drop.drop.drop⟩
end Go.Proofs.YtkcbjkadalebjaaDoor
