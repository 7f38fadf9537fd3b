/-
  EntParts: the walk. (Printed by gen_enpa.py.)
-/
import Derived.Test.YtiafdlofcjbllaaDoorEnPaL
import Derived.Test.YtiafdlofcjbllaaDoorEnAr
import Derived.Test.YtiafdlofcjbllaaDoorJD
import Derived.Test.YtiafdlofcjbllaaDoorRegM
import Derived.Deep.DeepCutAuto
import Derived.Deep.CutRange
import Derived.Deep.CutBlock
set_option maxRecDepth 100000
namespace Go.Proofs.YtiafdlofcjbllaaDoor
open Go Go.RowKit
theorem zeroAr : (Tryd.prog.info? 51).bind (·.zero) = some (.agg (cs3 (List.replicate 8 V3.z)).toArray) := by kernel_rfl
theorem delS_none {T : List Nat} {c : Nat} (h : c ∉ T) : delS c T = T := by
  unfold delS
  rw [List.filter_eq_self]
  intro a ha
  simp only [bne_iff_ne, ne_eq]
  rintro rfl
  exact h ha
theorem c3_one (v : V3) : ∀ u ∈ YtiafdlofcjbllaaDoor.c3 v, u.oneCell' = true := by intro u hu; simp [YtiafdlofcjbllaaDoor.c3] at hu; rcases hu with rfl | rfl | rfl <;> rfl
theorem cs3_at {vs : List V3} {c : Nat} {v : V3} (h : vs[c]? = some v) {j : Nat} {x : Value} (hx : (YtiafdlofcjbllaaDoor.c3 v)[j]? = some x) : (cs3 vs).toArray[c * 3 + j]? = some x := by
  rw [List.getElem?_toArray, cs3_rows]
  exact rows_get (C := 3) (encX := YtiafdlofcjbllaaDoor.c3) (fun _ => rfl) h j x hx
theorem nsv_int (l : List Nat) : nsV l = intv l := rfl
attribute [local irreducible] wpList Calls Code.wp okI okN pS tS memS getG pG insS delS getV pV tV okVal newSl SlS.put SlS.err SlS.putU SlS.putB descE SlS.take SlS.set SlS.errSet SlS.get SlS.has stV EnS.live EnS.get EnS.slot EnS.ins EnS.set EnS.rem EnS.parts EnS.del ofN strL delA newA giveV cs3 errDs descsL mkV nsV
set_option maxHeartbeats 8000000 in
theorem entparts_c {w0 : World} (hT : Tab w0) {va : Value} {za : List Int} (hva : IntArg w0 va za) {vb : Value} {zb : List Int} (hvb : IntArg w0 vb zb) :
    Calls Tryd.prog 4 #[va, vb] w0 (LawPost w0) := by
  obtain ⟨A, na, ca, rfl, hna, hnc, hcm, hra, -⟩ := hva
  obtain ⟨A2, nb, cb, rfl, hxn, hnc2, hcm2, hrb, -⟩ := hvb
  unfold maxLen at hcm hcm2
  have HNA := Lib.hid hna
  have hnb : na ≤ 9223372036854775807 := by omega
  have hnb2 : nb ≤ 9223372036854775807 := by omega
  have HXN := Lib.hid hxn
  clear hna hnc hcm hnc2 hcm2 hxn
  have hs := St.start w0
  obtain ⟨ds, hds⟩ : ∃ z, Hid (descsL za = z) := ⟨_, rfl⟩
  have HOK : Hid (∀ d ∈ ds, descE d = 0) := by rw [Hid, ← hds.out]; exact descsL_ok za
  have hl8 : ds.length ≤ 8 := by rw [← hds.out]; exact descsL_len za
  have HER : Hid (errDs 0 ds = 0) := errDs_ok HOK.out (by omega)
  obtain ⟨c1, HK⟩ := paK
  have HK := Lib.hid HK
  go_enter Tryd.func4, Tryd.ntmps4
  go_upto_region 2 with (first
    | (go_at_call 10; refine (descs_c hs HNA hnb hra hds).mono ?_; clear hs; rintro r w ⟨B, m, cB, hm, rfl, hs⟩))
  have hm8 : m ≤ 8 := by rw [← hm.out]; exact hl8
  clear hl8 hra hnb HNA hds
  go_upto_region 5 with (first
    | (go_at_call 8; refine (en_new_ok (n := 4) (top := 2) hs (by decide) (by decide) (by decide) (by decide) hm (by omega) (RdS.own hs) HER).mono ?_; clear hs; rintro r w ⟨E, A1, R, l, HNL, rfl, hs⟩))
  have HP0 : Hid (PtI ds l 0) := HNL.out.pt
  clear HNL HER
  have k0 := Rd.en0 _ hs
  go_upto_region 6 with (first
    | (go_at_call 11; refine (en_create (s := EnS.mk 2 (newA 4) l) hT hs (Lib.hid HK.out.cr)).mono ?_; clear hs k0; rintro r w ⟨rfl, hs⟩)
    | (refine wpl_alloc zeroH hs ?_; clear hs; intro g8 w hs)
    | (refine wpl_store_agg (v := hv (0, 1)) rfl rfl (by rw [sizeHd]; rfl) hs WrA.slotH ?_; clear hs; intro w hs))
  go_upto_region 9 with (first
    | (refine wpl_alloc zeroAr hs ?_; clear hs; intro g11 w hs; replace hs : St w0 (blk g11 (cs3 (List.replicate 8 V3.z)).toArray 51 :: _) w := hs))
  have HPA : Hid (PaI ds (EnS.mk 2 c1 l) [] (List.replicate 8 V3.z) 0) := HP0.out.pa (HK.out.live l)
  replace hs : St w0 [EnB E A1 R (EnS.mk 2 c1 l), blk g8 (h2 (0, 1)).toArray 38, own B m cB 33 3 (cs3 ds), blk g11 (cs3 (List.replicate 8 V3.z)).toArray 51, own none 0 0 3 1 (intv [])] w := by
    have h1 := hs.own_nil 3 1
    exact h1.ent (by (repeat first | exact Ent.refl _ | refine Ent.step (by repeat first | exact Ent.refl _ | apply Ent.skip) ?_))
  clear HP0 HK
  go_loopw [10, 12] (fun tv iv wr => ∃ (k nt ct : Nat) (Bt : Option Addr) (T : List Nat) (vs : List V3) (s : EnS), (k ≤ nb ∧ k ≤ 50) ∧ tv = .slice Bt nt ct ∧ iv = .int .i64 (k : Nat) ∧ Hid (T.length = nt) ∧ Hid (PaI ds s T vs k) ∧ St w0 [EnB E A1 R s, blk g8 (h2 (0, 1)).toArray 38, own B m cB 33 3 (cs3 ds), blk g11 (cs3 vs).toArray 51, own Bt nt ct 3 1 (intv T)] wr) (fun _ iv _ => nb - (intOf iv).toNat)
  case atStart => exact ⟨0, 0, 0, none, [], _, _, by omega, rfl, rfl, rfl, HPA, hs⟩
  case round =>
    clear hs HPA l
    obtain ⟨k, nt, ct, Bt, T, vs, s, ⟨hk, hk5⟩, rfl, rfl, HNT, HP, hs⟩ := hrel
    have hnt : nt ≤ 8 := by rw [← HNT.out]; exact HP.out.short (by rw [hm.out]; exact hm8)
    have HSO : Hid (T.Pairwise (· < ·)) := HP.out.srt
    go_upto_region 9 with (fail)
    go_cut [59] from 47 to 59 (fun bv wx => ∃ bb : Bool, bv = .bool bb ∧ Hid (bb = decide (k < nb ∧ k < 50 ∧ 0 < m)) ∧ wr = wx)
    case first =>
      by_cases h1 : k < nb
      · by_cases h2 : k < 50
        · by_cases h3 : 0 < m
          · go_wp2
            go_meet
            exact ⟨true, congrArg Value.bool (by first | (simp; done) | (simp; omega)), by simp [Hid, h1, h2, h3], rfl⟩
          · go_wp2
            go_meet
            exact ⟨false, congrArg Value.bool (by first | (simp; done) | (simp; omega)), by simp [Hid, h1, h2, h3], rfl⟩
        · go_wp2
          go_meet
          exact ⟨false, by first | rfl | exact congrArg Value.bool (by first | (simp; done) | (simp; omega)), by simp [Hid, h1, h2], rfl⟩
      · go_wp2
        go_meet
        exact ⟨false, by first | rfl | exact congrArg Value.bool (by first | (simp; done) | (simp; omega)), by simp [Hid, h1], rfl⟩
    case rest =>
    obtain ⟨bb, rfl, hbc, rfl⟩ := hcut
    cases bb
    case true =>
      obtain ⟨hl1, hl2, hm0⟩ := of_decide_eq_true hbc.out.symm
      clear hbc
      have hm1 : (0 : Int) < (m : Int) := by omega
      obtain ⟨z, hz⟩ : ∃ z, zb[k]? = some z := ⟨_, List.getElem?_eq_getElem (by rw [HXN.out]; exact hl1)⟩
      obtain ⟨b1, o1, z1, hA2, hc1, hz1⟩ := hrb.int (show k < zb.length by rw [HXN.out]; exact hl1)
      obtain ⟨xw, hxw⟩ : ∃ q : Nat, bits .and .i64 z1 65535 = (q : Int) := ⟨_, land_65535 z1⟩
      obtain ⟨c, hc⟩ : ∃ c : Nat, (xw : Int) / 2 % (m : Int) = (c : Int) := ⟨xw / 2 % m, by rw [Int.natCast_emod, Int.natCast_ediv]; rfl⟩
      have hcm : c < m := by have := Int.emod_lt_of_pos ((xw : Int) / 2) hm1; omega
      have hcd : c < ds.length := by rw [hm.out]; exact hcm
      obtain ⟨va, hva⟩ : ∃ v, vs[c]? = some v := ⟨_, List.getElem?_eq_getElem (by rw [HP.out.vl]; omega)⟩
      subst hA2
      have x1 := hc1 _ hs.drop.drop.drop.drop.drop
      have HEV : Hid (∀ x ∈ s.l, x.2.evs.length < 4611686018427387904) := HP.out.ev.lt (by omega)
      have HRT := RdS.own hs.drop.drop.drop.drop
      have HA0 := cs3_at hva (j := 0) rfl
      have HA1 := cs3_at hva (j := 1) rfl
      have HA2 := cs3_at hva (j := 2) rfl
      by_cases h1 : bits .and .i64 (xw : Int) 1 = 1
      · have d1 : (bits .and .i64 (xw : Int) 1 == 1) = true := by simp [h1]
        clear h1
        by_cases hmT : c ∈ T
        · obtain ⟨v, s', hv1, hr, hp'⟩ := HP.out.rem_yes hcd hmT
          obtain rfl : va = v := by rw [hva] at hv1; injection hv1
          have HR := Lib.hid hr
          have HP' := Lib.hid hp'
          have HM : Hid (memS T (c : Int) = true) := memS_nat.2 hmT
          have HD : Hid (remS T (c : Int) = delS c T) := remS_at (by omega)
          obtain ⟨n6, HLN⟩ : ∃ z, Hid ((delS c T).length = z) := ⟨_, rfl⟩
          have HBD : Hid (∀ a ∈ T, a < 16777216) := fun a ha => by have h1 := HP.out.lt a ha; have h2 := hm.out; omega
          clear hr hp' hv1 hmT hva hcd
          go_upto_region 15 with (first
            | (refine wpl_load_agg (cs := h2 (0, 1)) (b := g8) (o := 0) rfl aggH (sizeHd _) hs ?hh ?_; case hh => exact fun j x hx => (Rd.blk (by simpa using hx)).tail)
            | (go_at_call 12; refine (en_rem (h := (0, 1)) hs HEV.out HR).mono ?_; clear hs x1 HRT; rintro r w ⟨rfl, hs⟩)
            | (refine wpl_alloc zero3 hs ?_; clear hs; intro g15 w hs)
            | (refine wpl_store_agg (v := val3 va) rfl rfl (size3 _) hs WrA.slot3 ?_; clear hs; intro w hs))
          obtain ⟨p0, p1, p2⟩ := Has3.facts (has3_slot (g := g15) (v := va) (t := 50)) hs
          have a0 := Rd.blk HA0 _ hs.drop.drop.drop.drop
          have a1 := Rd.blk HA1 _ hs.drop.drop.drop.drop
          have a2 := Rd.blk HA2 _ hs.drop.drop.drop.drop
          simp only [Nat.add_zero] at a0
          have HRT := (show RdS w0 (blk g15 (YtiafdlofcjbllaaDoor.c3 va).toArray 50 :: EnB E A1 R s' :: blk g8 (h2 (0, 1)).toArray 38 :: own B m cB 33 3 (cs3 ds) :: blk g11 (cs3 vs).toArray 51 :: [own Bt nt ct 3 1 (intv T)]) Bt (intv T) from (RdS.own hs.drop.drop.drop.drop.drop).tail.tail.tail.tail.tail)
          refine wp_region_grow (by kernel_rfl) (by kernel_rfl) fun hne => ?_
          have q0 := fun p : GW _ => p.grew.cell p0
          have q1 := fun p : GW _ => p.grew.cell p1
          have q2 := fun p : GW _ => p.grew.cell p2
          have q3 := fun p : GW _ => p.grew.cell a0
          have q4 := fun p : GW _ => p.grew.cell a1
          have q5 := fun p : GW _ => p.grew.cell a2
          repeat (go_big_quiet_step (first
            | (go_at_call 13; exact in_grew (rin_c HSO.out HNT.out (by omega) (hs.grew (GW.grew _)) HRT HM))))
          refine wpQuiet_nil ?_
          clear hne q0 q1 q2 q3 q4 q5 p0 p1 p2 a0 a1 a2 HRT
          intro u hu
          replace hs := hs.grew hu
          clear hu
          replace hs : St w0 (own Bt nt ct 3 1 (intv T) :: EnB E A1 R s' :: blk g8 (h2 (0, 1)).toArray 38 :: own B m cB 33 3 (cs3 ds) :: blk g11 (cs3 vs).toArray 51 :: []) _ := (hs.drop).ent (by (repeat first | exact Ent.refl _ | refine Ent.step (by repeat first | exact Ent.refl _ | apply Ent.skip) ?_))
          (go_wp2_with (first
            | (go_at_call 14; refine (rwithout_c HSO.out HBD.out HNT.out (by omega) hs HD).mono ?_; clear hs; rintro r w ⟨B6, c6, rfl, hs⟩; rw [HLN.out]; rw [HLN.out] at hs)))
          go_roundw
          case rel => exact ⟨k + 1, n6, c6, B6, delS c T, vs, s', by omega, by first | rfl | go_num, by first | rfl | go_num, HLN, HP', hs.ent (by (repeat first | exact Ent.refl _ | refine Ent.step (by repeat first | exact Ent.refl _ | apply Ent.skip) ?_))⟩
          case measure => simp [intOf] <;> omega
        · have HR := Lib.hid (HP.out.rem_no hcd hmT)
          have HP' := Lib.hid HP.out.more
          have HM : Hid (memS T (c : Int) = false) := by
            rw [Hid, Bool.eq_false_iff]; intro h; exact hmT (memS_nat.1 h)
          have HD : Hid (remS T (c : Int) = T) := by rw [Hid, remS_at (by omega), delS_none hmT]
          have HBD : Hid (∀ a ∈ T, a < 16777216) := fun a ha => by have h1 := HP.out.lt a ha; have h2 := hm.out; omega
          clear hmT hva hcd
          go_upto_region 15 with (first
            | (refine wpl_load_agg (cs := h2 (0, 1)) (b := g8) (o := 0) rfl aggH (sizeHd _) hs ?hh ?_; case hh => exact fun j x hx => (Rd.blk (by simpa using hx)).tail)
            | (go_at_call 12; refine (en_rem (h := (0, 1)) hs HEV.out HR).mono ?_; clear hs x1 HRT; rintro r w ⟨rfl, hs⟩)
            | (refine wpl_alloc zero3 hs ?_; clear hs; intro g15 w hs)
            | (refine wpl_store_agg (v := val3 V3.z) rfl rfl (size3 _) hs WrA.slot3 ?_; clear hs; intro w hs))
          obtain ⟨p0, p1, p2⟩ := Has3.facts (has3_slot (g := g15) (v := V3.z) (t := 50)) hs
          have a0 := Rd.blk HA0 _ hs.drop.drop.drop.drop
          have a1 := Rd.blk HA1 _ hs.drop.drop.drop.drop
          have a2 := Rd.blk HA2 _ hs.drop.drop.drop.drop
          simp only [Nat.add_zero] at a0
          have HRT := (show RdS w0 (blk g15 (YtiafdlofcjbllaaDoor.c3 V3.z).toArray 50 :: EnB E A1 R s :: blk g8 (h2 (0, 1)).toArray 38 :: own B m cB 33 3 (cs3 ds) :: blk g11 (cs3 vs).toArray 51 :: [own Bt nt ct 3 1 (intv T)]) Bt (intv T) from (RdS.own hs.drop.drop.drop.drop.drop).tail.tail.tail.tail.tail)
          refine wp_region_grow (by kernel_rfl) (by kernel_rfl) fun hne => ?_
          have q0 := fun p : GW _ => p.grew.cell p0
          have q1 := fun p : GW _ => p.grew.cell p1
          have q2 := fun p : GW _ => p.grew.cell p2
          have q3 := fun p : GW _ => p.grew.cell a0
          have q4 := fun p : GW _ => p.grew.cell a1
          have q5 := fun p : GW _ => p.grew.cell a2
          repeat (go_big_quiet_step (first
            | (go_at_call 13; exact in_grew (rin_c HSO.out HNT.out (by omega) (hs.grew (GW.grew _)) HRT HM))))
          refine wpQuiet_nil ?_
          clear hne q0 q1 q2 q3 q4 q5 p0 p1 p2 a0 a1 a2 HRT
          intro u hu
          replace hs := hs.grew hu
          clear hu
          replace hs : St w0 (own Bt nt ct 3 1 (intv T) :: EnB E A1 R s :: blk g8 (h2 (0, 1)).toArray 38 :: own B m cB 33 3 (cs3 ds) :: blk g11 (cs3 vs).toArray 51 :: []) _ := (hs.drop).ent (by (repeat first | exact Ent.refl _ | refine Ent.step (by repeat first | exact Ent.refl _ | apply Ent.skip) ?_))
          (go_wp2_with (first
            | (go_at_call 14; refine (rwithout_c HSO.out HBD.out HNT.out (by omega) hs HD).mono ?_; clear hs; rintro r w ⟨B6, c6, rfl, hs⟩; rw [HNT.out]; rw [HNT.out] at hs)))
          go_roundw
          case rel => exact ⟨k + 1, nt, c6, B6, T, vs, s, by omega, by first | rfl | go_num, by first | rfl | go_num, HNT, HP', hs.ent (by (repeat first | exact Ent.refl _ | refine Ent.step (by repeat first | exact Ent.refl _ | apply Ent.skip) ?_))⟩
          case measure => simp [intOf] <;> omega
      · have d1 : (bits .and .i64 (xw : Int) 1 == 1) = false := by simp [h1]
        clear h1
        obtain ⟨d, hd⟩ : ∃ d, ds[c]? = some d := ⟨_, List.getElem?_eq_getElem hcd⟩
        have hkind : (cs3 ds)[c * 3]? = some (.int .i64 d.k) := by
          rw [cs3_rows]
          exact rows_get (C := 3) (encX := YtiafdlofcjbllaaDoor.c3) (fun _ => rfl) hd 0 _ rfl
        obtain ⟨u, s', hu, hi, hp'⟩ := HP.out.ins (by have h2 := hm.out; omega) HOK.out hcd hd (k : Nat) (xw : Nat)
        obtain ⟨v, HV⟩ : ∃ z, Hid (mkV d.k (k : Nat) (xw : Nat) = z) := ⟨_, rfl⟩
        rw [HV.out] at hi hp'
        have HP' := Lib.hid hp'
        obtain ⟨n6, HLN⟩ : ∃ z, Hid ((insS c T).length = z) := ⟨_, rfl⟩
        have HFL : Hid (c * 3 + (YtiafdlofcjbllaaDoor.c3 v).length ≤ (cs3 vs).length) := by rw [Hid, cs3_len, HP.out.vl]; show c * 3 + 3 ≤ 8 * 3; omega
        have HSS : Hid (splice (cs3 vs) (c * 3) (YtiafdlofcjbllaaDoor.c3 v) = cs3 (vs.set c v)) := cs3_set v (by rw [HP.out.vl]; omega)
        obtain ⟨gB, rfl⟩ := hs.up2.own_at (show 0 < m by omega)
        have k2 := Rd.own (w0 := w0) (g := gB) (n := m) (cap := cB) (e := 33) (size := 3) hkind _ hs.drop.drop
        clear hp' hd hkind
        by_cases hmT : c ∈ T
        · obtain rfl : va = u := by have := hu hmT; rw [hva] at this; injection this
          have HI : Hid (s.ins (0, 1) (c : Nat) v = (va, true, 0, s')) := by rw [Hid, hi, decide_eq_true hmT]
          have HM : Hid (memS T (c : Int) = true) := memS_nat.2 hmT
          clear hi hu hmT hva hcd
          go_upto_region 19 with (first
            | (go_at_call 15; refine (lvalue_c _ _ _ HV).mono ?_; rintro r w ⟨rfl, hg⟩; replace hs := hs.grew hg; clear hg k2 x1 HRT)
            | (refine wpl_alloc zero3 hs ?_; clear hs; intro g17 w hs)
            | (refine wpl_store_agg (v := val3 v) rfl rfl (size3 _) hs WrA.slot3 ?_; clear hs; intro w hs))
          replace hs : St w0 (EnB E A1 R s :: blk g8 (h2 (0, 1)).toArray 38 :: blk g17 (YtiafdlofcjbllaaDoor.c3 v).toArray 50 :: own (some ⟨gB, 0, none⟩) m cB 33 3 (cs3 ds) :: blk g11 (cs3 vs).toArray 51 :: own Bt nt ct 3 1 (intv T) :: []) _ := hs.ent (by (repeat first | exact Ent.refl _ | refine Ent.step (by repeat first | exact Ent.refl _ | apply Ent.skip) ?_))
          go_upto_region 20 with (first
            | (refine wpl_load_agg (cs := h2 (0, 1)) (b := g8) (o := 0) rfl aggH (sizeHd _) hs ?hh ?_; case hh => exact fun j x hx => (Rd.blk (by simpa using hx)).tail)
            | (refine wpl_load3 (v := v) (g := g17) rfl (has3_tail (has3_tail (has3_slot (t := 50)))) agg3 size3n hs ?_)
            | (go_at_call 16; refine (en_ins (h := (0, 1)) hs HEV.out HI).mono ?_; clear hs; rintro r w ⟨rfl, hs⟩)
            | (refine wpl_alloc zero3 hs ?_; clear hs; intro g18 w hs)
            | (refine wpl_store_agg (v := val3 va) rfl rfl (size3 _) hs WrA.slot3 ?_; clear hs; intro w hs))
          obtain ⟨p0, p1, p2⟩ := Has3.facts (has3_slot (g := g18) (v := va) (t := 50)) hs
          have a0 := Rd.blk HA0 _ hs.drop.drop.drop.drop.drop
          have a1 := Rd.blk HA1 _ hs.drop.drop.drop.drop.drop
          have a2 := Rd.blk HA2 _ hs.drop.drop.drop.drop.drop
          simp only [Nat.add_zero] at a0
          have HRT := (show RdS w0 (blk g18 (YtiafdlofcjbllaaDoor.c3 va).toArray 50 :: EnB E A1 R s' :: blk g8 (h2 (0, 1)).toArray 38 :: blk g17 (YtiafdlofcjbllaaDoor.c3 v).toArray 50 :: own (some ⟨gB, 0, none⟩) m cB 33 3 (cs3 ds) :: blk g11 (cs3 vs).toArray 51 :: [own Bt nt ct 3 1 (intv T)]) Bt (intv T) from (RdS.own hs.drop.drop.drop.drop.drop.drop).tail.tail.tail.tail.tail.tail)
          refine wp_region_grow (by kernel_rfl) (by kernel_rfl) fun hne => ?_
          have q0 := fun p : GW _ => p.grew.cell p0
          have q1 := fun p : GW _ => p.grew.cell p1
          have q2 := fun p : GW _ => p.grew.cell p2
          have q3 := fun p : GW _ => p.grew.cell a0
          have q4 := fun p : GW _ => p.grew.cell a1
          have q5 := fun p : GW _ => p.grew.cell a2
          repeat (go_big_quiet_step (first
            | (go_at_call 13; exact in_grew (rin_c HSO.out HNT.out (by omega) (hs.grew (GW.grew _)) HRT HM))))
          refine wpQuiet_nil ?_
          clear hne q0 q1 q2 q3 q4 q5 p0 p1 p2 a0 a1 a2 HRT
          intro u hu
          replace hs := hs.grew hu
          clear hu
          replace hs : St w0 (blk g17 (YtiafdlofcjbllaaDoor.c3 v).toArray 50 :: own Bt nt ct 3 1 (intv T) :: blk g11 (cs3 vs).toArray 51 :: blk g8 (h2 (0, 1)).toArray 38 :: own (some ⟨gB, 0, none⟩) m cB 33 3 (cs3 ds) :: EnB E A1 R s' :: []) _ := hs.drop.ent (by (repeat first | exact Ent.refl _ | refine Ent.step (by repeat first | exact Ent.refl _ | apply Ent.skip) ?_))
          go_upto_region 22 with (fail)
          refine wp_mix 2 [0, 1, 2, 4] [3, 5, 6, 7] hs.only (by kernel_rfl) (by kernel_rfl) fun hne => ?_
          have r0 := (Rd.blk (w0 := w0) (g := g17) (k := 0) (cs := (YtiafdlofcjbllaaDoor.c3 v).toArray) (v := .int .i64 v.k) (t := 50) (L := []) rfl).alln
          have r1 := (Rd.blk (w0 := w0) (g := g17) (k := 1) (cs := (YtiafdlofcjbllaaDoor.c3 v).toArray) (v := .int .i64 v.a) (t := 50) (L := []) rfl).alln
          have r2 := (Rd.blk (w0 := w0) (g := g17) (k := 2) (cs := (YtiafdlofcjbllaaDoor.c3 v).toArray) (v := .int .i64 v.b) (t := 50) (L := []) rfl).alln
          simp only [opsAt, List.getElem?_toArray, List.getElem?_cons_succ, List.getElem?_cons_zero]
          repeat (go_big_quiet_step (fail))
          refine wpQuiet_nil ?_
          clear hne r0 r1 r2
          replace hs := hs.drew
          refine wpMix_next [3] (by kernel_rfl) (by simp) (fun c hc => ?_)
          simp only [List.mem_singleton] at hc
          subst hc
          refine ⟨_, rfl, ?_⟩
          go_wp2_with (first
            | (go_at_call 17; refine (rwith_c HSO.out HNT.out (by omega) (hs.ent (M := own Bt nt ct 3 1 (intv T) :: blk g17 (YtiafdlofcjbllaaDoor.c3 v).toArray 50 :: blk g11 (cs3 vs).toArray 51 :: blk g8 (h2 (0, 1)).toArray 38 :: own (some ⟨gB, 0, none⟩) m cB 33 3 (cs3 ds) :: EnB E A1 R s' :: []) (by (repeat first | exact Ent.refl _ | refine Ent.step (by repeat first | exact Ent.refl _ | apply Ent.skip) ?_))) c).mono ?_; clear hs; rintro r w ⟨B6, c6, rfl, hs⟩; rw [HLN.out]; rw [HLN.out] at hs))
          replace hs : St w0 (blk g17 (YtiafdlofcjbllaaDoor.c3 v).toArray 50 :: own B6 n6 c6 3 1 (intv (insS c T)) :: blk g11 (cs3 vs).toArray 51 :: blk g8 (h2 (0, 1)).toArray 38 :: own (some ⟨gB, 0, none⟩) m cB 33 3 (cs3 ds) :: EnB E A1 R s' :: []) w := hs.ent (by (repeat first | exact Ent.refl _ | refine Ent.step (by repeat first | exact Ent.refl _ | apply Ent.skip) ?_))
          refine mix_quiet [5, 6] [7] hs.only (by kernel_rfl) (by kernel_rfl) fun hne => ?_
          simp only [opsAt, List.getElem?_toArray, List.getElem?_cons_succ, List.getElem?_cons_zero]
          repeat (go_big_quiet_step (fail))
          refine wpQuiet_nil ?_
          clear hne
          refine wpMix_next [7] (by kernel_rfl) (by simp) (fun c hc => ?_)
          simp only [List.mem_singleton] at hc
          subst hc
          refine ⟨_, rfl, ?_⟩
          refine wpl_store_agg (v := val3 v) rfl rfl (size3 _) (hs.ent (M := blk g11 (cs3 vs).toArray 51 :: blk g17 (YtiafdlofcjbllaaDoor.c3 v).toArray 50 :: own B6 n6 c6 3 1 (intv (insS c T)) :: blk g8 (h2 (0, 1)).toArray 38 :: own (some ⟨gB, 0, none⟩) m cB 33 3 (cs3 ds) :: EnB E A1 R s' :: []) (by (repeat first | exact Ent.refl _ | refine Ent.step (by repeat first | exact Ent.refl _ | apply Ent.skip) ?_))) (WrA.blk (o := c * 3) (vs := YtiafdlofcjbllaaDoor.c3 v) HFL.out (c3_one v)) ?_
          clear hs
          intro w hs
          rw [HSS.out] at hs
          replace hs : St w0 (blk g17 (YtiafdlofcjbllaaDoor.c3 v).toArray 50 :: own B6 n6 c6 3 1 (intv (insS c T)) :: blk g11 (cs3 (vs.set c v)).toArray 51 :: blk g8 (h2 (0, 1)).toArray 38 :: own (some ⟨gB, 0, none⟩) m cB 33 3 (cs3 ds) :: EnB E A1 R s' :: []) w := hs.ent (by (repeat first | exact Ent.refl _ | refine Ent.step (by repeat first | exact Ent.refl _ | apply Ent.skip) ?_))
          refine wpList_nil ⟨rfl, ?_⟩
          refine mix_quiet [] [] hs.only (by kernel_rfl) (by kernel_rfl) fun hne => ?_
          simp only [opsAt]
          refine wpQuiet_nil ?_
          clear hne
          refine wpMix_end ?_
          go_wp2
          replace hs : St w0 (EnB E A1 R s' :: blk g8 (h2 (0, 1)).toArray 38 :: own (some ⟨gB, 0, none⟩) m cB 33 3 (cs3 ds) :: blk g11 (cs3 (vs.set c v)).toArray 51 :: own B6 n6 c6 3 1 (intv (insS c T)) :: []) _ := (hs.ent (M := blk g17 (YtiafdlofcjbllaaDoor.c3 v).toArray 50 :: EnB E A1 R s' :: blk g8 (h2 (0, 1)).toArray 38 :: own (some ⟨gB, 0, none⟩) m cB 33 3 (cs3 ds) :: blk g11 (cs3 (vs.set c v)).toArray 51 :: own B6 n6 c6 3 1 (intv (insS c T)) :: []) (by (repeat first | exact Ent.refl _ | refine Ent.step (by repeat first | exact Ent.refl _ | apply Ent.skip) ?_))).drop
          go_roundw
          case rel => exact ⟨k + 1, n6, c6, B6, insS c T, vs.set c v, s', by omega, by first | rfl | go_num, by first | rfl | go_num, HLN, HP', hs⟩
          case measure => simp [intOf] <;> omega
        · have HI : Hid (s.ins (0, 1) (c : Nat) v = (u, false, 0, s')) := by rw [Hid, hi, decide_eq_false hmT]
          have HM : Hid (memS T (c : Int) = false) := by
            rw [Hid, Bool.eq_false_iff]; intro h; exact hmT (memS_nat.1 h)
          clear hi hu hmT hva hcd
          go_upto_region 19 with (first
            | (go_at_call 15; refine (lvalue_c _ _ _ HV).mono ?_; rintro r w ⟨rfl, hg⟩; replace hs := hs.grew hg; clear hg k2 x1 HRT)
            | (refine wpl_alloc zero3 hs ?_; clear hs; intro g17 w hs)
            | (refine wpl_store_agg (v := val3 v) rfl rfl (size3 _) hs WrA.slot3 ?_; clear hs; intro w hs))
          replace hs : St w0 (EnB E A1 R s :: blk g8 (h2 (0, 1)).toArray 38 :: blk g17 (YtiafdlofcjbllaaDoor.c3 v).toArray 50 :: own (some ⟨gB, 0, none⟩) m cB 33 3 (cs3 ds) :: blk g11 (cs3 vs).toArray 51 :: own Bt nt ct 3 1 (intv T) :: []) _ := hs.ent (by (repeat first | exact Ent.refl _ | refine Ent.step (by repeat first | exact Ent.refl _ | apply Ent.skip) ?_))
          go_upto_region 20 with (first
            | (refine wpl_load_agg (cs := h2 (0, 1)) (b := g8) (o := 0) rfl aggH (sizeHd _) hs ?hh ?_; case hh => exact fun j x hx => (Rd.blk (by simpa using hx)).tail)
            | (refine wpl_load3 (v := v) (g := g17) rfl (has3_tail (has3_tail (has3_slot (t := 50)))) agg3 size3n hs ?_)
            | (go_at_call 16; refine (en_ins (h := (0, 1)) hs HEV.out HI).mono ?_; clear hs; rintro r w ⟨rfl, hs⟩)
            | (refine wpl_alloc zero3 hs ?_; clear hs; intro g18 w hs)
            | (refine wpl_store_agg (v := val3 u) rfl rfl (size3 _) hs WrA.slot3 ?_; clear hs; intro w hs))
          obtain ⟨p0, p1, p2⟩ := Has3.facts (has3_slot (g := g18) (v := u) (t := 50)) hs
          have a0 := Rd.blk HA0 _ hs.drop.drop.drop.drop.drop
          have a1 := Rd.blk HA1 _ hs.drop.drop.drop.drop.drop
          have a2 := Rd.blk HA2 _ hs.drop.drop.drop.drop.drop
          simp only [Nat.add_zero] at a0
          have HRT := (show RdS w0 (blk g18 (YtiafdlofcjbllaaDoor.c3 u).toArray 50 :: EnB E A1 R s' :: blk g8 (h2 (0, 1)).toArray 38 :: blk g17 (YtiafdlofcjbllaaDoor.c3 v).toArray 50 :: own (some ⟨gB, 0, none⟩) m cB 33 3 (cs3 ds) :: blk g11 (cs3 vs).toArray 51 :: [own Bt nt ct 3 1 (intv T)]) Bt (intv T) from (RdS.own hs.drop.drop.drop.drop.drop.drop).tail.tail.tail.tail.tail.tail)
          refine wp_region_grow (by kernel_rfl) (by kernel_rfl) fun hne => ?_
          have q0 := fun p : GW _ => p.grew.cell p0
          have q1 := fun p : GW _ => p.grew.cell p1
          have q2 := fun p : GW _ => p.grew.cell p2
          have q3 := fun p : GW _ => p.grew.cell a0
          have q4 := fun p : GW _ => p.grew.cell a1
          have q5 := fun p : GW _ => p.grew.cell a2
          repeat (go_big_quiet_step (first
            | (go_at_call 13; exact in_grew (rin_c HSO.out HNT.out (by omega) (hs.grew (GW.grew _)) HRT HM))))
          refine wpQuiet_nil ?_
          clear hne q0 q1 q2 q3 q4 q5 p0 p1 p2 a0 a1 a2 HRT
          intro u hu
          replace hs := hs.grew hu
          clear hu
          replace hs : St w0 (blk g17 (YtiafdlofcjbllaaDoor.c3 v).toArray 50 :: own Bt nt ct 3 1 (intv T) :: blk g11 (cs3 vs).toArray 51 :: blk g8 (h2 (0, 1)).toArray 38 :: own (some ⟨gB, 0, none⟩) m cB 33 3 (cs3 ds) :: EnB E A1 R s' :: []) _ := hs.drop.ent (by (repeat first | exact Ent.refl _ | refine Ent.step (by repeat first | exact Ent.refl _ | apply Ent.skip) ?_))
          go_upto_region 22 with (fail)
          refine wp_mix 2 [0, 1, 2, 4] [3, 5, 6, 7] hs.only (by kernel_rfl) (by kernel_rfl) fun hne => ?_
          have r0 := (Rd.blk (w0 := w0) (g := g17) (k := 0) (cs := (YtiafdlofcjbllaaDoor.c3 v).toArray) (v := .int .i64 v.k) (t := 50) (L := []) rfl).alln
          have r1 := (Rd.blk (w0 := w0) (g := g17) (k := 1) (cs := (YtiafdlofcjbllaaDoor.c3 v).toArray) (v := .int .i64 v.a) (t := 50) (L := []) rfl).alln
          have r2 := (Rd.blk (w0 := w0) (g := g17) (k := 2) (cs := (YtiafdlofcjbllaaDoor.c3 v).toArray) (v := .int .i64 v.b) (t := 50) (L := []) rfl).alln
          simp only [opsAt, List.getElem?_toArray, List.getElem?_cons_succ, List.getElem?_cons_zero]
          repeat (go_big_quiet_step (fail))
          refine wpQuiet_nil ?_
          clear hne r0 r1 r2
          replace hs := hs.drew
          refine wpMix_next [3] (by kernel_rfl) (by simp) (fun c hc => ?_)
          simp only [List.mem_singleton] at hc
          subst hc
          refine ⟨_, rfl, ?_⟩
          go_wp2_with (first
            | (go_at_call 17; refine (rwith_c HSO.out HNT.out (by omega) (hs.ent (M := own Bt nt ct 3 1 (intv T) :: blk g17 (YtiafdlofcjbllaaDoor.c3 v).toArray 50 :: blk g11 (cs3 vs).toArray 51 :: blk g8 (h2 (0, 1)).toArray 38 :: own (some ⟨gB, 0, none⟩) m cB 33 3 (cs3 ds) :: EnB E A1 R s' :: []) (by (repeat first | exact Ent.refl _ | refine Ent.step (by repeat first | exact Ent.refl _ | apply Ent.skip) ?_))) c).mono ?_; clear hs; rintro r w ⟨B6, c6, rfl, hs⟩; rw [HLN.out]; rw [HLN.out] at hs))
          replace hs : St w0 (blk g17 (YtiafdlofcjbllaaDoor.c3 v).toArray 50 :: own B6 n6 c6 3 1 (intv (insS c T)) :: blk g11 (cs3 vs).toArray 51 :: blk g8 (h2 (0, 1)).toArray 38 :: own (some ⟨gB, 0, none⟩) m cB 33 3 (cs3 ds) :: EnB E A1 R s' :: []) w := hs.ent (by (repeat first | exact Ent.refl _ | refine Ent.step (by repeat first | exact Ent.refl _ | apply Ent.skip) ?_))
          refine mix_quiet [5, 6] [7] hs.only (by kernel_rfl) (by kernel_rfl) fun hne => ?_
          simp only [opsAt, List.getElem?_toArray, List.getElem?_cons_succ, List.getElem?_cons_zero]
          repeat (go_big_quiet_step (fail))
          refine wpQuiet_nil ?_
          clear hne
          refine wpMix_next [7] (by kernel_rfl) (by simp) (fun c hc => ?_)
          simp only [List.mem_singleton] at hc
          subst hc
          refine ⟨_, rfl, ?_⟩
          refine wpl_store_agg (v := val3 v) rfl rfl (size3 _) (hs.ent (M := blk g11 (cs3 vs).toArray 51 :: blk g17 (YtiafdlofcjbllaaDoor.c3 v).toArray 50 :: own B6 n6 c6 3 1 (intv (insS c T)) :: blk g8 (h2 (0, 1)).toArray 38 :: own (some ⟨gB, 0, none⟩) m cB 33 3 (cs3 ds) :: EnB E A1 R s' :: []) (by (repeat first | exact Ent.refl _ | refine Ent.step (by repeat first | exact Ent.refl _ | apply Ent.skip) ?_))) (WrA.blk (o := c * 3) (vs := YtiafdlofcjbllaaDoor.c3 v) HFL.out (c3_one v)) ?_
          clear hs
          intro w hs
          rw [HSS.out] at hs
          replace hs : St w0 (blk g17 (YtiafdlofcjbllaaDoor.c3 v).toArray 50 :: own B6 n6 c6 3 1 (intv (insS c T)) :: blk g11 (cs3 (vs.set c v)).toArray 51 :: blk g8 (h2 (0, 1)).toArray 38 :: own (some ⟨gB, 0, none⟩) m cB 33 3 (cs3 ds) :: EnB E A1 R s' :: []) w := hs.ent (by (repeat first | exact Ent.refl _ | refine Ent.step (by repeat first | exact Ent.refl _ | apply Ent.skip) ?_))
          refine wpList_nil ⟨rfl, ?_⟩
          refine mix_quiet [] [] hs.only (by kernel_rfl) (by kernel_rfl) fun hne => ?_
          simp only [opsAt]
          refine wpQuiet_nil ?_
          clear hne
          refine wpMix_end ?_
          go_wp2
          replace hs : St w0 (EnB E A1 R s' :: blk g8 (h2 (0, 1)).toArray 38 :: own (some ⟨gB, 0, none⟩) m cB 33 3 (cs3 ds) :: blk g11 (cs3 (vs.set c v)).toArray 51 :: own B6 n6 c6 3 1 (intv (insS c T)) :: []) _ := (hs.ent (M := blk g17 (YtiafdlofcjbllaaDoor.c3 v).toArray 50 :: EnB E A1 R s' :: blk g8 (h2 (0, 1)).toArray 38 :: own (some ⟨gB, 0, none⟩) m cB 33 3 (cs3 ds) :: blk g11 (cs3 (vs.set c v)).toArray 51 :: own B6 n6 c6 3 1 (intv (insS c T)) :: []) (by (repeat first | exact Ent.refl _ | refine Ent.step (by repeat first | exact Ent.refl _ | apply Ent.skip) ?_))).drop
          go_roundw
          case rel => exact ⟨k + 1, n6, c6, B6, insS c T, vs.set c v, s', by omega, by first | rfl | go_num, by first | rfl | go_num, HLN, HP', hs⟩
          case measure => simp [intOf] <;> omega
    case false =>
      clear hbc
      have HPT := Lib.hid HP.out.parts
      obtain ⟨s', hdel⟩ := HP.out.del
      rw [HNT.out] at hdel
      have HDE := Lib.hid hdel
      have HEV : Hid (∀ x ∈ s.l, x.2.evs.length < 4611686018427387904) := HP.out.ev.lt (by omega)
      clear hdel HP
      go_upto_region 24 with (first
        | (refine wpl_load_agg (cs := h2 (0, 1)) (b := g8) (o := 0) rfl aggH (sizeHd _) hs ?hh ?_; case hh => exact fun j x hx => (Rd.blk (by simpa using hx)).tail)
        | (go_at_call 18; refine (en_parts (h := (0, 1)) hs HPT).mono ?_; clear hs; rintro r w ⟨B5, m5, c5, hm5, rfl, hs⟩; obtain rfl : nt = m5 := (by rw [← HNT.out, ← hm5.out])))
      rw [nsv_int] at hs
      replace hs : St w0 (EnB E A1 R s :: blk g8 (h2 (0, 1)).toArray 38 :: own B5 nt c5 3 1 (intv T) :: own Bt nt ct 3 1 (intv T) :: own B m cB 33 3 (cs3 ds) :: blk g11 (cs3 vs).toArray 51 :: []) _ := hs.ent (by (repeat first | exact Ent.refl _ | refine Ent.step (by repeat first | exact Ent.refl _ | apply Ent.skip) ?_))
      (go_wp2_with (first
        | (refine wpl_load_agg (cs := h2 (0, 1)) (b := g8) (o := 0) rfl aggH (sizeHd _) hs ?hh ?_; case hh => exact fun j x hx => (Rd.blk (by simpa using hx)).tail)
        | (go_at_call 19; refine (en_del (h := (0, 1)) hs HEV.out HDE).mono ?_; clear hs; rintro r w ⟨rfl, hs⟩)
        | (go_at_call 20; refine (rsame_c (b := true) HNT.out HNT.out (by omega) hs (RdS.own hs.drop.drop).tail.tail (RdS.own hs.drop.drop.drop).tail.tail.tail ⟨fun _ => rfl, fun _ => rfl⟩).mono ?_; rintro r w ⟨rfl, hg⟩; replace hs := hs.grew hg; clear hg)
        | (go_at_call 7; refine (awake15 (hT.grew hs.below)).mono ?_; rintro r w ⟨rfl, hg⟩; replace hs := hs.grew hg; clear hg)))
      go_ret
      exact ⟨rfl, hs.grew0⟩
end Go.Proofs.YtiafdlofcjbllaaDoor
