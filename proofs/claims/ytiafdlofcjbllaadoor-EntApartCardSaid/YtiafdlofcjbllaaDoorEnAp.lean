/-
  EntApart: the walk.
-/
import Derived.Test.YtiafdlofcjbllaaDoorEnApL
import Derived.Test.YtiafdlofcjbllaaDoorJA
import Derived.Deep.DeepCutAuto
import Derived.Deep.CutRange
import Derived.Deep.CutBlock
set_option maxRecDepth 100000
namespace Go.Proofs.YtiafdlofcjbllaaDoor
open Go Go.RowKit
attribute [local irreducible] wpList Calls Code.wp okI okN pS tS memS getG pG insS delS getV pV tV okVal newSl SlS.put SlS.err SlS.putU SlS.putB descE SlS.take SlS.set SlS.errSet SlS.get SlS.has stV EnS.live EnS.get EnS.slot EnS.ins EnS.set EnS.rem EnS.parts EnS.del ofN strL delA newA giveV cs3 errDs descsL mkV
set_option maxHeartbeats 8000000 in
theorem entapart_c {w0 : World} (hT : Tab w0) {va : Value} {za : List Int} (hva : IntArg w0 va za) {vb : Value} {xs : List OpE} (hvb : RowsArg c8o (fun _ => True) w0 vb xs) :
    Calls Tryd.prog 5 #[va, vb] w0 (LawPost w0) := by
  obtain ⟨A, na, ca, rfl, hna, hnc, hcm, hra, -⟩ := hva
  obtain ⟨A2, ca2, rfl, hnc2, hcm2, hrb, -⟩ := hvb
  unfold maxLen at hcm hcm2
  have HNA := Lib.hid hna
  have hnb : na ≤ 9223372036854775807 := by omega
  clear hna hnc hcm
  obtain ⟨nb, hxn⟩ : ∃ n, Hid (xs.length = n) := ⟨_, rfl⟩
  rw [hxn.out] at hnc2
  have hnb2 : nb ≤ 9223372036854775807 := by omega
  rw [hxn.out]
  clear hnc2 hcm2
  have hs := St.start w0
  obtain ⟨ds, hds⟩ : ∃ z, Hid (descsL za = z) := ⟨_, rfl⟩
  have HOK : Hid (∀ d ∈ ds, descE d = 0) := by rw [Hid, ← hds.out]; exact descsL_ok za
  have hl8 : ds.length ≤ 8 := by rw [← hds.out]; exact descsL_len za
  have HER : Hid (errDs 0 ds = 0) := errDs_ok HOK.out (by omega)
  obtain ⟨c1, c2, HK⟩ := apK
  have HK := Lib.hid HK
  go_enter Tryd.func5, Tryd.ntmps5
  go_upto_region 2 with (first
    | (go_at_call 10; refine (descs_c hs HNA hnb hra hds).mono ?_; clear hs; rintro r w ⟨B, m, cB, hm, rfl, hs⟩))
  have hm8 : m ≤ 8 := by rw [← hm.out]; exact hl8
  clear hl8 hra hnb HNA hds
  go_upto_region 5 with (first
    | (go_at_call 8; refine (en_new_ok (n := 9) (top := 9) hs (by decide) (by decide) (by decide) (by decide) hm (by omega) (RdS.own hs) HER).mono ?_; clear hs; rintro r w ⟨E, A1, R, l, HNL, rfl, hs⟩))
  have HP0 : Hid (PtI ds l 0) := HNL.out.pt
  clear HNL HER
  have k0 := Rd.en0 _ hs
  go_upto_region 6 with (first
    | (go_at_call 11; refine (en_create (s := EnS.mk 9 (newA 9) l) hT hs (Lib.hid HK.out.cr)).mono ?_; clear hs k0; rintro r w ⟨rfl, hs⟩)
    | (refine wpl_alloc zeroH hs ?_; clear hs; intro g8 w hs)
    | (refine wpl_store_agg (v := hv (0, 1)) rfl rfl (by rw [sizeHd]; rfl) hs WrA.slotH ?_; clear hs; intro w hs))
  replace hs : St w0 [EnB E A1 R (EnS.mk 9 c1 l), blk g8 (h2 (0, 1)).toArray 38, own B m cB 33 3 (cs3 ds)] w := hs.ent (by (repeat first | exact Ent.refl _ | refine Ent.step (by repeat first | exact Ent.refl _ | apply Ent.skip) ?_))
  have k0 := Rd.en0 _ hs
  go_upto_region 7 with (first
    | (go_at_call 11; refine (en_create (s := EnS.mk 9 c1 l) hT hs (Lib.hid HK.out.cr2)).mono ?_; clear hs k0; rintro r w ⟨rfl, hs⟩)
    | (refine wpl_alloc zeroH hs ?_; clear hs; intro g10 w hs)
    | (refine wpl_store_agg (v := hv (1, 1)) rfl rfl (by rw [sizeHd]; rfl) hs WrA.slotH ?_; clear hs; intro w hs))
  replace hs : St w0 [blk g8 (h2 (0, 1)).toArray 38, own B m cB 33 3 (cs3 ds), EnB E A1 R (EnS.mk 9 c2 l), blk g10 (h2 (1, 1)).toArray 38] w := hs.ent (by (repeat first | exact Ent.refl _ | refine Ent.step (by repeat first | exact Ent.refl _ | apply Ent.skip) ?_))
  have HS0 : Hid (ApI ds (EnS.mk 9 c2 l) 0 0) := HK.out.start HP0.out
  clear HP0 HK
  go_upto_region 8 with (fail)
  go_loopw [12] (fun iv wr => ∃ (i : Nat) (s : EnS), i ≤ m ∧ iv = .int .i64 (i : Nat) ∧ Hid (ApI ds s i (2 * i)) ∧ St w0 [blk g8 (h2 (0, 1)).toArray 38, own B m cB 33 3 (cs3 ds), EnB E A1 R s, blk g10 (h2 (1, 1)).toArray 38] wr) (fun iv _ => m - (intOf iv).toNat)
  case atStart => exact ⟨0, EnS.mk 9 c2 l, Nat.zero_le _, rfl, HS0, hs⟩
  case round =>
    clear hs HS0 l
    obtain ⟨i, s, hi, rfl, HP, hs⟩ := hrel
    by_cases hlt : i < m
    · obtain ⟨d, hd⟩ : ∃ d, ds[i]? = some d := ⟨_, List.getElem?_eq_getElem (by rw [hm.out]; exact hlt)⟩
      have hkind : (cs3 ds)[i * 3]? = some (.int .i64 d.k) := by
        rw [cs3_rows]
        exact rows_get (C := 3) (encX := YtiafdlofcjbllaaDoor.c3) (fun _ => rfl) hd 0 _ rfl
      obtain ⟨v1, HV1⟩ : ∃ z, Hid (mkV d.k 1 2 = z) := ⟨_, rfl⟩
      obtain ⟨v2, HV2⟩ : ∃ z, Hid (mkV d.k (i : Nat) 7 = z) := ⟨_, rfl⟩
      obtain ⟨⟨u1, b1, e1, s1⟩, HI1⟩ : ∃ z, Hid (s.ins (0, 1) (i : Nat) v1 = z) := ⟨_, rfl⟩
      obtain ⟨⟨u2, b2, e2, s2⟩, HI2⟩ : ∃ z, Hid (s1.ins (1, 1) (i : Nat) v2 = z) := ⟨_, rfl⟩
      have HP1 : ApI ds s1 i (2 * i + 1) := by have h := HP.out.ins (i : Nat) v1; rw [HI1.out] at h; exact h
      have HP' : Hid (ApI ds s2 (i + 1) (2 * (i + 1))) := by
        obtain ⟨⟨X, t⟩, hx⟩ : ∃ x, s1.l[i]? = some x := ⟨_, List.getElem?_eq_getElem (by rw [HP1.len, hm.out]; exact hlt)⟩
        have hdk := (HP1.at_ i _ hx).1
        rw [hd] at hdk
        injection hdk with hdk
        have h := HP1.insB hx (by rw [← hdk]; exact HOK.out _ (List.mem_of_getElem? hd))
        rw [← hdk, HV2.out, HI2.out] at h
        exact h
      have HEV1 : Hid (∀ x ∈ s.l, x.2.evs.length < 4611686018427387904) := HP.out.ev.lt (by omega)
      have HEV2 : Hid (∀ x ∈ s1.l, x.2.evs.length < 4611686018427387904) := HP1.ev.lt (by omega)
      obtain ⟨gB, rfl⟩ := hs.rot.own_at (show 0 < m by omega)
      clear hd HP1
      go_upto_region 10 with (fail)
      refine wp_region_plain [false, false, false, false, false, false, false, false, true, true] hs.only2 (by kernel_rfl) (by kernel_rfl) fun hne => ?_
      have r0 := (Rd.blk (w0 := w0) (g := g8) (k := 0) (cs := (h2 (0, 1)).toArray) (v := .int .i64 0) (t := 38) (L := [own (some ⟨gB, 0, none⟩) m cB 33 3 (cs3 ds)]) (by rfl)).alln
      have r1 := (Rd.blk (w0 := w0) (g := g8) (k := 1) (cs := (h2 (0, 1)).toArray) (v := .int .i64 1) (t := 38) (L := [own (some ⟨gB, 0, none⟩) m cB 33 3 (cs3 ds)]) (by rfl)).alln
      have r2 := ((Rd.own (w0 := w0) (g := gB) (n := m) (cap := cB) (e := 33) (size := 3) (L := []) hkind).tail (p := blk g8 (h2 (0, 1)).toArray 38)).alln
      simp only [pickOps]
      repeat (go_big_quiet_step (fail))
      refine wpQuiet_nil ?_
      clear hne r0 r1 r2
      simp only [chainIx]
      replace hs := hs.drew
      refine wpChainP_next rfl ?_
      (go_wp2_with (first
        | (go_at_call 15; refine (lvalue_c _ _ _ HV1).mono ?_; rintro r w ⟨rfl, hg⟩; replace hs := hs.grew hg; clear hg)))
      refine ⟨hs.only2, ?_⟩
      refine wpChain_last rfl ?_
      go_upto_region 11 with (first
        | (go_at_call 16; refine (en_ins (h := (0, 1)) hs.up2 HEV1.out HI1).mono ?_; clear hs; rintro r w ⟨rfl, hs⟩))
      replace hs : St w0 [blk g10 (h2 (1, 1)).toArray 38, own (some ⟨gB, 0, none⟩) m cB 33 3 (cs3 ds), EnB E A1 R s1, blk g8 (h2 (0, 1)).toArray 38] w := hs.ent (by (repeat first | exact Ent.refl _ | refine Ent.step (by repeat first | exact Ent.refl _ | apply Ent.skip) ?_))
      refine wp_region_plain [false, false, false, false, false, false, false, false, false, true, true] hs.only2 (by kernel_rfl) (by kernel_rfl) fun hne => ?_
      have r0 := (Rd.blk (w0 := w0) (g := g10) (k := 0) (cs := (h2 (1, 1)).toArray) (v := .int .i64 1) (t := 38) (L := [own (some ⟨gB, 0, none⟩) m cB 33 3 (cs3 ds)]) (by rfl)).alln
      have r1 := (Rd.blk (w0 := w0) (g := g10) (k := 1) (cs := (h2 (1, 1)).toArray) (v := .int .i64 1) (t := 38) (L := [own (some ⟨gB, 0, none⟩) m cB 33 3 (cs3 ds)]) (by rfl)).alln
      have r2 := ((Rd.own (w0 := w0) (g := gB) (n := m) (cap := cB) (e := 33) (size := 3) (L := []) hkind).tail (p := blk g10 (h2 (1, 1)).toArray 38)).alln
      simp only [pickOps]
      repeat (go_big_quiet_step (fail))
      refine wpQuiet_nil ?_
      clear hne r0 r1 r2
      simp only [chainIx]
      replace hs := hs.drew
      clear hkind
      refine wpChainP_next rfl ?_
      (go_wp2_with (first
        | (go_at_call 15; refine (lvalue_c _ _ _ HV2).mono ?_; rintro r w ⟨rfl, hg⟩; replace hs := hs.grew hg; clear hg)))
      refine ⟨hs.only2, ?_⟩
      refine wpChain_last rfl ?_
      (go_wp2_with (first
        | (go_at_call 16; refine (en_ins (h := (1, 1)) hs.up2 HEV2.out HI2).mono ?_; clear hs; rintro r w ⟨rfl, hs⟩)))
      replace hs : St w0 [blk g8 (h2 (0, 1)).toArray 38, own (some ⟨gB, 0, none⟩) m cB 33 3 (cs3 ds), EnB E A1 R s2, blk g10 (h2 (1, 1)).toArray 38] w := hs.ent (by (repeat first | exact Ent.refl _ | refine Ent.step (by repeat first | exact Ent.refl _ | apply Ent.skip) ?_))
      go_roundw
      case rel => exact ⟨i + 1, s2, by omega, by first | rfl | go_num, HP', hs⟩
      case measure => simp [intOf] <;> omega
    · obtain rfl : i = m := by omega
      have HQ : Hid (ApI ds s i (16 + 0)) := by
        have h := HP.out
        exact ⟨h.len, h.live, h.at_, fun x hx => by have := h.ev x hx; omega⟩
      clear HP hi hlt
      go_upto_region 13 with (fail)
      go_loopw [13] (fun iv wr => ∃ (j : Nat) (s : EnS), (j ≤ nb ∧ j ≤ 30) ∧ iv = .int .i64 (j : Nat) ∧ Hid (ApI ds s i (16 + j)) ∧ St w0 [blk g8 (h2 (0, 1)).toArray 38, own B i cB 33 3 (cs3 ds), EnB E A1 R s, blk g10 (h2 (1, 1)).toArray 38] wr) (fun iv _ => nb - (intOf iv).toNat)
      case atStart => exact ⟨0, s, by omega, rfl, HQ, hs⟩
      case round =>
        clear hs HQ s
        obtain ⟨j, s, ⟨hj, hj3⟩, rfl, HP, hs⟩ := hrel
        by_cases hlt : j < nb ∧ j < 30
        · obtain ⟨hl1, hl2⟩ := hlt
          obtain ⟨o, ho⟩ : ∃ o, xs[j]? = some o := ⟨_, List.getElem?_eq_getElem (by rw [hxn.out]; exact hl1)⟩
          have hcell := fun k x hx => hrb.get (rows_get (C := 8) (encX := c8o) (fun _ => rfl) ho k x hx)
          obtain ⟨b9, off, rfl, _⟩ := hcell 0 _ rfl
          have hld : ∀ k x, (c8o o)[k]? = some x → Rd w0 [] ⟨b9, off + j * 8 + k, none⟩ x := fun k x hx => by
            obtain ⟨b', o', he, hr⟩ := hcell k x hx
            injection he with he
            injection he with e1 e2
            subst e1; subst e2
            rw [Nat.add_assoc]; exact hr
          have HEV : Hid (∀ x ∈ s.l, x.2.evs.length < 4611686018427387904) := HP.out.ev.lt (by omega)
          obtain ⟨ok, oh, oc, ov, orr⟩ := o
          have l0 : Rd w0 [] ⟨b9, off + j * 8 + 0, none⟩ (.int .i64 ok) := hld 0 _ rfl
          have l2 : Rd w0 [] ⟨b9, off + j * 8 + 2, none⟩ (.int .i64 oc) := hld 2 _ rfl
          have l3 : Rd w0 [] ⟨b9, off + j * 8 + 3, none⟩ (.int .i64 ov.k) := hld 3 _ rfl
          have l4 : Rd w0 [] ⟨b9, off + j * 8 + 4, none⟩ (.int .i64 ov.a) := hld 4 _ rfl
          have l5 : Rd w0 [] ⟨b9, off + j * 8 + 5, none⟩ (.int .i64 ov.b) := hld 5 _ rfl
          simp only [Nat.add_zero] at l0
          clear hcell ho hld
          have f0 := l0 _ hs.drop.drop.drop.drop
          go_upto_region 16 with (fail)
          clear f0 l0
          by_cases k2 : ok = 2
          · have d2 : (ok == 2) = true := by simp [k2]
            clear k2 l2 l3 l4 l5
            obtain ⟨⟨n1, e1, s1⟩, HD⟩ : ∃ z, Hid (s.del (0, 1) = z) := ⟨_, rfl⟩
            have HP' : Hid (ApI ds s1 i (16 + (j + 1))) := by have h := HP.out.del; rw [HD.out] at h; exact h
            replace hs : St w0 [EnB E A1 R s, blk g8 (h2 (0, 1)).toArray 38, own B i cB 33 3 (cs3 ds), blk g10 (h2 (1, 1)).toArray 38] _ := hs.ent (by (repeat first | exact Ent.refl _ | refine Ent.step (by repeat first | exact Ent.refl _ | apply Ent.skip) ?_))
            (go_wp2_with (first
              | (refine wpl_load_agg (cs := h2 (0, 1)) (b := g8) (o := 0) rfl aggH (sizeHd _) hs ?hh ?_; case hh => exact fun j x hx => (Rd.blk (by simpa using hx)).tail)
              | (go_at_call 19; refine (en_del (h := (0, 1)) hs HEV.out HD).mono ?_; clear hs; rintro r w ⟨rfl, hs⟩)))
            go_roundw
            case rel => exact ⟨j + 1, s1, by omega, by first | rfl | go_num, HP', hs.ent (by (repeat first | exact Ent.refl _ | refine Ent.step (by repeat first | exact Ent.refl _ | apply Ent.skip) ?_))⟩
            case measure => simp [intOf] <;> omega
          · have d2 : (ok == 2) = false := by simp [k2]
            clear k2
            by_cases k3 : ok = 3
            · have d3 : (ok == 3) = true := by simp [k3]
              clear k3
              obtain ⟨⟨u1, b1, e1, s1⟩, HD⟩ : ∃ z, Hid (s.ins (0, 1) oc ov = z) := ⟨_, rfl⟩
              have HP' : Hid (ApI ds s1 i (16 + (j + 1))) := by have h := HP.out.ins oc ov; rw [HD.out] at h; exact h
              go_upto_region 19 with (fail)
              refine wp_region_plain [false, false, false, false, false, false, false, false, false, false, false, false, true] hs.only2 (by kernel_rfl) (by kernel_rfl) fun hne => ?_
              have r0 := (Rd.blk (w0 := w0) (g := g8) (k := 0) (cs := (h2 (0, 1)).toArray) (v := .int .i64 0) (t := 38) (L := [own B i cB 33 3 (cs3 ds)]) (by rfl)).alln
              have r1 := (Rd.blk (w0 := w0) (g := g8) (k := 1) (cs := (h2 (0, 1)).toArray) (v := .int .i64 1) (t := 38) (L := [own B i cB 33 3 (cs3 ds)]) (by rfl)).alln
              have r2 := (show Rd w0 [blk g8 (h2 (0, 1)).toArray 38, own B i cB 33 3 (cs3 ds)] _ _ from l2.tail.tail).alln
              have r3 := (show Rd w0 [blk g8 (h2 (0, 1)).toArray 38, own B i cB 33 3 (cs3 ds)] _ _ from l3.tail.tail).alln
              have r4 := (show Rd w0 [blk g8 (h2 (0, 1)).toArray 38, own B i cB 33 3 (cs3 ds)] _ _ from l4.tail.tail).alln
              have r5 := (show Rd w0 [blk g8 (h2 (0, 1)).toArray 38, own B i cB 33 3 (cs3 ds)] _ _ from l5.tail.tail).alln
              simp only [pickOps]
              repeat (go_big_quiet_step (fail))
              refine wpQuiet_nil ?_
              clear hne r0 r1 r2 r3 r4 r5 l2 l3 l4 l5
              simp only [chainIx]
              replace hs := hs.drew
              refine wpChain_last rfl ?_
              (go_wp2_with (first
                | (go_at_call 16; refine (en_ins (h := (0, 1)) hs.up2 HEV.out HD).mono ?_; clear hs; rintro r w ⟨rfl, hs⟩)))
              go_roundw
              case rel => exact ⟨j + 1, s1, by omega, by first | rfl | go_num, HP', hs.ent (by (repeat first | exact Ent.refl _ | refine Ent.step (by repeat first | exact Ent.refl _ | apply Ent.skip) ?_))⟩
              case measure => simp [intOf] <;> omega
            · have d3 : (ok == 3) = false := by simp [k3]
              clear k3
              by_cases k4 : ok = 4
              · have d4 : (ok == 4) = true := by simp [k4]
                clear k4
                obtain ⟨⟨u1, e1, s1⟩, HD⟩ : ∃ z, Hid (s.rem (0, 1) oc = z) := ⟨_, rfl⟩
                have HP' : Hid (ApI ds s1 i (16 + (j + 1))) := by have h := HP.out.rem oc; rw [HD.out] at h; exact h
                go_upto_region 21 with (fail)
                refine wp_region_plain [false, false, false, false, false, false, false, true] hs.only2 (by kernel_rfl) (by kernel_rfl) fun hne => ?_
                have r0 := (Rd.blk (w0 := w0) (g := g8) (k := 0) (cs := (h2 (0, 1)).toArray) (v := .int .i64 0) (t := 38) (L := [own B i cB 33 3 (cs3 ds)]) (by rfl)).alln
                have r1 := (Rd.blk (w0 := w0) (g := g8) (k := 1) (cs := (h2 (0, 1)).toArray) (v := .int .i64 1) (t := 38) (L := [own B i cB 33 3 (cs3 ds)]) (by rfl)).alln
                have r2 := (show Rd w0 [blk g8 (h2 (0, 1)).toArray 38, own B i cB 33 3 (cs3 ds)] _ _ from l2.tail.tail).alln
                simp only [pickOps]
                repeat (go_big_quiet_step (fail))
                refine wpQuiet_nil ?_
                clear hne r0 r1 r2 l2 l3 l4 l5
                simp only [chainIx]
                replace hs := hs.drew
                refine wpChain_last rfl ?_
                (go_wp2_with (first
                  | (go_at_call 12; refine (en_rem (h := (0, 1)) hs.up2 HEV.out HD).mono ?_; clear hs; rintro r w ⟨rfl, hs⟩)))
                go_roundw
                case rel => exact ⟨j + 1, s1, by omega, by first | rfl | go_num, HP', hs.ent (by (repeat first | exact Ent.refl _ | refine Ent.step (by repeat first | exact Ent.refl _ | apply Ent.skip) ?_))⟩
                case measure => simp [intOf] <;> omega
              · have d4 : (ok == 4) = false := by simp [k4]
                clear k4
                by_cases k6 : ok = 6
                · have d6 : (ok == 6) = true := by simp [k6]
                  clear k6
                  obtain ⟨⟨e1, s1⟩, HD⟩ : ∃ z, Hid (s.set (0, 1) oc ov = z) := ⟨_, rfl⟩
                  have HP' : Hid (ApI ds s1 i (16 + (j + 1))) := by have h := HP.out.set oc ov; rw [HD.out] at h; exact h
                  go_upto_region 23 with (fail)
                  refine wp_region_plain [false, false, false, false, false, false, false, false, false, false, false, false, true] hs.only2 (by kernel_rfl) (by kernel_rfl) fun hne => ?_
                  have r0 := (Rd.blk (w0 := w0) (g := g8) (k := 0) (cs := (h2 (0, 1)).toArray) (v := .int .i64 0) (t := 38) (L := [own B i cB 33 3 (cs3 ds)]) (by rfl)).alln
                  have r1 := (Rd.blk (w0 := w0) (g := g8) (k := 1) (cs := (h2 (0, 1)).toArray) (v := .int .i64 1) (t := 38) (L := [own B i cB 33 3 (cs3 ds)]) (by rfl)).alln
                  have r2 := (show Rd w0 [blk g8 (h2 (0, 1)).toArray 38, own B i cB 33 3 (cs3 ds)] _ _ from l2.tail.tail).alln
                  have r3 := (show Rd w0 [blk g8 (h2 (0, 1)).toArray 38, own B i cB 33 3 (cs3 ds)] _ _ from l3.tail.tail).alln
                  have r4 := (show Rd w0 [blk g8 (h2 (0, 1)).toArray 38, own B i cB 33 3 (cs3 ds)] _ _ from l4.tail.tail).alln
                  have r5 := (show Rd w0 [blk g8 (h2 (0, 1)).toArray 38, own B i cB 33 3 (cs3 ds)] _ _ from l5.tail.tail).alln
                  simp only [pickOps]
                  repeat (go_big_quiet_step (fail))
                  refine wpQuiet_nil ?_
                  clear hne r0 r1 r2 r3 r4 r5 l2 l3 l4 l5
                  simp only [chainIx]
                  replace hs := hs.drew
                  refine wpChain_last rfl ?_
                  (go_wp2_with (first
                    | (go_at_call 21; refine (en_set (h := (0, 1)) hs.up2 HEV.out HD).mono ?_; clear hs; rintro r w ⟨rfl, hs⟩)))
                  go_roundw
                  case rel => exact ⟨j + 1, s1, by omega, by first | rfl | go_num, HP', hs.ent (by (repeat first | exact Ent.refl _ | refine Ent.step (by repeat first | exact Ent.refl _ | apply Ent.skip) ?_))⟩
                  case measure => simp [intOf] <;> omega
                · have d6 : (ok == 6) = false := by simp [k6]
                  clear k6 l2 l3 l4 l5
                  have HP' : Hid (ApI ds s i (16 + (j + 1))) := HP.out.more
                  go_wp2
                  go_roundw
                  case rel => exact ⟨j + 1, s, by omega, by first | rfl | go_num, HP', hs⟩
                  case measure => simp [intOf] <;> omega
        · by_cases hl1 : j < nb
          · have hl2 : ¬ (j < 30) := fun h => hlt ⟨hl1, h⟩
            clear hlt
            clear hrb hj hj3
            have HPT : Hid (s.parts (1, 1) = (List.range i, 0)) := by
              rw [Hid, HP.out.parts hm.out.symm, hm.out]
            have HPL : Hid ((List.range i).length = i) := List.length_range
            replace hs : St w0 [EnB E A1 R s, blk g10 (h2 (1, 1)).toArray 38, blk g8 (h2 (0, 1)).toArray 38, own B i cB 33 3 (cs3 ds)] _ := hs.ent (by (repeat first | exact Ent.refl _ | refine Ent.step (by repeat first | exact Ent.refl _ | apply Ent.skip) ?_))
            go_upto_region 25 with (first
              | (refine wpl_load_agg (cs := h2 (1, 1)) (b := g10) (o := 0) rfl aggH (sizeHd _) hs ?hh ?_; case hh => exact fun j x hx => (Rd.blk (by simpa using hx)).tail)
              | (go_at_call 18; refine (en_parts (h := (1, 1)) hs HPT).mono ?_; clear hs; rintro r w ⟨B3, m3, cB3, hm3, rfl, hs⟩; replace hs := hs.drop; obtain rfl : i = m3 := (by rw [← HPL.out]; exact hm3.out); clear hm3))
            clear HPT HPL hnb2
            replace hs : St w0 [EnB E A1 R s, blk g10 (h2 (1, 1)).toArray 38, own B i cB 33 3 (cs3 ds)] _ := hs.up2.drop.ent (by (repeat first | exact Ent.refl _ | refine Ent.step (by repeat first | exact Ent.refl _ | apply Ent.skip) ?_))
            go_upto_region 28 with (fail)
            go_loopw [16] (fun iv wr => ∃ (q : Nat), q ≤ i ∧ iv = .int .i64 (q : Nat) ∧ St w0 [EnB E A1 R s, blk g10 (h2 (1, 1)).toArray 38, own B i cB 33 3 (cs3 ds)] wr) (fun iv _ => i - (intOf iv).toNat)
            case atStart => exact ⟨0, Nat.zero_le _, rfl, hs⟩
            case round =>
              clear hs
              obtain ⟨q, hq, rfl, hs⟩ := hrel
              by_cases hlq : q < i
              · obtain ⟨d, hd⟩ : ∃ d, ds[q]? = some d := ⟨_, List.getElem?_eq_getElem (by rw [hm.out]; exact hlq)⟩
                have hkind : (cs3 ds)[q * 3]? = some (.int .i64 d.k) := by
                  rw [cs3_rows]
                  exact rows_get (C := 3) (encX := YtiafdlofcjbllaaDoor.c3) (fun _ => rfl) hd 0 _ rfl
                obtain ⟨v2, HV2⟩ : ∃ z, Hid (mkV d.k (q : Nat) 7 = z) := ⟨_, rfl⟩
                have HG : Hid (s.get (1, 1) (q : Nat) = (v2, 0)) := by rw [Hid, HP.out.get hlq hd, HV2.out]
                obtain ⟨gB, rfl⟩ := hs.up2.own_at (show 0 < i by omega)
                clear hd
                obtain ⟨va, vb, vc⟩ := v2
                go_upto_region 31 with (first
                  | (refine wpl_load_agg (cs := h2 (1, 1)) (b := g10) (o := 0) rfl aggH (sizeHd _) hs ?hh ?_; case hh => exact fun j x hx => (Rd.blk (by simpa using hx)).tail)
                  | (go_at_call 22; refine (en_get (h := (1, 1)) hs HG).mono ?_; clear hs; rintro r w ⟨rfl, hs⟩)
                  | (refine wpl_alloc zero3 hs ?_; clear hs; intro g17 w hs)
                  | (refine wpl_store_agg (v := val3 ⟨va, vb, vc⟩) rfl rfl (size3 _) hs WrA.slot3 ?_; clear hs; intro w hs))
                have r2 := Rd.own (w0 := w0) (g := gB) (n := i) (cap := cB) (e := 33) (size := 3) hkind _ hs.drop.drop.drop
                obtain ⟨p0, p1, p2⟩ := Has3.facts (has3_slot (g := g17) (v := ⟨va, vb, vc⟩) (t := 50)) hs
                refine wp_region_grow (by kernel_rfl) (by kernel_rfl) fun hne => ?_
                have q0 := fun p : GW _ => p.grew.cell p0
                have q1 := fun p : GW _ => p.grew.cell p1
                have q2 := fun p : GW _ => p.grew.cell p2
                have q3 := fun p : GW _ => p.grew.cell r2
                repeat (go_big_quiet_step (first
                  | (go_at_call 15; exact in_grew (v := .agg #[.int .i64 va, .int .i64 vb, .int .i64 vc]) (lvalue_c _ _ _ HV2))))
                refine wpQuiet_nil ?_
                clear hne q0 q1 q2 q3 p0 p1 p2 r2 hkind
                intro u hu
                replace hs := hs.grew hu
                clear hu
                go_wp2
                go_roundw
                case rel => exact ⟨q + 1, by omega, by first | rfl | go_num, hs.drop⟩
                case measure => simp [intOf] <;> omega
              · clear HP
                (go_wp2_with (first
                  | (go_at_call 7; refine (awake15 (hT.grew hs.below)).mono ?_; rintro r w ⟨rfl, hg⟩; replace hs := hs.grew hg; clear hg)))
                go_ret
                exact ⟨rfl, hs.drop.drop.drop⟩
          · clear hlt
            clear hrb hj hj3
            have HPT : Hid (s.parts (1, 1) = (List.range i, 0)) := by
              rw [Hid, HP.out.parts hm.out.symm, hm.out]
            have HPL : Hid ((List.range i).length = i) := List.length_range
            replace hs : St w0 [EnB E A1 R s, blk g10 (h2 (1, 1)).toArray 38, blk g8 (h2 (0, 1)).toArray 38, own B i cB 33 3 (cs3 ds)] _ := hs.ent (by (repeat first | exact Ent.refl _ | refine Ent.step (by repeat first | exact Ent.refl _ | apply Ent.skip) ?_))
            go_upto_region 25 with (first
              | (refine wpl_load_agg (cs := h2 (1, 1)) (b := g10) (o := 0) rfl aggH (sizeHd _) hs ?hh ?_; case hh => exact fun j x hx => (Rd.blk (by simpa using hx)).tail)
              | (go_at_call 18; refine (en_parts (h := (1, 1)) hs HPT).mono ?_; clear hs; rintro r w ⟨B3, m3, cB3, hm3, rfl, hs⟩; replace hs := hs.drop; obtain rfl : i = m3 := (by rw [← HPL.out]; exact hm3.out); clear hm3))
            clear HPT HPL hnb2
            replace hs : St w0 [EnB E A1 R s, blk g10 (h2 (1, 1)).toArray 38, own B i cB 33 3 (cs3 ds)] _ := hs.up2.drop.ent (by (repeat first | exact Ent.refl _ | refine Ent.step (by repeat first | exact Ent.refl _ | apply Ent.skip) ?_))
            go_upto_region 28 with (fail)
            go_loopw [16] (fun iv wr => ∃ (q : Nat), q ≤ i ∧ iv = .int .i64 (q : Nat) ∧ St w0 [EnB E A1 R s, blk g10 (h2 (1, 1)).toArray 38, own B i cB 33 3 (cs3 ds)] wr) (fun iv _ => i - (intOf iv).toNat)
            case atStart => exact ⟨0, Nat.zero_le _, rfl, hs⟩
            case round =>
              clear hs
              obtain ⟨q, hq, rfl, hs⟩ := hrel
              by_cases hlq : q < i
              · obtain ⟨d, hd⟩ : ∃ d, ds[q]? = some d := ⟨_, List.getElem?_eq_getElem (by rw [hm.out]; exact hlq)⟩
                have hkind : (cs3 ds)[q * 3]? = some (.int .i64 d.k) := by
                  rw [cs3_rows]
                  exact rows_get (C := 3) (encX := YtiafdlofcjbllaaDoor.c3) (fun _ => rfl) hd 0 _ rfl
                obtain ⟨v2, HV2⟩ : ∃ z, Hid (mkV d.k (q : Nat) 7 = z) := ⟨_, rfl⟩
                have HG : Hid (s.get (1, 1) (q : Nat) = (v2, 0)) := by rw [Hid, HP.out.get hlq hd, HV2.out]
                obtain ⟨gB, rfl⟩ := hs.up2.own_at (show 0 < i by omega)
                clear hd
                obtain ⟨va, vb, vc⟩ := v2
                go_upto_region 31 with (first
                  | (refine wpl_load_agg (cs := h2 (1, 1)) (b := g10) (o := 0) rfl aggH (sizeHd _) hs ?hh ?_; case hh => exact fun j x hx => (Rd.blk (by simpa using hx)).tail)
                  | (go_at_call 22; refine (en_get (h := (1, 1)) hs HG).mono ?_; clear hs; rintro r w ⟨rfl, hs⟩)
                  | (refine wpl_alloc zero3 hs ?_; clear hs; intro g17 w hs)
                  | (refine wpl_store_agg (v := val3 ⟨va, vb, vc⟩) rfl rfl (size3 _) hs WrA.slot3 ?_; clear hs; intro w hs))
                have r2 := Rd.own (w0 := w0) (g := gB) (n := i) (cap := cB) (e := 33) (size := 3) hkind _ hs.drop.drop.drop
                obtain ⟨p0, p1, p2⟩ := Has3.facts (has3_slot (g := g17) (v := ⟨va, vb, vc⟩) (t := 50)) hs
                refine wp_region_grow (by kernel_rfl) (by kernel_rfl) fun hne => ?_
                have q0 := fun p : GW _ => p.grew.cell p0
                have q1 := fun p : GW _ => p.grew.cell p1
                have q2 := fun p : GW _ => p.grew.cell p2
                have q3 := fun p : GW _ => p.grew.cell r2
                repeat (go_big_quiet_step (first
                  | (go_at_call 15; exact in_grew (v := .agg #[.int .i64 va, .int .i64 vb, .int .i64 vc]) (lvalue_c _ _ _ HV2))))
                refine wpQuiet_nil ?_
                clear hne q0 q1 q2 q3 p0 p1 p2 r2 hkind
                intro u hu
                replace hs := hs.grew hu
                clear hu
                go_wp2
                go_roundw
                case rel => exact ⟨q + 1, by omega, by first | rfl | go_num, hs.drop⟩
                case measure => simp [intOf] <;> omega
              · clear HP
                (go_wp2_with (first
                  | (go_at_call 7; refine (awake15 (hT.grew hs.below)).mono ?_; rintro r w ⟨rfl, hg⟩; replace hs := hs.grew hg; clear hg)))
                go_ret
                exact ⟨rfl, hs.drop.drop.drop⟩
end Go.Proofs.YtiafdlofcjbllaaDoor
