/-
  EntFresh: the walk. (Printed by gen_enfr.py.)
-/
import Derived.Test.YtenipgddbpfidaaDoorEnLw
import Derived.Test.YtenipgddbpfidaaDoorRegM
import Derived.Deep.DeepCutAuto
import Derived.Deep.CutRange
import Derived.Deep.CutBlock
set_option maxRecDepth 100000
namespace Go.Proofs.YtenipgddbpfidaaDoor
open Go Go.RowKit
/-- What the handles of EntFresh come to. -/
structure FrK (c1 c3 c4 : List ACell) : Prop where
  cr : giveV 1 (newA 3) = ((0, 1), 0, c1)
  live : ∀ l, (EnS.mk 9 c1 l).live (0, 1) = 0
  del : ∀ l, (EnS.mk 9 c1 l).del (0, 1) = ((((ofN l 0 l.length).length : Nat) : Int), 0, EnS.mk 9 c3 (strL l 0))
  cr2 : giveV 1 c3 = ((0, 2), 0, c4)
  live2 : ∀ l, (EnS.mk 9 c4 l).live (0, 2) = 0
  stale : ∀ l, (EnS.mk 9 c4 l).live (0, 1) = 4
theorem frK : ∃ c1 c3 c4, FrK c1 c3 c4 := by
  refine ⟨(newA 3).set 0 (1, 1), (newA 3).set 0 (0, 1), (newA 3).set 0 (1, 2), by kernel_rfl, fun l => by kernel_rfl, fun l => ?_, by kernel_rfl, fun l => by kernel_rfl, fun l => by kernel_rfl⟩
  have h0 : (EnS.mk 9 ((newA 3).set 0 (1, 1)) l).live (0, 1) = 0 := by kernel_rfl
  rw [EnS.del_in h0]
  have h1 : (delA 9 ((newA 3).set 0 (1, 1)) (0, 1)).2 = (newA 3).set 0 (0, 1) := by kernel_rfl
  show (_, _, EnS.mk 9 (delA 9 ((newA 3).set 0 (1, 1)) (0, 1)).2 _) = _
  rw [h1]
structure FrS (s : EnS) : Prop where
  get : ∀ c, s.get (0, 1) c = (V3.z, 4)
  rem : ∀ c, s.rem (0, 1) c = (V3.z, 4, s)
  ins : ∀ c v, s.ins (0, 1) c v = (V3.z, false, 4, s)
  set : ∀ c v, s.set (0, 1) c v = (4, s)
  del : s.del (0, 1) = (0, 4, s)
  parts : s.parts (0, 1) = ([], 4)
theorem frS {s : EnS} (h : s.live (0, 1) = 4) : FrS s := by
  have h0 : s.live (0, 1) ≠ 0 := by rw [h]; decide
  refine ⟨fun c => by rw [EnS.get_no h0, h], fun c => ?_, fun c v => by rw [EnS.ins_no h0, h], fun c v => by rw [EnS.set_no h0, h], by rw [EnS.del_no h0, h], by rw [EnS.parts_no h0, h]⟩
  exact EnS.rem_no (by rw [EnS.get_no h0, h]) (by decide)
attribute [local irreducible] wpList Calls Code.wp okI okN pS tS memS getG pG insS delS getV pV tV okVal newSl SlS.put SlS.err SlS.putU SlS.putB descE SlS.take SlS.set SlS.errSet SlS.get SlS.has stV EnS.live EnS.get EnS.slot EnS.ins EnS.set EnS.rem EnS.parts EnS.del ofN strL delA newA giveV cs3 errDs descsL mkV
set_option maxHeartbeats 8000000 in
theorem entfresh_c {w0 : World} (hT : Tab w0) {va : Value} {za : List Int} (hva : IntArg w0 va za) (wi : Int) (hw1 : 0 ≤ wi) (hw2 : wi ≤ 18446744073709551615) (c : Int) (v : V3) :
    Calls Tryd.prog 6 #[va, .int .u64 wi, .int .i64 c, val3 v] w0 (LawPost w0) := by
  obtain ⟨A, na, ca, rfl, hna, hnc, hcm, hra, -⟩ := hva
  unfold maxLen at hcm
  have HNA := Lib.hid hna
  have hnb : na ≤ 9223372036854775807 := by omega
  clear hna hnc hcm
  have hs := St.start w0
  obtain ⟨ds, hds⟩ : ∃ z, Hid (descsL za = z) := ⟨_, rfl⟩
  have HOK : Hid (∀ d ∈ ds, descE d = 0) := by rw [Hid, ← hds.out]; exact descsL_ok za
  have hl8 : ds.length ≤ 8 := by rw [← hds.out]; exact descsL_len za
  have HER : Hid (errDs 0 ds = 0) := errDs_ok HOK.out (by omega)
  obtain ⟨c1, c3, c4, HK⟩ := frK
  have HK := Lib.hid HK
  go_enter Tryd.func6, Tryd.ntmps6
  go_upto_region 2 with (first
    | (refine wpl_box_v (v := val3 v) rfl hs ?_; clear hs; intro g7 w hs; replace hs : St w0 [blk g7 (YtenipgddbpfidaaDoor.c3 v).toArray 49] w := hs)
    | (go_at_call 34; refine (descs_c hs HNA hnb hra hds).mono ?_; clear hs; rintro r w ⟨B, m, cB, hm, rfl, hs⟩))
  have hm8 : m ≤ 8 := by rw [← hm.out]; exact hl8
  clear hl8 hra hnb HNA hds
  go_upto_region 5 with (first
    | (go_at_call 32; refine (en_new_ok (n := 3) (top := 9) hs (by decide) (by decide) (by decide) (by decide) hm (by omega) (RdS.own hs) HER).mono ?_; clear hs; rintro r w ⟨E, A1, R, l, HNL, rfl, hs⟩))
  have HP : Hid (PtI ds l 0) := HNL.out.pt
  clear HNL HER
  have k0 := Rd.en0 _ hs
  go_upto_region 6 with (first
    | (go_at_call 35; refine (en_create (s := EnS.mk 9 (newA 3) l) hT hs (Lib.hid HK.out.cr)).mono ?_; clear hs k0; rintro r w ⟨rfl, hs⟩)
    | (refine wpl_alloc zeroH hs ?_; clear hs; intro g12 w hs)
    | (refine wpl_store_agg (v := hv (0, 1)) rfl rfl (by rw [sizeHd]; rfl) hs WrA.slotH ?_; clear hs; intro w hs))
  replace hs : St w0 [blk g12 (h2 (0, 1)).toArray 86, own B m cB 23 3 (cs3 ds), EnB E A1 R (EnS.mk 9 c1 l), blk g7 (YtenipgddbpfidaaDoor.c3 v).toArray 49] w := hs.ent (by (repeat first | exact Ent.refl _ | refine Ent.step (by first | exact Ent.refl _ | exact Ent.skip (Ent.refl _) | exact Ent.skip (Ent.skip (Ent.refl _)) | exact Ent.skip (Ent.skip (Ent.skip (Ent.refl _))) | exact Ent.skip (Ent.skip (Ent.skip (Ent.skip (Ent.refl _)))) | exact Ent.skip (Ent.skip (Ent.skip (Ent.skip (Ent.skip (Ent.refl _))))) | exact Ent.skip (Ent.skip (Ent.skip (Ent.skip (Ent.skip (Ent.skip (Ent.refl _)))))) | exact Ent.skip (Ent.skip (Ent.skip (Ent.skip (Ent.skip (Ent.skip (Ent.skip (Ent.refl _))))))) | exact Ent.skip (Ent.skip (Ent.skip (Ent.skip (Ent.skip (Ent.skip (Ent.skip (Ent.skip (Ent.refl _)))))))) | exact Ent.skip (Ent.skip (Ent.skip (Ent.skip (Ent.skip (Ent.skip (Ent.skip (Ent.skip (Ent.skip (Ent.refl _)))))))))) ?_))
  go_upto_region 8 with (fail)
  go_loopw [14, 15] (fun nv iv wr => ∃ (k n : Nat) (l : List Cmp), k ≤ m ∧ n ≤ k ∧ nv = .int .i64 (n : Nat) ∧ iv = .int .i64 (k : Nat) ∧ Hid ((ofN l 0 k).length = n) ∧ Hid (PtI ds l k) ∧ St w0 [blk g12 (h2 (0, 1)).toArray 86, own B m cB 23 3 (cs3 ds), EnB E A1 R (EnS.mk 9 c1 l), blk g7 (YtenipgddbpfidaaDoor.c3 v).toArray 49] wr) (fun _ iv _ => m - (intOf iv).toNat)
  case atStart => exact ⟨0, 0, l, Nat.zero_le _, Nat.le_refl _, rfl, rfl, by rw [Hid]; unfold ofN; rfl, HP, hs⟩
  case round =>
    clear hs HP l
    obtain ⟨k, n, l, hk, hnk, rfl, rfl, HN, HP, hs⟩ := hrel
    by_cases hlt : k < m
    · have hbit := bit_val hw1 hw2 k
      by_cases hb : wi / 2 ^ k % 2 = 1
      · have d1 : bits .and .u64 (wi / 2 ^ k) 1 = 1 := by rw [hbit, hb]
        obtain ⟨⟨X, t⟩, hx⟩ : ∃ x, l[k]? = some x := ⟨_, List.getElem?_eq_getElem (by rw [HP.out.len, hm.out]; exact hlt)⟩
        have hdk := (HP.out.at_ k _ hx).1
        have hde : descE t.d = 0 := HOK.out _ (List.mem_of_getElem? hdk)
        obtain ⟨vv, HV⟩ : ∃ z, Hid (mkV t.d.k 4 5 = z) := ⟨_, rfl⟩
        have her : t.err 0 vv = 0 := by rw [← HV.out]; exact err_fit (by decide) hde 4 5
        obtain ⟨u, HU⟩ : ∃ z, Hid (t.putU 0 vv = z) := ⟨_, rfl⟩
        obtain ⟨pb, HB⟩ : ∃ z, Hid (t.putB 0 vv = z) := ⟨_, rfl⟩
        obtain ⟨l', HL'⟩ : ∃ z, Hid (l.set k (X, t.put 0 vv) = z) := ⟨_, rfl⟩
        have HINS : Hid ((EnS.mk 9 c1 l).ins (0, 1) (k : Nat) vv = (u, pb, 0, EnS.mk 9 c1 l')) := by
          have h1 := EnS.ins_in (s := EnS.mk 9 c1 l) (h := (0, 1)) (c := (k : Nat)) (v := vv) (HK.out.live l) (x := (X, t)) (by rw [EnS.slot_nat]; exact hx)
          simp only [Int.toNat_natCast] at h1
          rw [HU.out, HB.out, her, HL'.out] at h1
          exact h1
        have HN' : Hid ((ofN l' 0 (k + 1)).length = n + 1) := by rw [Hid, ← HL'.out, ofN_put hx her, HN.out]
        have HP' : Hid (PtI ds l' (k + 1)) := by rw [Hid, ← HL'.out]; exact HP.out.put hx 0 vv
        have HEV : Hid (∀ x ∈ (EnS.mk 9 c1 l).l, x.2.evs.length < 4611686018427387904) := HP.out.ev.lt (by omega)
        have hkind : (cs3 ds)[k * 3]? = some (.int .i64 t.d.k) := by
          rw [cs3_rows]
          exact rows_get (C := 3) (encX := YtenipgddbpfidaaDoor.c3) (fun _ => rfl) hdk 0 _ rfl
        have hgB := hs.rot.own_at (show 0 < m by omega)
        obtain ⟨gB, rfl⟩ := hgB
        clear hb hbit hx hdk hde her HN HP HU HB HL'
        go_upto_region 11 with (fail)
        go_cut [18] from 69 to 82 (fun ev wx => ev = .int .i64 0 ∧ St w0 [blk g12 (h2 (0, 1)).toArray 86, own (some ⟨gB, 0, none⟩) m cB 23 3 (cs3 ds), EnB E A1 R (EnS.mk 9 c1 l'), blk g7 (YtenipgddbpfidaaDoor.c3 v).toArray 49] wx)
        case first =>
          have r0 := (Rd.blk (w0 := w0) (g := g12) (k := 0) (cs := (h2 (0, 1)).toArray) (v := .int .i64 0) (t := 86) (L := [own (some ⟨gB, 0, none⟩) m cB 23 3 (cs3 ds)]) (by rfl)).alln
          have r1 := (Rd.blk (w0 := w0) (g := g12) (k := 1) (cs := (h2 (0, 1)).toArray) (v := .int .i64 1) (t := 86) (L := [own (some ⟨gB, 0, none⟩) m cB 23 3 (cs3 ds)]) (by rfl)).alln
          have r2 := ((Rd.own (w0 := w0) (g := gB) (n := m) (cap := cB) (e := 23) (size := 3) (L := []) hkind).tail (p := blk g12 (h2 (0, 1)).toArray 86)).alln
          clear hkind
          refine wp_mix 4 [0, 1, 2, 3, 4, 5, 6, 7] [8, 9, 10, 11, 12, 13, 14, 15, 16, 17] hs.only2 (by kernel_rfl) (by kernel_rfl) fun hne => ?_
          simp only [opsAt, List.getElem?_toArray, List.getElem?_cons_succ, List.getElem?_cons_zero]
          repeat (go_big_quiet_step (fail))
          refine wpQuiet_nil ?_
          clear hne r0 r1 r2
          replace hs := hs.drew
          refine wpMix_next [8, 14] (by kernel_rfl) (by simp) (fun c hc => ?_)
          simp only [List.mem_cons, List.not_mem_nil, or_false] at hc
          rcases hc with rfl | rfl
          · skip
            refine ⟨_, rfl, ?_⟩
            go_wp2_with (first
              | (go_at_call 19; refine (lvalue_c _ _ _ HV).mono ?_; rintro r w ⟨rfl, hg⟩; replace hs := hs.grew hg; clear hg))
            refine mix_quiet [] [9, 10, 11, 12, 13, 14, 15, 16, 17] hs.only2 (by kernel_rfl) (by kernel_rfl) fun hne => ?_
            simp only [opsAt]
            refine wpQuiet_nil ?_
            clear hne
            refine wpMix_next [9, 14] (by kernel_rfl) (by simp) (fun c hc => ?_)
            simp only [List.mem_cons, List.not_mem_nil, or_false] at hc
            rcases hc with rfl | rfl
            · skip
              refine ⟨_, rfl, ?_⟩
              go_wp2_with (first
                | (go_at_call 39; refine (en_ins (h := (0, 1)) hs.up2 HEV.out HINS).mono ?_; clear hs; rintro r w ⟨rfl, hs⟩))
              replace hs : St w0 (blk g12 (h2 (0, 1)).toArray 86 :: own (some ⟨gB, 0, none⟩) m cB 23 3 (cs3 ds) :: EnB E A1 R (EnS.mk 9 c1 l') :: blk g7 (YtenipgddbpfidaaDoor.c3 v).toArray 49 :: []) w := hs.ent (by (repeat first | exact Ent.refl _ | refine Ent.step (by first | exact Ent.refl _ | exact Ent.skip (Ent.refl _) | exact Ent.skip (Ent.skip (Ent.refl _)) | exact Ent.skip (Ent.skip (Ent.skip (Ent.refl _))) | exact Ent.skip (Ent.skip (Ent.skip (Ent.skip (Ent.refl _)))) | exact Ent.skip (Ent.skip (Ent.skip (Ent.skip (Ent.skip (Ent.refl _))))) | exact Ent.skip (Ent.skip (Ent.skip (Ent.skip (Ent.skip (Ent.skip (Ent.refl _)))))) | exact Ent.skip (Ent.skip (Ent.skip (Ent.skip (Ent.skip (Ent.skip (Ent.skip (Ent.refl _))))))) | exact Ent.skip (Ent.skip (Ent.skip (Ent.skip (Ent.skip (Ent.skip (Ent.skip (Ent.skip (Ent.refl _)))))))) | exact Ent.skip (Ent.skip (Ent.skip (Ent.skip (Ent.skip (Ent.skip (Ent.skip (Ent.skip (Ent.skip (Ent.refl _)))))))))) ?_))
              refine mix_quiet [10, 11, 12, 13] [14, 15, 16, 17] hs.only2 (by kernel_rfl) (by kernel_rfl) fun hne => ?_
              simp only [opsAt, List.getElem?_toArray, List.getElem?_cons_succ, List.getElem?_cons_zero]
              repeat (go_big_quiet_step (fail))
              refine wpQuiet_nil ?_
              clear hne
              refine wpMix_next [14] (by kernel_rfl) (by simp) (fun c hc => ?_)
              simp only [List.mem_singleton] at hc
              subst hc
              refine ⟨_, rfl, ?_⟩
              refine wpl_alloc zero3 hs ?_
              clear hs
              intro g16 w hs
              replace hs : St w0 (blk g16 (YtenipgddbpfidaaDoor.c3 V3.z).toArray 49 :: _) w := hs
              replace hs : St w0 (blk g12 (h2 (0, 1)).toArray 86 :: own (some ⟨gB, 0, none⟩) m cB 23 3 (cs3 ds) :: EnB E A1 R (EnS.mk 9 c1 l') :: blk g7 (YtenipgddbpfidaaDoor.c3 v).toArray 49 :: blk g16 (YtenipgddbpfidaaDoor.c3 V3.z).toArray 49 :: []) w := hs.ent (by (repeat first | exact Ent.refl _ | refine Ent.step (by first | exact Ent.refl _ | exact Ent.skip (Ent.refl _) | exact Ent.skip (Ent.skip (Ent.refl _)) | exact Ent.skip (Ent.skip (Ent.skip (Ent.refl _))) | exact Ent.skip (Ent.skip (Ent.skip (Ent.skip (Ent.refl _)))) | exact Ent.skip (Ent.skip (Ent.skip (Ent.skip (Ent.skip (Ent.refl _))))) | exact Ent.skip (Ent.skip (Ent.skip (Ent.skip (Ent.skip (Ent.skip (Ent.refl _)))))) | exact Ent.skip (Ent.skip (Ent.skip (Ent.skip (Ent.skip (Ent.skip (Ent.skip (Ent.refl _))))))) | exact Ent.skip (Ent.skip (Ent.skip (Ent.skip (Ent.skip (Ent.skip (Ent.skip (Ent.skip (Ent.refl _)))))))) | exact Ent.skip (Ent.skip (Ent.skip (Ent.skip (Ent.skip (Ent.skip (Ent.skip (Ent.skip (Ent.skip (Ent.refl _)))))))))) ?_))
              refine wpList_nil ⟨rfl, ?_⟩
              refine mix_quiet [] [15, 16, 17] hs.only2 (by kernel_rfl) (by kernel_rfl) fun hne => ?_
              simp only [opsAt]
              refine wpQuiet_nil ?_
              clear hne
              refine wpMix_next [15] (by kernel_rfl) (by simp) (fun c hc => ?_)
              simp only [List.mem_singleton] at hc
              subst hc
              refine ⟨_, rfl, ?_⟩
              refine wpl_store_agg (v := val3 u) rfl rfl (size3 _) (hs.ent (M := blk g16 (YtenipgddbpfidaaDoor.c3 V3.z).toArray 49 :: blk g12 (h2 (0, 1)).toArray 86 :: own (some ⟨gB, 0, none⟩) m cB 23 3 (cs3 ds) :: EnB E A1 R (EnS.mk 9 c1 l') :: blk g7 (YtenipgddbpfidaaDoor.c3 v).toArray 49 :: []) (by (repeat first | exact Ent.refl _ | refine Ent.step (by first | exact Ent.refl _ | exact Ent.skip (Ent.refl _) | exact Ent.skip (Ent.skip (Ent.refl _)) | exact Ent.skip (Ent.skip (Ent.skip (Ent.refl _))) | exact Ent.skip (Ent.skip (Ent.skip (Ent.skip (Ent.refl _)))) | exact Ent.skip (Ent.skip (Ent.skip (Ent.skip (Ent.skip (Ent.refl _))))) | exact Ent.skip (Ent.skip (Ent.skip (Ent.skip (Ent.skip (Ent.skip (Ent.refl _)))))) | exact Ent.skip (Ent.skip (Ent.skip (Ent.skip (Ent.skip (Ent.skip (Ent.skip (Ent.refl _))))))) | exact Ent.skip (Ent.skip (Ent.skip (Ent.skip (Ent.skip (Ent.skip (Ent.skip (Ent.skip (Ent.refl _)))))))) | exact Ent.skip (Ent.skip (Ent.skip (Ent.skip (Ent.skip (Ent.skip (Ent.skip (Ent.skip (Ent.skip (Ent.refl _)))))))))) ?_))) WrA.slot3 ?_
              clear hs
              intro w hs
              replace hs : St w0 (blk g12 (h2 (0, 1)).toArray 86 :: own (some ⟨gB, 0, none⟩) m cB 23 3 (cs3 ds) :: EnB E A1 R (EnS.mk 9 c1 l') :: blk g7 (YtenipgddbpfidaaDoor.c3 v).toArray 49 :: blk g16 (YtenipgddbpfidaaDoor.c3 u).toArray 49 :: []) w := hs.ent (by (repeat first | exact Ent.refl _ | refine Ent.step (by first | exact Ent.refl _ | exact Ent.skip (Ent.refl _) | exact Ent.skip (Ent.skip (Ent.refl _)) | exact Ent.skip (Ent.skip (Ent.skip (Ent.refl _))) | exact Ent.skip (Ent.skip (Ent.skip (Ent.skip (Ent.refl _)))) | exact Ent.skip (Ent.skip (Ent.skip (Ent.skip (Ent.skip (Ent.refl _))))) | exact Ent.skip (Ent.skip (Ent.skip (Ent.skip (Ent.skip (Ent.skip (Ent.refl _)))))) | exact Ent.skip (Ent.skip (Ent.skip (Ent.skip (Ent.skip (Ent.skip (Ent.skip (Ent.refl _))))))) | exact Ent.skip (Ent.skip (Ent.skip (Ent.skip (Ent.skip (Ent.skip (Ent.skip (Ent.skip (Ent.refl _)))))))) | exact Ent.skip (Ent.skip (Ent.skip (Ent.skip (Ent.skip (Ent.skip (Ent.skip (Ent.skip (Ent.skip (Ent.refl _)))))))))) ?_))
              refine wpList_nil ⟨rfl, ?_⟩
              refine mix_quiet [16, 17] [] hs.only2 (by kernel_rfl) (by kernel_rfl) fun hne => ?_
              simp only [opsAt, List.getElem?_toArray, List.getElem?_cons_succ, List.getElem?_cons_zero]
              try simp only [Act.put, List.setIfInBounds_toArray, List.set_cons_succ, List.set_cons_zero]
              repeat (go_big_quiet_step (fail))
              refine wpQuiet_nil ?_
              clear hne
              refine wpMix_end ?_
              go_wp2
              go_meet
              exact ⟨rfl, (hs.ent (M := blk g16 (YtenipgddbpfidaaDoor.c3 u).toArray 49 :: blk g12 (h2 (0, 1)).toArray 86 :: own (some ⟨gB, 0, none⟩) m cB 23 3 (cs3 ds) :: EnB E A1 R (EnS.mk 9 c1 l') :: blk g7 (YtenipgddbpfidaaDoor.c3 v).toArray 49 :: []) (by (repeat first | exact Ent.refl _ | refine Ent.step (by first | exact Ent.refl _ | exact Ent.skip (Ent.refl _) | exact Ent.skip (Ent.skip (Ent.refl _)) | exact Ent.skip (Ent.skip (Ent.skip (Ent.refl _))) | exact Ent.skip (Ent.skip (Ent.skip (Ent.skip (Ent.refl _)))) | exact Ent.skip (Ent.skip (Ent.skip (Ent.skip (Ent.skip (Ent.refl _))))) | exact Ent.skip (Ent.skip (Ent.skip (Ent.skip (Ent.skip (Ent.skip (Ent.refl _)))))) | exact Ent.skip (Ent.skip (Ent.skip (Ent.skip (Ent.skip (Ent.skip (Ent.skip (Ent.refl _))))))) | exact Ent.skip (Ent.skip (Ent.skip (Ent.skip (Ent.skip (Ent.skip (Ent.skip (Ent.skip (Ent.refl _)))))))) | exact Ent.skip (Ent.skip (Ent.skip (Ent.skip (Ent.skip (Ent.skip (Ent.skip (Ent.skip (Ent.skip (Ent.refl _)))))))))) ?_))).drop⟩
            · skip
              refine ⟨_, rfl, ?_⟩
              refine wpl_alloc zero3 hs ?_
              clear hs
              intro g16 w hs
              replace hs : St w0 (blk g16 (YtenipgddbpfidaaDoor.c3 V3.z).toArray 49 :: _) w := hs
              replace hs : St w0 (blk g12 (h2 (0, 1)).toArray 86 :: own (some ⟨gB, 0, none⟩) m cB 23 3 (cs3 ds) :: EnB E A1 R (EnS.mk 9 c1 l) :: blk g7 (YtenipgddbpfidaaDoor.c3 v).toArray 49 :: blk g16 (YtenipgddbpfidaaDoor.c3 V3.z).toArray 49 :: []) w := hs.ent (by (repeat first | exact Ent.refl _ | refine Ent.step (by first | exact Ent.refl _ | exact Ent.skip (Ent.refl _) | exact Ent.skip (Ent.skip (Ent.refl _)) | exact Ent.skip (Ent.skip (Ent.skip (Ent.refl _))) | exact Ent.skip (Ent.skip (Ent.skip (Ent.skip (Ent.refl _)))) | exact Ent.skip (Ent.skip (Ent.skip (Ent.skip (Ent.skip (Ent.refl _))))) | exact Ent.skip (Ent.skip (Ent.skip (Ent.skip (Ent.skip (Ent.skip (Ent.refl _)))))) | exact Ent.skip (Ent.skip (Ent.skip (Ent.skip (Ent.skip (Ent.skip (Ent.skip (Ent.refl _))))))) | exact Ent.skip (Ent.skip (Ent.skip (Ent.skip (Ent.skip (Ent.skip (Ent.skip (Ent.skip (Ent.refl _)))))))) | exact Ent.skip (Ent.skip (Ent.skip (Ent.skip (Ent.skip (Ent.skip (Ent.skip (Ent.skip (Ent.skip (Ent.refl _)))))))))) ?_))
              refine wpList_nil ⟨rfl, ?_⟩
              refine mix_quiet [] [9, 10, 11, 12, 13, 15, 16, 17] hs.only2 (by kernel_rfl) (by kernel_rfl) fun hne => ?_
              simp only [opsAt]
              refine wpQuiet_nil ?_
              clear hne
              refine wpMix_next [9] (by kernel_rfl) (by simp) (fun c hc => ?_)
              simp only [List.mem_singleton] at hc
              subst hc
              refine ⟨_, rfl, ?_⟩
              go_wp2_with (first
                | (go_at_call 39; refine (en_ins (h := (0, 1)) hs.up2 HEV.out HINS).mono ?_; clear hs; rintro r w ⟨rfl, hs⟩))
              replace hs : St w0 (blk g12 (h2 (0, 1)).toArray 86 :: own (some ⟨gB, 0, none⟩) m cB 23 3 (cs3 ds) :: EnB E A1 R (EnS.mk 9 c1 l') :: blk g7 (YtenipgddbpfidaaDoor.c3 v).toArray 49 :: blk g16 (YtenipgddbpfidaaDoor.c3 V3.z).toArray 49 :: []) w := hs.ent (by (repeat first | exact Ent.refl _ | refine Ent.step (by first | exact Ent.refl _ | exact Ent.skip (Ent.refl _) | exact Ent.skip (Ent.skip (Ent.refl _)) | exact Ent.skip (Ent.skip (Ent.skip (Ent.refl _))) | exact Ent.skip (Ent.skip (Ent.skip (Ent.skip (Ent.refl _)))) | exact Ent.skip (Ent.skip (Ent.skip (Ent.skip (Ent.skip (Ent.refl _))))) | exact Ent.skip (Ent.skip (Ent.skip (Ent.skip (Ent.skip (Ent.skip (Ent.refl _)))))) | exact Ent.skip (Ent.skip (Ent.skip (Ent.skip (Ent.skip (Ent.skip (Ent.skip (Ent.refl _))))))) | exact Ent.skip (Ent.skip (Ent.skip (Ent.skip (Ent.skip (Ent.skip (Ent.skip (Ent.skip (Ent.refl _)))))))) | exact Ent.skip (Ent.skip (Ent.skip (Ent.skip (Ent.skip (Ent.skip (Ent.skip (Ent.skip (Ent.skip (Ent.refl _)))))))))) ?_))
              refine mix_quiet [10, 11, 12, 13] [15, 16, 17] hs.only2 (by kernel_rfl) (by kernel_rfl) fun hne => ?_
              simp only [opsAt, List.getElem?_toArray, List.getElem?_cons_succ, List.getElem?_cons_zero]
              repeat (go_big_quiet_step (fail))
              refine wpQuiet_nil ?_
              clear hne
              refine wpMix_next [15] (by kernel_rfl) (by simp) (fun c hc => ?_)
              simp only [List.mem_singleton] at hc
              subst hc
              refine ⟨_, rfl, ?_⟩
              refine wpl_store_agg (v := val3 u) rfl rfl (size3 _) (hs.ent (M := blk g16 (YtenipgddbpfidaaDoor.c3 V3.z).toArray 49 :: blk g12 (h2 (0, 1)).toArray 86 :: own (some ⟨gB, 0, none⟩) m cB 23 3 (cs3 ds) :: EnB E A1 R (EnS.mk 9 c1 l') :: blk g7 (YtenipgddbpfidaaDoor.c3 v).toArray 49 :: []) (by (repeat first | exact Ent.refl _ | refine Ent.step (by first | exact Ent.refl _ | exact Ent.skip (Ent.refl _) | exact Ent.skip (Ent.skip (Ent.refl _)) | exact Ent.skip (Ent.skip (Ent.skip (Ent.refl _))) | exact Ent.skip (Ent.skip (Ent.skip (Ent.skip (Ent.refl _)))) | exact Ent.skip (Ent.skip (Ent.skip (Ent.skip (Ent.skip (Ent.refl _))))) | exact Ent.skip (Ent.skip (Ent.skip (Ent.skip (Ent.skip (Ent.skip (Ent.refl _)))))) | exact Ent.skip (Ent.skip (Ent.skip (Ent.skip (Ent.skip (Ent.skip (Ent.skip (Ent.refl _))))))) | exact Ent.skip (Ent.skip (Ent.skip (Ent.skip (Ent.skip (Ent.skip (Ent.skip (Ent.skip (Ent.refl _)))))))) | exact Ent.skip (Ent.skip (Ent.skip (Ent.skip (Ent.skip (Ent.skip (Ent.skip (Ent.skip (Ent.skip (Ent.refl _)))))))))) ?_))) WrA.slot3 ?_
              clear hs
              intro w hs
              replace hs : St w0 (blk g12 (h2 (0, 1)).toArray 86 :: own (some ⟨gB, 0, none⟩) m cB 23 3 (cs3 ds) :: EnB E A1 R (EnS.mk 9 c1 l') :: blk g7 (YtenipgddbpfidaaDoor.c3 v).toArray 49 :: blk g16 (YtenipgddbpfidaaDoor.c3 u).toArray 49 :: []) w := hs.ent (by (repeat first | exact Ent.refl _ | refine Ent.step (by first | exact Ent.refl _ | exact Ent.skip (Ent.refl _) | exact Ent.skip (Ent.skip (Ent.refl _)) | exact Ent.skip (Ent.skip (Ent.skip (Ent.refl _))) | exact Ent.skip (Ent.skip (Ent.skip (Ent.skip (Ent.refl _)))) | exact Ent.skip (Ent.skip (Ent.skip (Ent.skip (Ent.skip (Ent.refl _))))) | exact Ent.skip (Ent.skip (Ent.skip (Ent.skip (Ent.skip (Ent.skip (Ent.refl _)))))) | exact Ent.skip (Ent.skip (Ent.skip (Ent.skip (Ent.skip (Ent.skip (Ent.skip (Ent.refl _))))))) | exact Ent.skip (Ent.skip (Ent.skip (Ent.skip (Ent.skip (Ent.skip (Ent.skip (Ent.skip (Ent.refl _)))))))) | exact Ent.skip (Ent.skip (Ent.skip (Ent.skip (Ent.skip (Ent.skip (Ent.skip (Ent.skip (Ent.skip (Ent.refl _)))))))))) ?_))
              refine wpList_nil ⟨rfl, ?_⟩
              refine mix_quiet [16, 17] [] hs.only2 (by kernel_rfl) (by kernel_rfl) fun hne => ?_
              simp only [opsAt, List.getElem?_toArray, List.getElem?_cons_succ, List.getElem?_cons_zero]
              try simp only [Act.put, List.setIfInBounds_toArray, List.set_cons_succ, List.set_cons_zero]
              repeat (go_big_quiet_step (fail))
              refine wpQuiet_nil ?_
              clear hne
              refine wpMix_end ?_
              go_wp2
              go_meet
              exact ⟨rfl, (hs.ent (M := blk g16 (YtenipgddbpfidaaDoor.c3 u).toArray 49 :: blk g12 (h2 (0, 1)).toArray 86 :: own (some ⟨gB, 0, none⟩) m cB 23 3 (cs3 ds) :: EnB E A1 R (EnS.mk 9 c1 l') :: blk g7 (YtenipgddbpfidaaDoor.c3 v).toArray 49 :: []) (by (repeat first | exact Ent.refl _ | refine Ent.step (by first | exact Ent.refl _ | exact Ent.skip (Ent.refl _) | exact Ent.skip (Ent.skip (Ent.refl _)) | exact Ent.skip (Ent.skip (Ent.skip (Ent.refl _))) | exact Ent.skip (Ent.skip (Ent.skip (Ent.skip (Ent.refl _)))) | exact Ent.skip (Ent.skip (Ent.skip (Ent.skip (Ent.skip (Ent.refl _))))) | exact Ent.skip (Ent.skip (Ent.skip (Ent.skip (Ent.skip (Ent.skip (Ent.refl _)))))) | exact Ent.skip (Ent.skip (Ent.skip (Ent.skip (Ent.skip (Ent.skip (Ent.skip (Ent.refl _))))))) | exact Ent.skip (Ent.skip (Ent.skip (Ent.skip (Ent.skip (Ent.skip (Ent.skip (Ent.skip (Ent.refl _)))))))) | exact Ent.skip (Ent.skip (Ent.skip (Ent.skip (Ent.skip (Ent.skip (Ent.skip (Ent.skip (Ent.skip (Ent.refl _)))))))))) ?_))).drop⟩
          · skip
            refine ⟨_, rfl, ?_⟩
            refine wpl_alloc zero3 hs ?_
            clear hs
            intro g16 w hs
            replace hs : St w0 (blk g16 (YtenipgddbpfidaaDoor.c3 V3.z).toArray 49 :: _) w := hs
            replace hs : St w0 (blk g12 (h2 (0, 1)).toArray 86 :: own (some ⟨gB, 0, none⟩) m cB 23 3 (cs3 ds) :: EnB E A1 R (EnS.mk 9 c1 l) :: blk g7 (YtenipgddbpfidaaDoor.c3 v).toArray 49 :: blk g16 (YtenipgddbpfidaaDoor.c3 V3.z).toArray 49 :: []) w := hs.ent (by (repeat first | exact Ent.refl _ | refine Ent.step (by first | exact Ent.refl _ | exact Ent.skip (Ent.refl _) | exact Ent.skip (Ent.skip (Ent.refl _)) | exact Ent.skip (Ent.skip (Ent.skip (Ent.refl _))) | exact Ent.skip (Ent.skip (Ent.skip (Ent.skip (Ent.refl _)))) | exact Ent.skip (Ent.skip (Ent.skip (Ent.skip (Ent.skip (Ent.refl _))))) | exact Ent.skip (Ent.skip (Ent.skip (Ent.skip (Ent.skip (Ent.skip (Ent.refl _)))))) | exact Ent.skip (Ent.skip (Ent.skip (Ent.skip (Ent.skip (Ent.skip (Ent.skip (Ent.refl _))))))) | exact Ent.skip (Ent.skip (Ent.skip (Ent.skip (Ent.skip (Ent.skip (Ent.skip (Ent.skip (Ent.refl _)))))))) | exact Ent.skip (Ent.skip (Ent.skip (Ent.skip (Ent.skip (Ent.skip (Ent.skip (Ent.skip (Ent.skip (Ent.refl _)))))))))) ?_))
            refine wpList_nil ⟨rfl, ?_⟩
            refine mix_quiet [] [8, 9, 10, 11, 12, 13, 15, 16, 17] hs.only2 (by kernel_rfl) (by kernel_rfl) fun hne => ?_
            simp only [opsAt]
            refine wpQuiet_nil ?_
            clear hne
            refine wpMix_next [8] (by kernel_rfl) (by simp) (fun c hc => ?_)
            simp only [List.mem_singleton] at hc
            subst hc
            refine ⟨_, rfl, ?_⟩
            go_wp2_with (first
              | (go_at_call 19; refine (lvalue_c _ _ _ HV).mono ?_; rintro r w ⟨rfl, hg⟩; replace hs := hs.grew hg; clear hg))
            refine mix_quiet [] [9, 10, 11, 12, 13, 15, 16, 17] hs.only2 (by kernel_rfl) (by kernel_rfl) fun hne => ?_
            simp only [opsAt]
            refine wpQuiet_nil ?_
            clear hne
            refine wpMix_next [9] (by kernel_rfl) (by simp) (fun c hc => ?_)
            simp only [List.mem_singleton] at hc
            subst hc
            refine ⟨_, rfl, ?_⟩
            go_wp2_with (first
              | (go_at_call 39; refine (en_ins (h := (0, 1)) hs.up2 HEV.out HINS).mono ?_; clear hs; rintro r w ⟨rfl, hs⟩))
            replace hs : St w0 (blk g12 (h2 (0, 1)).toArray 86 :: own (some ⟨gB, 0, none⟩) m cB 23 3 (cs3 ds) :: EnB E A1 R (EnS.mk 9 c1 l') :: blk g7 (YtenipgddbpfidaaDoor.c3 v).toArray 49 :: blk g16 (YtenipgddbpfidaaDoor.c3 V3.z).toArray 49 :: []) w := hs.ent (by (repeat first | exact Ent.refl _ | refine Ent.step (by first | exact Ent.refl _ | exact Ent.skip (Ent.refl _) | exact Ent.skip (Ent.skip (Ent.refl _)) | exact Ent.skip (Ent.skip (Ent.skip (Ent.refl _))) | exact Ent.skip (Ent.skip (Ent.skip (Ent.skip (Ent.refl _)))) | exact Ent.skip (Ent.skip (Ent.skip (Ent.skip (Ent.skip (Ent.refl _))))) | exact Ent.skip (Ent.skip (Ent.skip (Ent.skip (Ent.skip (Ent.skip (Ent.refl _)))))) | exact Ent.skip (Ent.skip (Ent.skip (Ent.skip (Ent.skip (Ent.skip (Ent.skip (Ent.refl _))))))) | exact Ent.skip (Ent.skip (Ent.skip (Ent.skip (Ent.skip (Ent.skip (Ent.skip (Ent.skip (Ent.refl _)))))))) | exact Ent.skip (Ent.skip (Ent.skip (Ent.skip (Ent.skip (Ent.skip (Ent.skip (Ent.skip (Ent.skip (Ent.refl _)))))))))) ?_))
            refine mix_quiet [10, 11, 12, 13] [15, 16, 17] hs.only2 (by kernel_rfl) (by kernel_rfl) fun hne => ?_
            simp only [opsAt, List.getElem?_toArray, List.getElem?_cons_succ, List.getElem?_cons_zero]
            repeat (go_big_quiet_step (fail))
            refine wpQuiet_nil ?_
            clear hne
            refine wpMix_next [15] (by kernel_rfl) (by simp) (fun c hc => ?_)
            simp only [List.mem_singleton] at hc
            subst hc
            refine ⟨_, rfl, ?_⟩
            refine wpl_store_agg (v := val3 u) rfl rfl (size3 _) (hs.ent (M := blk g16 (YtenipgddbpfidaaDoor.c3 V3.z).toArray 49 :: blk g12 (h2 (0, 1)).toArray 86 :: own (some ⟨gB, 0, none⟩) m cB 23 3 (cs3 ds) :: EnB E A1 R (EnS.mk 9 c1 l') :: blk g7 (YtenipgddbpfidaaDoor.c3 v).toArray 49 :: []) (by (repeat first | exact Ent.refl _ | refine Ent.step (by first | exact Ent.refl _ | exact Ent.skip (Ent.refl _) | exact Ent.skip (Ent.skip (Ent.refl _)) | exact Ent.skip (Ent.skip (Ent.skip (Ent.refl _))) | exact Ent.skip (Ent.skip (Ent.skip (Ent.skip (Ent.refl _)))) | exact Ent.skip (Ent.skip (Ent.skip (Ent.skip (Ent.skip (Ent.refl _))))) | exact Ent.skip (Ent.skip (Ent.skip (Ent.skip (Ent.skip (Ent.skip (Ent.refl _)))))) | exact Ent.skip (Ent.skip (Ent.skip (Ent.skip (Ent.skip (Ent.skip (Ent.skip (Ent.refl _))))))) | exact Ent.skip (Ent.skip (Ent.skip (Ent.skip (Ent.skip (Ent.skip (Ent.skip (Ent.skip (Ent.refl _)))))))) | exact Ent.skip (Ent.skip (Ent.skip (Ent.skip (Ent.skip (Ent.skip (Ent.skip (Ent.skip (Ent.skip (Ent.refl _)))))))))) ?_))) WrA.slot3 ?_
            clear hs
            intro w hs
            replace hs : St w0 (blk g12 (h2 (0, 1)).toArray 86 :: own (some ⟨gB, 0, none⟩) m cB 23 3 (cs3 ds) :: EnB E A1 R (EnS.mk 9 c1 l') :: blk g7 (YtenipgddbpfidaaDoor.c3 v).toArray 49 :: blk g16 (YtenipgddbpfidaaDoor.c3 u).toArray 49 :: []) w := hs.ent (by (repeat first | exact Ent.refl _ | refine Ent.step (by first | exact Ent.refl _ | exact Ent.skip (Ent.refl _) | exact Ent.skip (Ent.skip (Ent.refl _)) | exact Ent.skip (Ent.skip (Ent.skip (Ent.refl _))) | exact Ent.skip (Ent.skip (Ent.skip (Ent.skip (Ent.refl _)))) | exact Ent.skip (Ent.skip (Ent.skip (Ent.skip (Ent.skip (Ent.refl _))))) | exact Ent.skip (Ent.skip (Ent.skip (Ent.skip (Ent.skip (Ent.skip (Ent.refl _)))))) | exact Ent.skip (Ent.skip (Ent.skip (Ent.skip (Ent.skip (Ent.skip (Ent.skip (Ent.refl _))))))) | exact Ent.skip (Ent.skip (Ent.skip (Ent.skip (Ent.skip (Ent.skip (Ent.skip (Ent.skip (Ent.refl _)))))))) | exact Ent.skip (Ent.skip (Ent.skip (Ent.skip (Ent.skip (Ent.skip (Ent.skip (Ent.skip (Ent.skip (Ent.refl _)))))))))) ?_))
            refine wpList_nil ⟨rfl, ?_⟩
            refine mix_quiet [16, 17] [] hs.only2 (by kernel_rfl) (by kernel_rfl) fun hne => ?_
            simp only [opsAt, List.getElem?_toArray, List.getElem?_cons_succ, List.getElem?_cons_zero]
            try simp only [Act.put, List.setIfInBounds_toArray, List.set_cons_succ, List.set_cons_zero]
            repeat (go_big_quiet_step (fail))
            refine wpQuiet_nil ?_
            clear hne
            refine wpMix_end ?_
            go_wp2
            go_meet
            exact ⟨rfl, (hs.ent (M := blk g16 (YtenipgddbpfidaaDoor.c3 u).toArray 49 :: blk g12 (h2 (0, 1)).toArray 86 :: own (some ⟨gB, 0, none⟩) m cB 23 3 (cs3 ds) :: EnB E A1 R (EnS.mk 9 c1 l') :: blk g7 (YtenipgddbpfidaaDoor.c3 v).toArray 49 :: []) (by (repeat first | exact Ent.refl _ | refine Ent.step (by first | exact Ent.refl _ | exact Ent.skip (Ent.refl _) | exact Ent.skip (Ent.skip (Ent.refl _)) | exact Ent.skip (Ent.skip (Ent.skip (Ent.refl _))) | exact Ent.skip (Ent.skip (Ent.skip (Ent.skip (Ent.refl _)))) | exact Ent.skip (Ent.skip (Ent.skip (Ent.skip (Ent.skip (Ent.refl _))))) | exact Ent.skip (Ent.skip (Ent.skip (Ent.skip (Ent.skip (Ent.skip (Ent.refl _)))))) | exact Ent.skip (Ent.skip (Ent.skip (Ent.skip (Ent.skip (Ent.skip (Ent.skip (Ent.refl _))))))) | exact Ent.skip (Ent.skip (Ent.skip (Ent.skip (Ent.skip (Ent.skip (Ent.skip (Ent.skip (Ent.refl _)))))))) | exact Ent.skip (Ent.skip (Ent.skip (Ent.skip (Ent.skip (Ent.skip (Ent.skip (Ent.skip (Ent.skip (Ent.refl _)))))))))) ?_))).drop⟩
        case rest =>
        clear hs hkind
        obtain ⟨rfl, hs⟩ := hcut
        go_wp2
        go_roundw
        case rel => exact ⟨k + 1, n + 1, l', by omega, by omega, by first | rfl | go_num, by first | rfl | go_num, HN', HP', hs⟩
        case measure => simp [intOf] <;> omega
      · have d1 : bits .and .u64 (wi / 2 ^ k) 1 = 0 := by rw [hbit]; omega
        have HN' : Hid ((ofN l 0 (k + 1)).length = n) := by rw [Hid, HP.out.ofN_skip, HN.out]
        have HP' : Hid (PtI ds l (k + 1)) := HP.out.skip
        clear hb hbit HN HP
        go_wp2
        go_roundw
        case rel => exact ⟨k + 1, n, l, by omega, by omega, by first | rfl | go_num, by first | rfl | go_num, HN', HP', hs⟩
        case measure => simp [intOf] <;> omega
    · obtain rfl : k = m := by omega
      have hlk : l.length = k := by rw [HP.out.len, hm.out]
      have HDEL : Hid ((EnS.mk 9 c1 l).del (0, 1) = (((n : Nat) : Int), 0, EnS.mk 9 c3 (strL l 0))) := by rw [Hid, HK.out.del, hlk, HN.out]
      have HEV : Hid (∀ x ∈ (EnS.mk 9 c1 l).l, x.2.evs.length < 4611686018427387904) := HP.out.ev.lt (by omega)
      obtain ⟨l2, HL2⟩ : ∃ z, Hid (strL l 0 = z) := ⟨_, rfl⟩
      have HEV2 : Hid (∀ x ∈ (EnS.mk 9 c4 l2).l, x.2.evs.length < 4611686018427387904) := by rw [Hid, ← HL2.out]; exact (HP.out.ev.strip 0).lt (by omega)
      have HPT : Hid ((EnS.mk 9 c4 l2).parts (0, 2) = ([], 0)) := by
        rw [Hid, EnS.parts_in (HK.out.live2 l2)]
        show (ofN l2 0 _, _) = _
        rw [← HL2.out, ofN_strL_same]
      rw [HL2.out] at HDEL
      obtain ⟨s4, HS4⟩ : ∃ z, Hid (EnS.mk 9 c4 l2 = z) := ⟨_, rfl⟩
      have HST : Hid (FrS s4) := by rw [Hid, ← HS4.out]; exact frS (HK.out.stale l2)
      clear HP HN HL2 hlk hlt
      replace hs : St w0 [EnB E A1 R (EnS.mk 9 c1 l), blk g12 (h2 (0, 1)).toArray 86, own B k cB 23 3 (cs3 ds), blk g7 (YtenipgddbpfidaaDoor.c3 v).toArray 49] _ := hs.ent (by (repeat first | exact Ent.refl _ | refine Ent.step (by first | exact Ent.refl _ | exact Ent.skip (Ent.refl _) | exact Ent.skip (Ent.skip (Ent.refl _)) | exact Ent.skip (Ent.skip (Ent.skip (Ent.refl _))) | exact Ent.skip (Ent.skip (Ent.skip (Ent.skip (Ent.refl _)))) | exact Ent.skip (Ent.skip (Ent.skip (Ent.skip (Ent.skip (Ent.refl _))))) | exact Ent.skip (Ent.skip (Ent.skip (Ent.skip (Ent.skip (Ent.skip (Ent.refl _)))))) | exact Ent.skip (Ent.skip (Ent.skip (Ent.skip (Ent.skip (Ent.skip (Ent.skip (Ent.refl _))))))) | exact Ent.skip (Ent.skip (Ent.skip (Ent.skip (Ent.skip (Ent.skip (Ent.skip (Ent.skip (Ent.refl _)))))))) | exact Ent.skip (Ent.skip (Ent.skip (Ent.skip (Ent.skip (Ent.skip (Ent.skip (Ent.skip (Ent.skip (Ent.refl _)))))))))) ?_))
      go_upto_region 16 with (first
        | (refine wpl_load_agg (cs := h2 (0, 1)) (b := g12) (o := 0) rfl aggH (sizeHd _) hs ?hh ?_; case hh => exact fun j x hx => (Rd.blk (by simpa using hx)).tail)
        | (go_at_call 42; refine (en_del (h := (0, 1)) hs HEV.out HDEL).mono ?_; clear hs; rintro r w ⟨rfl, hs⟩))
      have k0 := Rd.en0 _ hs
      go_upto_region 17 with (first
        | (go_at_call 35; refine (en_create (s := EnS.mk 9 c3 l2) hT hs (Lib.hid HK.out.cr2)).mono ?_; clear hs k0; rintro r w ⟨rfl, hs⟩)
        | (refine wpl_alloc zeroH hs ?_; clear hs; intro g21 w hs)
        | (refine wpl_store_agg (v := hv (0, 2)) rfl rfl (by rw [sizeHd]; rfl) hs WrA.slotH ?_; clear hs; intro w hs))
      have HEV4 : Hid (∀ x ∈ s4.l, x.2.evs.length < 4611686018427387904) := by rw [Hid, ← HS4.out]; exact HEV2.out
      have HPT4 : Hid (s4.parts (0, 2) = ([], 0)) := by rw [Hid, ← HS4.out]; exact HPT.out
      replace hs : St w0 [EnB E A1 R s4, blk g12 (h2 (0, 1)).toArray 86, blk g21 (h2 (0, 2)).toArray 86, blk g7 (YtenipgddbpfidaaDoor.c3 v).toArray 49] w := by
        rw [← HS4.out]
        exact (hs.ent (M := own B k cB 23 3 (cs3 ds) :: EnB E A1 R (EnS.mk 9 c4 l2) :: blk g12 (h2 (0, 1)).toArray 86 :: blk g21 (h2 (0, 2)).toArray 86 :: [blk g7 (YtenipgddbpfidaaDoor.c3 v).toArray 49]) (by (repeat first | exact Ent.refl _ | refine Ent.step (by first | exact Ent.refl _ | exact Ent.skip (Ent.refl _) | exact Ent.skip (Ent.skip (Ent.refl _)) | exact Ent.skip (Ent.skip (Ent.skip (Ent.refl _))) | exact Ent.skip (Ent.skip (Ent.skip (Ent.skip (Ent.refl _)))) | exact Ent.skip (Ent.skip (Ent.skip (Ent.skip (Ent.skip (Ent.refl _))))) | exact Ent.skip (Ent.skip (Ent.skip (Ent.skip (Ent.skip (Ent.skip (Ent.refl _)))))) | exact Ent.skip (Ent.skip (Ent.skip (Ent.skip (Ent.skip (Ent.skip (Ent.skip (Ent.refl _))))))) | exact Ent.skip (Ent.skip (Ent.skip (Ent.skip (Ent.skip (Ent.skip (Ent.skip (Ent.skip (Ent.refl _)))))))) | exact Ent.skip (Ent.skip (Ent.skip (Ent.skip (Ent.skip (Ent.skip (Ent.skip (Ent.skip (Ent.skip (Ent.refl _)))))))))) ?_))).drop
      clear HDEL HEV HEV2 HPT HS4 HK
      have r0 : World.cell? _ ⟨g12, 0, none⟩ = some (.int .i64 0) := Rd.blk (by rfl) _ hs.drop
      have r1 : World.cell? _ ⟨g12, 1, none⟩ = some (.int .i64 1) := Rd.blk (by rfl) _ hs.drop
      have r2 : World.cell? _ ⟨g21, 0, none⟩ = some (.int .i64 0) := Rd.blk (by rfl) _ hs.drop.drop
      have r3 : World.cell? _ ⟨g21, 1, none⟩ = some (.int .i64 2) := Rd.blk (by rfl) _ hs.drop.drop
      go_upto_region 19 with (fail)
      clear r0 r1 r2 r3
      go_upto_region 20 with (first
        | (refine wpl_load_agg (cs := h2 (0, 2)) (b := g21) (o := 0) rfl aggH (sizeHd _) hs ?hh ?_; case hh => exact fun j x hx => (Rd.blk (by simpa using hx)).tail.tail)
        | (go_at_call 41; refine (en_parts (h := (0, 2)) hs HPT4).mono ?_; clear hs; rintro r w ⟨B2, m2, cB2, hm2, rfl, hs⟩; replace hs := hs.drop))
      obtain rfl : m2 = 0 := hm2.out.symm
      go_upto_region 21 with (first
        | (refine wpl_load_agg (cs := h2 (0, 1)) (b := g12) (o := 0) rfl aggH (sizeHd _) hs ?hh ?_; case hh => exact fun j x hx => (Rd.blk (by simpa using hx)).tail)
        | (go_at_call 44; refine (en_get (h := (0, 1)) hs (Lib.hid (HST.out.get _))).mono ?_; clear hs; rintro r w ⟨rfl, hs⟩)
        | (refine wpl_alloc zero3 hs ?_; clear hs; intro g25 w hs)
        | (refine wpl_store_agg (v := val3 V3.z) rfl rfl (size3 _) hs WrA.slot3 ?_; clear hs; intro w hs; replace hs := hs.drop))
      go_upto_region 22 with (first
        | (refine wpl_load_agg (cs := h2 (0, 1)) (b := g12) (o := 0) rfl aggH (sizeHd _) hs ?hh ?_; case hh => exact fun j x hx => (Rd.blk (by simpa using hx)).tail)
        | (go_at_call 36; refine (en_rem (h := (0, 1)) hs HEV4.out (Lib.hid (HST.out.rem _))).mono ?_; clear hs; rintro r w ⟨rfl, hs⟩)
        | (refine wpl_alloc zero3 hs ?_; clear hs; intro g27 w hs)
        | (refine wpl_store_agg (v := val3 V3.z) rfl rfl (size3 _) hs WrA.slot3 ?_; clear hs; intro w hs; replace hs := hs.drop))
      go_upto_region 23 with (first
        | (refine wpl_load_agg (cs := h2 (0, 1)) (b := g12) (o := 0) rfl aggH (sizeHd _) hs ?hh ?_; case hh => exact fun j x hx => (Rd.blk (by simpa using hx)).tail)
        | (refine wpl_load3 (v := v) (g := g7) rfl (has3_tail (has3_tail (has3_tail (has3_slot (t := 49))))) agg3 size3n hs ?_)
        | (go_at_call 39; refine (en_ins (h := (0, 1)) hs HEV4.out (Lib.hid (HST.out.ins _ _))).mono ?_; clear hs; rintro r w ⟨rfl, hs⟩)
        | (refine wpl_alloc zero3 hs ?_; clear hs; intro g29 w hs)
        | (refine wpl_store_agg (v := val3 V3.z) rfl rfl (size3 _) hs WrA.slot3 ?_; clear hs; intro w hs; replace hs := hs.drop))
      go_upto_region 25 with (first
        | (refine wpl_load_agg (cs := h2 (0, 1)) (b := g12) (o := 0) rfl aggH (sizeHd _) hs ?hh ?_; case hh => exact fun j x hx => (Rd.blk (by simpa using hx)).tail)
        | (go_at_call 42; refine (en_del (h := (0, 1)) hs HEV4.out (Lib.hid HST.out.del)).mono ?_; clear hs; rintro r w ⟨rfl, hs⟩)
        | (go_at_call 41; refine (en_parts (h := (0, 1)) hs (Lib.hid HST.out.parts)).mono ?_; clear hs; rintro r w ⟨B3, m3, cB3, hm3, rfl, hs⟩; replace hs := hs.drop))
      have r0 : World.cell? _ ⟨g12, 0, none⟩ = some (.int .i64 0) := Rd.blk (by rfl) _ hs.drop
      have r1 : World.cell? _ ⟨g12, 1, none⟩ = some (.int .i64 1) := Rd.blk (by rfl) _ hs.drop
      obtain ⟨q0, q1, q2⟩ := Has3.facts (has3_tail (has3_tail (has3_tail (has3_slot (g := g7) (v := v) (t := 49))))) hs
      go_wp2_with (first
        | (go_at_call 45; refine (en_set (h := (0, 1)) (v := v) hs HEV4.out (Lib.hid (HST.out.set _ _))).mono ?_; clear hs r0 r1 q0 q1 q2; rintro r w ⟨rfl, hs⟩)
        | (go_at_call 31; refine (awake15 (hT.grew hs.below)).mono ?_; rintro r w ⟨rfl, hg⟩; replace hs := hs.grew hg; clear hg))
      go_ret
      exact ⟨rfl, hs.drop.drop.drop.drop⟩
end Go.Proofs.YtenipgddbpfidaaDoor
