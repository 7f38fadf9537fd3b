/-
  TopBounds: the walk.
-/
import Derived.Test.YtcnbmfaicbkhcaaGreatDoorTbL
import Derived.Test.YtcnbmfaicbkhcaaGreatDoorJG
set_option maxRecDepth 100000
namespace Go.Proofs.YtcnbmfaicbkhcaaGreatDoor
open Go Go.RowKit
attribute [local irreducible] wpList Calls Code.wp newA cs3 errDs
/-- New refused: nil and the error. -/
theorem wo_new_er {w0 w : World} {L : List As} (hs : St w0 L w) {n top : Int} {A : Option Addr} {m cA : Nat} {ds : List V3} (hm : Hid (ds.length = m)) (hmb : m ≤ 140737488355328) (hr : RdS w0 L A (cs3 ds)) {e : Int} (he : Hid (newErr n top ds = e)) (h0 : Hid (e ≠ 0)) {B : Option Addr} {k cB : Nat} :
    Calls Tryz.prog 33 #[.agg (cfC n top A m cA B k cB).toArray] w fun r w' => r = .returned (.tuple #[.pointer none, .int .i64 e]) ∧ St w0 L w' := by
  have e5 : (e == 0) = false := by simpa using h0.out
  have e6 : (e != 0) = true := by simpa using h0.out
  go_enter Tryz.func33, Tryz.ntmps33
  go_upto_region 1 with (first
    | (refine wpl_box_v (v := .agg (cfC n top A m cA B k cB).toArray) rfl hs ?_; clear hs; intro g1 w hs; replace hs : St w0 (blk g1 (cfC n top A m cA B k cB).toArray 27 :: L) w := hs))
  have c0 : World.cell? _ ⟨g1, 0, none⟩ = some (.int .i64 n) := Rd.blk (by rfl) _ hs
  have c1 : World.cell? _ ⟨g1, 1, none⟩ = some (.int .i64 top) := Rd.blk (by rfl) _ hs
  have c2 : World.cell? _ ⟨g1, 2, none⟩ = some (.slice A m cA) := Rd.blk (by rfl) _ hs
  go_wp2_with (first
    | (go_at_call 94; refine (en_new_ge hs hm hmb hr.tail he h0).mono ?_; clear hs c0 c1 c2; rintro r w ⟨rfl, hs⟩))
  go_ret2
  exact ⟨rfl, hs.drop⟩
theorem and_7b (z : Int) : ∃ r : Nat, r ≤ 7 ∧ bits .and .i64 z 7 = (r : Int) := by
  refine ⟨(z % 8).toNat, by omega, ?_⟩
  show IntKind.i64.wrap ((BitVec.ofInt 64 z &&& BitVec.ofInt 64 7).toNat : Int) = _
  rw [BitVec.toNat_and, show (BitVec.ofInt 64 7).toNat = 2 ^ 3 - 1 by decide, Nat.and_two_pow_sub_one_eq_mod, BitVec.toNat_ofInt, IntKind.wrap_i64]
  omega
theorem build_d3 (w : World) : (Instr.buildSlice 24 3 #[(0, val3 ⟨1, 1, 0⟩), (1, val3 ⟨2, 1, 0⟩), (2, val3 ⟨3, 1, 0⟩)]).run Tryz.prog w = .ok (.slice (some ⟨w.heap.size, 0, none⟩) 3 3) (w.alloc (.cells (cs3 (tbD 1 1 1)).toArray 120)) := by kernel_rfl
theorem build_c3 (w : World) : (Instr.buildSlice 67 3 #[(0, .agg (c2c ⟨1, 0⟩).toArray), (1, .agg (c2c ⟨1, 1⟩).toArray), (2, .agg (c2c ⟨1, 2⟩).toArray)]).run Tryz.prog w = .ok (.slice (some ⟨w.heap.size, 0, none⟩) 3 3) (w.alloc (.cells (tbPl.flatMap c2c).toArray 132)) := by kernel_rfl
theorem tbD_len (a b c : Int) : (tbD a b c).length = 3 := rfl
theorem newErr_big : newErr 65537 2 [] = 1 := by decide
attribute [local irreducible] tbK tbS tbD WoS.create WoS.ins WoS.del WoS.rowsE mkV
set_option maxHeartbeats 8000000 in
theorem topbounds_c {w0 : World} (hT : Tab w0) (z : Int) {va : Value} {zs : List Int} (hva : IntArg w0 va zs) :
    Calls Tryz.prog 6 #[.int .i64 z, va] w0 (LawPost w0) := by
  obtain ⟨r, hr7, hr⟩ := and_7b z
  obtain ⟨n, hn⟩ : ∃ n : Nat, n = 65536 - r := ⟨_, rfl⟩
  have hnr : (65536 : Int) - (r : Int) = (n : Int) := by omega
  have hn1 : 65529 ≤ n := by omega
  have hn2 : n ≤ 65536 := by omega
  have hs := St.start w0
  have HT := Lib.hid hT
  clear hT hn
  obtain ⟨C, q, cC, rfl, hq0, hqc, hcm, hrz, -⟩ := hva
  have HQ := Lib.hid hq0
  have HRZ := Lib.hid hrz
  obtain ⟨a, b, c, ht, hab⟩ := tb_turn zs (min q 3) (by omega) (by rw [hq0]; omega)
  have HTU := Lib.hid ht
  have HDO := Lib.hid (tbD_ok hab)
  have hqm : q ≤ 9223372036854775807 := by unfold maxLen at hcm; omega
  clear ht hab hq0 hrz
  go_enter Tryz.func6, Tryz.ntmps6
  go_upto_region 4 with (first
    | (refine wpl_buildRun build_d3 rfl hs ?_; clear hs; intro gd w1 hs; replace hs : St w0 [blk gd (cs3 (tbD 1 1 1)).toArray 120] w1 := hs)
    | (refine wpl_alloc zeroCf hs ?_; clear hs; intro g5 w1 hs; replace hs : St w0 [blk g5 (cfC 0 0 none 0 0 none 0 0).toArray 27, blk gd (cs3 (tbD 1 1 1)).toArray 120] w1 := hs)
    | (refine wpl_store_agg (v := .agg (cfC (n : Nat) 2 (some ⟨gd, 0, none⟩) 3 3 none 0 0).toArray) rfl rfl (sizeCfv _ _ _ _ _ _ _ _) hs WrA.slotCf ?_; clear hs; intro w1 hs)
    | (go_at_call 33; refine (wo_new_er (ds := []) (m := 0) hs (Lib.hid rfl) (by decide) (by rw [cs3_nil]; exact RdS.nil) (Lib.hid newErr_big) (Lib.hid (show (1 : Int) ≠ 0 by decide))).mono ?_; clear hs; rintro r w ⟨rfl, hs⟩))
  go_upto_region 5 with (first
    | (refine wpl_load_agg (cs := cfC (n : Nat) 2 (some ⟨gd, 0, none⟩) 3 3 none 0 0) (b := g5) (o := 0) rfl aggCf (sizeCf _ _ _ _ _ _ _ _) hs (fun j u hu => by rw [Nat.zero_add]; exact Rd.blk (by simpa using hu)) ?_)
    | (go_at_call 34; refine (turn_c (A := some ⟨gd, 0, none⟩) (B := none) (cB := 0) (ds := tbD 1 1 1) (m := 3) (rs := []) (k2 := 0) hs (fun h => nomatch h) (Lib.hid (tbD_len _ _ _)) (by decide) (RdS.blk.tail) (fun _ => ⟨rfl, rfl⟩) (Lib.hid rfl) (by decide) RdS.nil HQ hqm hqc (HRZ.out.any _) HTU).mono ?_; clear hs; rintro r w ⟨A2, cA2, B2, cB2, rfl, hs⟩)
    | (go_at_call 33; refine (wo_new (ds := tbD a b c) (m := 3) (rs := []) (k := 0) hs (by omega) hn2 (by decide) (by decide) (Lib.hid (tbD_len _ _ _)) (by decide) (RdS.own hs) HDO (hs.rot.own_none) (Lib.hid rfl) (by decide) (Nat.zero_le _) RdS.nil).mono ?_; clear hs; rintro r w ⟨W, E, A1, R, X, Q, l, HNL, rfl, hs⟩))
  obtain ⟨y, hy⟩ := tb_new HNL.out
  replace hs : St w0 [WoB W E A1 R X Q n (tbS (newA n) (tbK y 0))] w := by
    subst hy
    unfold tbS
    exact hs.only
  clear hy HNL HDO HTU HRZ
  by_cases h50 : q > 50
  · have d50 : decide ((q : Int) > 50) = true := decide_eq_true (by omega)
    clear h50
    go_wp2_with (first
      | (go_at_call 9; refine (topawake (HT.out.st hs)).mono ?_; rintro r w' ⟨rfl, hg⟩; replace hs := hs.grew hg; clear hg))
    go_ret
    exact ⟨rfl, hs.nothing⟩
  have d50 : decide ((q : Int) > 50) = false := decide_eq_false (by omega)
  clear h50
  go_upto_region 9 with (first
    | (refine wpl_alloc zeroH hs ?_; clear hs; intro g10 w1 hs; replace hs : St w0 [blk g10 (h2 (0, 0)).toArray 39, WoB W E A1 R X Q n (tbS (newA n) (tbK y 0))] w1 := hs))
  go_loopw [9, 11] (fun ev iv wr => ∃ (k : Nat) (cs : List ACell) (hd : Hdl), k ≤ 70 ∧ Hid (TbC n k cs) ∧ Hid (k = 70 → hd = (69, 1)) ∧ ev = .int .i64 0 ∧ iv = .int .i64 (k : Nat) ∧ St w0 [blk g10 (h2 hd).toArray 39, WoB W E A1 R X Q n (tbS cs (tbK y 0))] wr) (fun _ iv _ => 70 - (intOf iv).toNat)
  case atStart => exact ⟨0, newA n, (0, 0), by decide, TbC.start n, fun h => absurd h (by decide), rfl, rfl, hs⟩
  case round =>
    clear hs
    obtain ⟨k, cs, hd, hk, HC, HH, rfl, rfl, hs⟩ := hrel
    by_cases hlt : k < 70
    · have d0 : decide ((k : Int) < 70) = true := decide_eq_true (by omega)
      have HCR := Lib.hid (tb_create (l := tbK y 0) HC.out (by omega))
      have HC2 : Hid (TbC n (k + 1) (cs.set k (1, 1))) := (HC.out.step (by omega)).2
      have HH2 : Hid (k + 1 = 70 → (((k : Int), 1) : Hdl) = (69, 1)) := fun h => by rw [show k = 69 by omega]; rfl
      clear HC HH
      go_wp2_with (first
        | (go_at_call 35; refine (wo_create HT.out hs.rot HCR).mono ?_; clear hs; rintro r w ⟨rfl, hs⟩; replace hs := hs.rot)
        | (refine wpl_store_agg (v := hv ((k : Int), 1)) rfl rfl (sizeHd _) hs WrA.slotH ?_; clear hs; intro w3 hs))
      go_roundw
      case rel => exact ⟨k + 1, cs.set k (1, 1), ((k : Int), 1), by omega, HC2, HH2, rfl, by first | rfl | go_num, hs⟩
      case measure => simp [intOf] <;> omega
    · obtain rfl : k = 70 := by omega
      obtain rfl : hd = (69, 1) := HH.out rfl
      clear HH hlt hk
      go_wp2
      go_loopw [12] (fun iv wr => ∃ k : Nat, k ≤ 3 ∧ iv = .int .i64 (k : Nat) ∧ St w0 [blk g10 (h2 (69, 1)).toArray 39, WoB W E A1 R X Q n (tbS cs (tbK y k))] wr) (fun iv _ => 3 - (intOf iv).toNat)
      case atStart => exact ⟨0, by decide, rfl, hs⟩
      case round =>
        clear hs
        obtain ⟨k, hk, rfl, hs⟩ := hrel
        by_cases hlt : k < 3
        · have d0 : decide ((k : Int) < 3) = true := decide_eq_true (by omega)
          have HIN := Lib.hid (tb_ins HC.out (by omega) y hlt)
          obtain ⟨v, HV⟩ : ∃ v, Hid (mkV ((k : Int) + 1) 7 8 = v) := ⟨_, rfl⟩
          rw [HV.out] at HIN
          have HEV : Hid (∀ x ∈ (tbS cs (tbK y k)).e.l, x.2.evs.length < 4611686018427387904) := by rw [Hid]; unfold tbS; exact tb_evs y k
          go_upto_region 15 with (fail)
          refine wp_mix 4 [0, 1, 2, 3, 4] [5, 6, 7, 8, 9, 10, 11, 12, 13, 14] hs.only (by kernel_rfl) (by kernel_rfl) fun hne => ?_
          have r0 := (show Rd w0 [blk g10 (h2 (69, 1)).toArray 39] ⟨g10, 0, none⟩ (.int .i64 69) from Rd.blk (by rfl)).alln
          have r1 := (show Rd w0 [blk g10 (h2 (69, 1)).toArray 39] ⟨g10, 1, none⟩ (.int .i64 1) from Rd.blk (by rfl)).alln
          simp only [opsAt, List.getElem?_toArray, List.getElem?_cons_succ, List.getElem?_cons_zero]
          repeat (go_big_quiet_step (fail))
          refine wpQuiet_nil ?_
          clear hne r0 r1
          replace hs := hs.drew
          refine wpMix_next [5, 11] (by kernel_rfl) (by simp) (fun c hc => ?_)
          simp only [List.mem_cons, List.not_mem_nil, or_false] at hc
          rcases hc with rfl | rfl
          · skip
            refine ⟨_, rfl, ?_⟩
            go_wp2_with (first
              | (go_at_call 37; refine (lvalue_c _ _ _ HV).mono ?_; rintro r w ⟨rfl, hg⟩; replace hs := hs.grew hg; clear hg))
            refine mix_quiet [] [6, 7, 8, 9, 10, 11, 12, 13, 14] hs.only (by kernel_rfl) (by kernel_rfl) fun hne => ?_
            simp only [opsAt]
            refine wpQuiet_nil ?_
            clear hne
            refine wpMix_next [6, 11] (by kernel_rfl) (by simp) (fun c hc => ?_)
            simp only [List.mem_cons, List.not_mem_nil, or_false] at hc
            rcases hc with rfl | rfl
            · skip
              refine ⟨_, rfl, ?_⟩
              go_wp2_with (first
                | (go_at_call 36; refine (wo_ins hs.rot HEV.out HIN).mono ?_; clear hs; rintro r w ⟨rfl, hs⟩; replace hs := hs.rot))
              replace hs : St w0 (blk g10 (h2 (69, 1)).toArray 39 :: WoB W E A1 R X Q n (tbS cs (tbK y (k + 1))) :: []) w := hs.ent (by (repeat first | exact Ent.refl _ | refine Ent.step (by repeat first | exact Ent.refl _ | apply Ent.skip) ?_))
              refine mix_quiet [7, 8, 9, 10] [11, 12, 13, 14] hs.only (by kernel_rfl) (by kernel_rfl) fun hne => ?_
              simp only [opsAt, List.getElem?_toArray, List.getElem?_cons_succ, List.getElem?_cons_zero]
              repeat (go_big_quiet_step (fail))
              refine wpQuiet_nil ?_
              clear hne
              refine wpMix_next [11] (by kernel_rfl) (by simp) (fun c hc => ?_)
              simp only [List.mem_singleton] at hc
              subst hc
              refine ⟨_, rfl, ?_⟩
              refine wpl_alloc zero3 hs ?_
              clear hs
              intro g13 w hs
              replace hs : St w0 (blk g13 (YtcnbmfaicbkhcaaGreatDoor.c3 V3.z).toArray 41 :: _) w := hs
              replace hs : St w0 (blk g10 (h2 (69, 1)).toArray 39 :: WoB W E A1 R X Q n (tbS cs (tbK y (k + 1))) :: blk g13 (YtcnbmfaicbkhcaaGreatDoor.c3 V3.z).toArray 41 :: []) w := hs.ent (by (repeat first | exact Ent.refl _ | refine Ent.step (by repeat first | exact Ent.refl _ | apply Ent.skip) ?_))
              refine wpList_nil ⟨rfl, ?_⟩
              refine mix_quiet [] [12, 13, 14] hs.only (by kernel_rfl) (by kernel_rfl) fun hne => ?_
              simp only [opsAt]
              refine wpQuiet_nil ?_
              clear hne
              refine wpMix_next [12] (by kernel_rfl) (by simp) (fun c hc => ?_)
              simp only [List.mem_singleton] at hc
              subst hc
              refine ⟨_, rfl, ?_⟩
              refine wpl_store_agg (v := val3 V3.z) rfl rfl (size3 _) hs.up2 WrA.slot3 ?_
              clear hs
              intro w hs
              replace hs : St w0 (blk g10 (h2 (69, 1)).toArray 39 :: WoB W E A1 R X Q n (tbS cs (tbK y (k + 1))) :: blk g13 (YtcnbmfaicbkhcaaGreatDoor.c3 V3.z).toArray 41 :: []) w := hs.ent (by (repeat first | exact Ent.refl _ | refine Ent.step (by repeat first | exact Ent.refl _ | apply Ent.skip) ?_))
              refine wpList_nil ⟨rfl, ?_⟩
              refine mix_quiet [13, 14] [] hs.only (by kernel_rfl) (by kernel_rfl) fun hne => ?_
              simp only [opsAt, List.getElem?_toArray, List.getElem?_cons_succ, List.getElem?_cons_zero]
              try simp only [Act.put, List.setIfInBounds_toArray, List.set_cons_succ, List.set_cons_zero]
              repeat (go_big_quiet_step (fail))
              refine wpQuiet_nil ?_
              clear hne
              refine wpMix_end ?_
              go_wp2
              go_roundw
              case rel =>
                (repeat apply Exists.intro)
                refine ⟨?_, rfl⟩
                exact ⟨k + 1, by omega, by first | rfl | go_num, hs.only2⟩
              case measure => simp [intOf] <;> omega
            · skip
              refine ⟨_, rfl, ?_⟩
              refine wpl_alloc zero3 hs ?_
              clear hs
              intro g13 w hs
              replace hs : St w0 (blk g13 (YtcnbmfaicbkhcaaGreatDoor.c3 V3.z).toArray 41 :: _) w := hs
              replace hs : St w0 (blk g10 (h2 (69, 1)).toArray 39 :: WoB W E A1 R X Q n (tbS cs (tbK y k)) :: blk g13 (YtcnbmfaicbkhcaaGreatDoor.c3 V3.z).toArray 41 :: []) w := hs.ent (by (repeat first | exact Ent.refl _ | refine Ent.step (by repeat first | exact Ent.refl _ | apply Ent.skip) ?_))
              refine wpList_nil ⟨rfl, ?_⟩
              refine mix_quiet [] [6, 7, 8, 9, 10, 12, 13, 14] hs.only (by kernel_rfl) (by kernel_rfl) fun hne => ?_
              simp only [opsAt]
              refine wpQuiet_nil ?_
              clear hne
              refine wpMix_next [6] (by kernel_rfl) (by simp) (fun c hc => ?_)
              simp only [List.mem_singleton] at hc
              subst hc
              refine ⟨_, rfl, ?_⟩
              go_wp2_with (first
                | (go_at_call 36; refine (wo_ins hs.rot HEV.out HIN).mono ?_; clear hs; rintro r w ⟨rfl, hs⟩; replace hs := hs.rot))
              replace hs : St w0 (blk g10 (h2 (69, 1)).toArray 39 :: WoB W E A1 R X Q n (tbS cs (tbK y (k + 1))) :: blk g13 (YtcnbmfaicbkhcaaGreatDoor.c3 V3.z).toArray 41 :: []) w := hs.ent (by (repeat first | exact Ent.refl _ | refine Ent.step (by repeat first | exact Ent.refl _ | apply Ent.skip) ?_))
              refine mix_quiet [7, 8, 9, 10] [12, 13, 14] hs.only (by kernel_rfl) (by kernel_rfl) fun hne => ?_
              simp only [opsAt, List.getElem?_toArray, List.getElem?_cons_succ, List.getElem?_cons_zero]
              repeat (go_big_quiet_step (fail))
              refine wpQuiet_nil ?_
              clear hne
              refine wpMix_next [12] (by kernel_rfl) (by simp) (fun c hc => ?_)
              simp only [List.mem_singleton] at hc
              subst hc
              refine ⟨_, rfl, ?_⟩
              refine wpl_store_agg (v := val3 V3.z) rfl rfl (size3 _) hs.up2 WrA.slot3 ?_
              clear hs
              intro w hs
              replace hs : St w0 (blk g10 (h2 (69, 1)).toArray 39 :: WoB W E A1 R X Q n (tbS cs (tbK y (k + 1))) :: blk g13 (YtcnbmfaicbkhcaaGreatDoor.c3 V3.z).toArray 41 :: []) w := hs.ent (by (repeat first | exact Ent.refl _ | refine Ent.step (by repeat first | exact Ent.refl _ | apply Ent.skip) ?_))
              refine wpList_nil ⟨rfl, ?_⟩
              refine mix_quiet [13, 14] [] hs.only (by kernel_rfl) (by kernel_rfl) fun hne => ?_
              simp only [opsAt, List.getElem?_toArray, List.getElem?_cons_succ, List.getElem?_cons_zero]
              try simp only [Act.put, List.setIfInBounds_toArray, List.set_cons_succ, List.set_cons_zero]
              repeat (go_big_quiet_step (fail))
              refine wpQuiet_nil ?_
              clear hne
              refine wpMix_end ?_
              go_wp2
              go_roundw
              case rel =>
                (repeat apply Exists.intro)
                refine ⟨?_, rfl⟩
                exact ⟨k + 1, by omega, by first | rfl | go_num, hs.only2⟩
              case measure => simp [intOf] <;> omega
          · skip
            refine ⟨_, rfl, ?_⟩
            refine wpl_alloc zero3 hs ?_
            clear hs
            intro g13 w hs
            replace hs : St w0 (blk g13 (YtcnbmfaicbkhcaaGreatDoor.c3 V3.z).toArray 41 :: _) w := hs
            replace hs : St w0 (blk g10 (h2 (69, 1)).toArray 39 :: WoB W E A1 R X Q n (tbS cs (tbK y k)) :: blk g13 (YtcnbmfaicbkhcaaGreatDoor.c3 V3.z).toArray 41 :: []) w := hs.ent (by (repeat first | exact Ent.refl _ | refine Ent.step (by repeat first | exact Ent.refl _ | apply Ent.skip) ?_))
            refine wpList_nil ⟨rfl, ?_⟩
            refine mix_quiet [] [5, 6, 7, 8, 9, 10, 12, 13, 14] hs.only (by kernel_rfl) (by kernel_rfl) fun hne => ?_
            simp only [opsAt]
            refine wpQuiet_nil ?_
            clear hne
            refine wpMix_next [5] (by kernel_rfl) (by simp) (fun c hc => ?_)
            simp only [List.mem_singleton] at hc
            subst hc
            refine ⟨_, rfl, ?_⟩
            go_wp2_with (first
              | (go_at_call 37; refine (lvalue_c _ _ _ HV).mono ?_; rintro r w ⟨rfl, hg⟩; replace hs := hs.grew hg; clear hg))
            refine mix_quiet [] [6, 7, 8, 9, 10, 12, 13, 14] hs.only (by kernel_rfl) (by kernel_rfl) fun hne => ?_
            simp only [opsAt]
            refine wpQuiet_nil ?_
            clear hne
            refine wpMix_next [6] (by kernel_rfl) (by simp) (fun c hc => ?_)
            simp only [List.mem_singleton] at hc
            subst hc
            refine ⟨_, rfl, ?_⟩
            go_wp2_with (first
              | (go_at_call 36; refine (wo_ins hs.rot HEV.out HIN).mono ?_; clear hs; rintro r w ⟨rfl, hs⟩; replace hs := hs.rot))
            replace hs : St w0 (blk g10 (h2 (69, 1)).toArray 39 :: WoB W E A1 R X Q n (tbS cs (tbK y (k + 1))) :: blk g13 (YtcnbmfaicbkhcaaGreatDoor.c3 V3.z).toArray 41 :: []) w := hs.ent (by (repeat first | exact Ent.refl _ | refine Ent.step (by repeat first | exact Ent.refl _ | apply Ent.skip) ?_))
            refine mix_quiet [7, 8, 9, 10] [12, 13, 14] hs.only (by kernel_rfl) (by kernel_rfl) fun hne => ?_
            simp only [opsAt, List.getElem?_toArray, List.getElem?_cons_succ, List.getElem?_cons_zero]
            repeat (go_big_quiet_step (fail))
            refine wpQuiet_nil ?_
            clear hne
            refine wpMix_next [12] (by kernel_rfl) (by simp) (fun c hc => ?_)
            simp only [List.mem_singleton] at hc
            subst hc
            refine ⟨_, rfl, ?_⟩
            refine wpl_store_agg (v := val3 V3.z) rfl rfl (size3 _) hs.up2 WrA.slot3 ?_
            clear hs
            intro w hs
            replace hs : St w0 (blk g10 (h2 (69, 1)).toArray 39 :: WoB W E A1 R X Q n (tbS cs (tbK y (k + 1))) :: blk g13 (YtcnbmfaicbkhcaaGreatDoor.c3 V3.z).toArray 41 :: []) w := hs.ent (by (repeat first | exact Ent.refl _ | refine Ent.step (by repeat first | exact Ent.refl _ | apply Ent.skip) ?_))
            refine wpList_nil ⟨rfl, ?_⟩
            refine mix_quiet [13, 14] [] hs.only (by kernel_rfl) (by kernel_rfl) fun hne => ?_
            simp only [opsAt, List.getElem?_toArray, List.getElem?_cons_succ, List.getElem?_cons_zero]
            try simp only [Act.put, List.setIfInBounds_toArray, List.set_cons_succ, List.set_cons_zero]
            repeat (go_big_quiet_step (fail))
            refine wpQuiet_nil ?_
            clear hne
            refine wpMix_end ?_
            go_wp2
            go_roundw
            case rel =>
              (repeat apply Exists.intro)
              refine ⟨?_, rfl⟩
              exact ⟨k + 1, by omega, by first | rfl | go_num, hs.only2⟩
            case measure => simp [intOf] <;> omega
        · obtain rfl : k = 3 := by omega
          clear hlt hk
          have HRW := Lib.hid (tb_rows HC.out (by omega) y)
          obtain ⟨t, htd⟩ := tb_del HC.out (by omega) y
          have HDL := Lib.hid htd
          have HEV : Hid (∀ x ∈ (tbS cs (tbK y 3)).e.l, x.2.evs.length < 4611686018427387904) := by rw [Hid]; unfold tbS; exact tb_evs y 3
          have HN3 : Hid ((tbS cs (tbK y 3)).e.l.length ≤ 12) := by rw [Hid]; unfold tbS; show (tbK y 3).length ≤ 12; rw [tbK_len]; decide
          clear htd HC
          have tk : True := trivial
          go_wp2_with (first
            | (refine wpl_buildRun build_c3 rfl hs ?_; clear hs; intro gc w1 hs; replace hs : St w0 [blk gc (tbPl.flatMap c2c).toArray 132, blk g10 (h2 (69, 1)).toArray 39, WoB W E A1 R X Q n (tbS cs (tbK y 3))] w1 := hs)
            | (go_at_call 38; refine (rowsof_v (z := 1) (HT.out.st hs) hs.up2 HN3.out (l := tbPl) ⟨some ⟨gc, 0, none⟩, 3, rfl, Nat.le_refl _, (fun h => nomatch h), RdS.blk.hereP hs⟩ (by decide) HRW (Lib.hid rfl)).mono ?_; rintro r w ⟨Z, cz, rfl, hm⟩; replace hs := hs.made hm; clear hm)
            | (refine wpl_load_agg (cs := h2 (69, 1)) (b := g10) (o := 0) rfl aggH (sizeHd _) hs.up2 (fun j u hu => by rw [Nat.zero_add]; exact Rd.blk (by simpa using hu)) ?_)
            | (go_at_call 39; refine (wo_del hs.up3 HEV.out HDL).mono ?_; clear hs; rintro r w ⟨rfl, hs⟩; replace hs := hs.rot)
            | (go_at_call 40; have hs7 := hs.alloc #[.int .i64 69] 3; refine (rsame_c (n1 := 1) (n2 := 1) (S1 := [69]) (S2 := [69]) (b := true) rfl rfl (by decide) hs7 ((RdS.own hs7.rot).ent (Ent.swap _ _ _)) RdS.blk (by simp)).mono ?_; clear hs; rintro r w ⟨rfl, hg⟩; have hs := hs7.grew hg; clear hg hs7)
            | (go_at_call 9; refine (topawake (HT.out.st hs)).mono ?_; rintro r w ⟨rfl, hg⟩; replace hs := hs.grew hg; clear hg))
          go_ret
          exact ⟨rfl, hs.nothing⟩
end Go.Proofs.YtcnbmfaicbkhcaaGreatDoor
