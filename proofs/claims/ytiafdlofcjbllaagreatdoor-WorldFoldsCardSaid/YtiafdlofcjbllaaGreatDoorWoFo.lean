/-
  WorldFolds: the walk.
-/
import Derived.Test.YtiafdlofcjbllaaGreatDoorWoFoL
import Derived.Test.YtiafdlofcjbllaaGreatDoorWo13
import Derived.Test.YtiafdlofcjbllaaGreatDoorJA
set_option maxRecDepth 100000
namespace Go.Proofs.YtiafdlofcjbllaaGreatDoor
open Go Go.RowKit
theorem build_d13 (w : World) : (Instr.build 97 #[(0, .int .i64 1), (1, .int .i64 3)]).run Tryz.prog w = .ok (val3 ⟨1, 3, 0⟩) w := by kernel_rfl
theorem build_v1 (a : Int) (w : World) : (Instr.build 38 #[(0, .int .i64 1), (1, .int .i64 a)]).run Tryz.prog w = .ok (val3 ⟨1, a, 0⟩) w := by kernel_rfl
theorem build_o2 (k i g : Int) (v : V3) (w : World) : (Instr.build 99 #[(0, .int .i64 k), (1, hv (i, g)), (3, val3 v)]).run Tryz.prog w = .ok (valW ⟨k, (i, g), 0, v⟩) w := by kernel_rfl
theorem build_o1 (k i g : Int) (w : World) : (Instr.build 99 #[(0, .int .i64 k), (1, hv (i, g))]).run Tryz.prog w = .ok (valW ⟨k, (i, g), 0, V3.z⟩) w := by kernel_rfl
theorem build_rp12 (a b : Int) (w : World) : (Instr.build 102 #[(1, .int .i64 a), (2, .int .i64 b)]).run Tryz.prog w = .ok (val3 ⟨0, a, b⟩) w := by kernel_rfl
theorem err_one3 : errDs 0 [⟨1, 3, 0⟩] = 0 := rfl
theorem foStart {c1 c2 : List ACell} {X : Nat} {v : Value} {F : Option Nat} : FoI c1 c2 ⟨⟨9, c1, [(X, newSl ⟨1, 3, 0⟩ v F)]⟩, [], [], false⟩ ⟨⟨9, c1, [(X, newSl ⟨1, 3, 0⟩ v F)]⟩, [], [], false⟩ 0 0 0 false false 0 :=
  ⟨rfl, rfl, rfl, rfl, rfl, rfl, rfl, ⟨_, rfl, ⟨X, _, rfl, rfl, fun _ => ⟨rfl, fun h => nomatch h⟩, fun h => nomatch h⟩, rfl, fun x hx => by
    have : x = (X, newSl ⟨1, 3, 0⟩ v F) := by simpa using hx
    rw [this]; exact Nat.le_refl _⟩, ⟨X, _, rfl, rfl⟩, fun x hx => by
    have : x = (X, newSl ⟨1, 3, 0⟩ v F) := by simpa using hx
    rw [this]; exact Nat.le_refl _⟩
attribute [local irreducible] wpList Calls Code.wp okI okN pS tS memS getG pG insS delS getV pV tV okVal newSl SlS.put SlS.err SlS.putU SlS.putB descE SlS.take SlS.set SlS.errSet SlS.get SlS.has stV EnS.live EnS.get EnS.slot EnS.ins EnS.set EnS.rem EnS.parts EnS.del ofN strL delA newA giveV cs3 errDs descsL mkV WoS.defer WoS.maint WoS.get WoS.create
set_option maxHeartbeats 16000000 in
theorem wofolds_c {w0 : World} (hT : Tab w0) {va : Value} {za : List Int} (hva : IntArg w0 va za) (z : Int) :
    Calls Tryz.prog 6 #[va, .int .i64 z] w0 (LawPost w0) := by
  obtain ⟨A0, na, ca, rfl, hna, hnc, hcm, hra, -⟩ := hva
  unfold maxLen at hcm
  have HNA := Lib.hid hna
  have HRA := Lib.hid hra
  have hnb : na ≤ 9223372036854775807 := by omega
  clear hna hnc hcm hra
  have hs := St.start w0
  have hm1 : Hid (([⟨1, 3, 0⟩] : List V3).length = 1) := rfl
  have hk0 : Hid (([] : List Int).length = 0) := rfl
  obtain ⟨c1, c2, HC⟩ := foC
  have HC := Lib.hid HC
  obtain ⟨n, hn⟩ : ∃ n : Nat, min (na : Int) 30 = (n : Int) := ⟨min na 30, by omega⟩
  have hn1 : n ≤ na := by omega
  have hn2 : n ≤ 30 := by omega
  have h255 : bits .and .i64 z 255 = (lo8 z : Nat) := and_255 z
  obtain ⟨q8, hq8⟩ : ∃ q, lo8 z = q := ⟨_, rfl⟩
  rw [hq8] at h255
  clear hq8
  have hn5 : ¬ ((n : Int) + 5 = 0) := by omega
  have hn6 : 0 < (n : Int) + 5 := by omega
  go_enter Tryz.func6, Tryz.ntmps6
  go_upto_region 2 with (first
    | (refine wpl_buildS build_d13 rfl ?_)
    | (refine wpl_build1 (v := val3 ⟨1, 3, 0⟩) elemDs (by decide) rfl rfl hs ?_; clear hs; intro G w1 hs; replace hs : St w0 [blk G (c3 ⟨1, 3, 0⟩).toArray 97] w1 := hs)
    | (refine wpl_buildS (build_cf 5 9 (some ⟨G, 0, none⟩) 1 1) rfl ?_)
    | (go_at_call 47; refine (wo_new (n := 5) (top := 9) hs (by decide) (by decide) (by decide) (by decide) (ds := [⟨1, 3, 0⟩]) (m := 1) hm1 (by decide) (by rw [cs3_one]; exact RdS.blk) err_one3 (fun _ => ⟨rfl, rfl⟩) hk0 (by decide) (by decide) RdS.nil).mono ?_; clear hs; rintro r w ⟨W, E, A, R, X, Q, l, HNL, rfl, hs⟩; replace hs := hs.rot.drop))
  obtain ⟨Y, pv, F, rfl⟩ := newL_one HNL.out
  clear HNL hm1 hk0
  have HCR : Hid ((⟨⟨9, newA 5, [(Y, newSl ⟨1, 3, 0⟩ pv F)]⟩, [], [], false⟩ : WoS).create = ((0, 1), 0, ⟨⟨9, c1, [(Y, newSl ⟨1, 3, 0⟩ pv F)]⟩, [], [], false⟩)) := WoS.create_ok (WoS.free_free rfl) HC.out.cr
  have HS0 := Lib.hid (foStart (c1 := c1) (c2 := c2) (X := Y) (v := pv) (F := F))
  obtain ⟨s1, HS1⟩ : ∃ z, Hid ((⟨⟨9, c1, [(Y, newSl ⟨1, 3, 0⟩ pv F)]⟩, [], [], false⟩ : WoS) = z) := ⟨_, rfl⟩
  obtain ⟨s0, HSS⟩ : ∃ z, Hid ((⟨⟨9, newA 5, [(Y, newSl ⟨1, 3, 0⟩ pv F)]⟩, [], [], false⟩ : WoS) = z) := ⟨_, rfl⟩
  rw [HS1.out, HSS.out] at HCR
  rw [HS1.out] at HS0
  rw [HSS.out] at hs
  go_upto_region 5 with (first
    | (go_at_call 52; refine (wo_create hT hs HCR).mono ?_; clear hs; rintro r w ⟨rfl, hs⟩)
    | (refine wpl_alloc zeroH hs ?_; clear hs; intro g7 w hs)
    | (refine wpl_store_agg (v := hv (0, 1)) rfl rfl (by rw [sizeHd]; rfl) hs WrA.slotH ?_; clear hs; intro w hs))
  clear HS1 HSS HCR
  replace hs : St w0 [WoB W E A R X Q 5 s1, blk g7 (h2 (0, 1)).toArray 40] w := hs.rot
  go_upto_region 10 with (fail)
  clear h255 hn5 hn6
  generalize (q8 : Int) % ((n : Int) + 5) = pz
  go_loopw [10, 11, 12, 13, 14] (fun tv lv gv av iv wr => ∃ (k a b : Nat) (there gone : Bool) (last : Int) (s : WoS), k ≤ n ∧ tv = .bool there ∧ lv = .int .i64 last ∧ gv = .bool gone ∧ av = .int .i64 (a : Nat) ∧ iv = .int .i64 (k : Nat) ∧ Hid (FoI c1 c2 s1 s k a b there gone last) ∧ St w0 [WoB W E A R X Q 5 s, blk g7 (h2 (0, 1)).toArray 40] wr) (fun _ _ _ _ iv _ => n - (intOf iv).toNat)
  case atStart => exact ⟨0, 0, 0, false, false, 0, s1, Nat.zero_le _, rfl, rfl, rfl, rfl, rfl, HS0, hs⟩
  case round =>
    clear hs HS0
    obtain ⟨k, a, b, there, gone, last, s, hk, rfl, rfl, rfl, rfl, rfl, HI, hs⟩ := hrel
    by_cases hlt : k < n
    · have hka : k < na := by omega
      have hak : a ≤ 30 := by have := HI.out.ab; omega
      obtain ⟨x, hx⟩ : ∃ x, Hid (za[k]? = some x) := ⟨za[k]'(by rw [HNA.out]; exact hka), List.getElem?_eq_getElem _⟩
      have HQ : Hid (s.q.length ≤ 10000) := by rw [Hid, HI.out.len]; omega
      obtain ⟨ad, rfl, hsp, hrd⟩ := HRA.out k (.int .i64 x) (by rw [List.getElem?_map, hx.out]; rfl)
      obtain ⟨gb, off, sp⟩ := ad
      obtain rfl : sp = none := hsp
      go_upto_region 13 with (first
        | (refine wpl_load_agg (cs := h2 (0, 1)) (b := g7) (o := 0) rfl aggH (sizeHd _) hs ?hh ?_; case hh => exact fun j x hx => (Rd.blk (by simpa using hx)).tail)
        | (refine wpl_buildS (build_v1 _) rfl ?_)
        | (refine wpl_buildS (build_o2 2 0 1 ⟨1, (k : Nat), 0⟩) rfl ?_)
        | (refine wpl_alloc zeroWo hs ?_; clear hs; intro g15 w hs)
        | (refine wpl_store_agg (v := valW ⟨2, (0, 1), 0, ⟨1, (k : Nat), 0⟩⟩) rfl rfl (sizeWv _) hs WrA.slotW ?_; clear hs; intro w hs))
      have c9 := hrd _ (St.front (L := []) hs)
      clear hrd
      by_cases hkp : ((k : Nat) : Int) = pz
      · have d0 : (((k : Nat) : Int) == pz) = true := by simp [hkp]
        clear hkp
        by_cases hbit : bits .and .i64 x 1 = 1
        · have d1 : (bits .and .i64 x 1 == 1) = true := by simp [hbit]
          cases gone
          · cases there
            · skip
              obtain ⟨s', hd, hi⟩ := HI.out.del HC.out (by omega)
              have HDF := Lib.hid hd
              have HI2 : Hid (FoI c1 c2 s1 s' (k + 1) (a + 1) b false true last) := hi
              clear hd hi HI
              go_wp2_with (first
                | (refine wpl_load_agg (cs := h2 (0, 1)) (b := g7) (o := 0) rfl aggH (sizeHd _) hs ?hh ?_; case hh => exact fun j x hx => (Rd.blk (by simpa using hx)).tail.tail)
                | (refine wpl_buildS (build_o1 3 0 1) rfl ?_)
                | (refine wpl_buildS (build_o1 1 0 1) rfl ?_)
                | (refine wpl_store_agg (v := valW ⟨3, (0, 1), 0, V3.z⟩) rfl rfl (sizeWv _) hs WrA.slotW ?_; clear hs; intro w hs)
                | (refine wpl_store_agg (v := valW ⟨1, (0, 1), 0, V3.z⟩) rfl rfl (sizeWv _) hs WrA.slotW ?_; clear hs; intro w hs)
                | (refine wpl_load_agg (cs := c7w ⟨1, (0, 1), 0, V3.z⟩) (b := g15) (o := 0) rfl aggW (sizeW _) hs (opW_rd _) ?_)
                | (refine wpl_build1 (v := valW ⟨1, (0, 1), 0, V3.z⟩) elemW (by decide) rfl rfl hs ?_; clear hs; intro G2 w hs; replace hs : St w0 (WoB W E A R X Q 5 s :: blk G2 (c7w ⟨1, (0, 1), 0, V3.z⟩).toArray 99 :: blk g15 (c7w ⟨1, (0, 1), 0, V3.z⟩).toArray 99 :: _) w := hs.ent (by (repeat first | exact Ent.refl _ | refine Ent.step (by repeat first | exact Ent.refl _ | apply Ent.skip) ?_)))
                | (go_at_call 53; refine (wo_defer (l := [⟨1, (0, 1), 0, V3.z⟩]) HQ.out (show 1 ≤ 1000000 by decide) hs (by rw [c7_single]; exact RdS.blk) HDF).mono ?_; clear hs; rintro r w ⟨rfl, hs⟩; replace hs := hs.rot.drop.rot; have kk : World.cell? _ ⟨g15, 0, none⟩ = some (.int .i64 (⟨1, (0, 1), 0, V3.z⟩ : OpW).k) := Rd.blk (by rfl) _ hs))
              replace hs := hs.drop
              clear kk
              go_roundw
              case rel => exact ⟨k + 1, (a + 1), b, false, true, last, s', by omega, rfl, by first | rfl | go_num, rfl, by first | rfl | go_num, by first | rfl | go_num, HI2, hs⟩
              case measure => simp [intOf]; omega
            · skip
              obtain ⟨s', hd, hi⟩ := HI.out.del HC.out (by omega)
              have HDF := Lib.hid hd
              have HI2 : Hid (FoI c1 c2 s1 s' (k + 1) (a + 1) b false true last) := hi
              clear hd hi HI
              go_wp2_with (first
                | (refine wpl_load_agg (cs := h2 (0, 1)) (b := g7) (o := 0) rfl aggH (sizeHd _) hs ?hh ?_; case hh => exact fun j x hx => (Rd.blk (by simpa using hx)).tail.tail)
                | (refine wpl_buildS (build_o1 3 0 1) rfl ?_)
                | (refine wpl_buildS (build_o1 1 0 1) rfl ?_)
                | (refine wpl_store_agg (v := valW ⟨3, (0, 1), 0, V3.z⟩) rfl rfl (sizeWv _) hs WrA.slotW ?_; clear hs; intro w hs)
                | (refine wpl_store_agg (v := valW ⟨1, (0, 1), 0, V3.z⟩) rfl rfl (sizeWv _) hs WrA.slotW ?_; clear hs; intro w hs)
                | (refine wpl_load_agg (cs := c7w ⟨1, (0, 1), 0, V3.z⟩) (b := g15) (o := 0) rfl aggW (sizeW _) hs (opW_rd _) ?_)
                | (refine wpl_build1 (v := valW ⟨1, (0, 1), 0, V3.z⟩) elemW (by decide) rfl rfl hs ?_; clear hs; intro G2 w hs; replace hs : St w0 (WoB W E A R X Q 5 s :: blk G2 (c7w ⟨1, (0, 1), 0, V3.z⟩).toArray 99 :: blk g15 (c7w ⟨1, (0, 1), 0, V3.z⟩).toArray 99 :: _) w := hs.ent (by (repeat first | exact Ent.refl _ | refine Ent.step (by repeat first | exact Ent.refl _ | apply Ent.skip) ?_)))
                | (go_at_call 53; refine (wo_defer (l := [⟨1, (0, 1), 0, V3.z⟩]) HQ.out (show 1 ≤ 1000000 by decide) hs (by rw [c7_single]; exact RdS.blk) HDF).mono ?_; clear hs; rintro r w ⟨rfl, hs⟩; replace hs := hs.rot.drop.rot; have kk : World.cell? _ ⟨g15, 0, none⟩ = some (.int .i64 (⟨1, (0, 1), 0, V3.z⟩ : OpW).k) := Rd.blk (by rfl) _ hs))
              replace hs := hs.drop
              clear kk
              go_roundw
              case rel => exact ⟨k + 1, (a + 1), b, false, true, last, s', by omega, rfl, by first | rfl | go_num, rfl, by first | rfl | go_num, by first | rfl | go_num, HI2, hs⟩
              case measure => simp [intOf]; omega
          · obtain rfl := HI.out.gt rfl
            obtain ⟨s', hd, hi⟩ := HI.out.del HC.out (by omega)
            have HDF := Lib.hid hd
            have HI2 : Hid (FoI c1 c2 s1 s' (k + 1) a (b + 1) false true last) := hi
            clear hd hi HI
            go_wp2_with (first
              | (refine wpl_load_agg (cs := h2 (0, 1)) (b := g7) (o := 0) rfl aggH (sizeHd _) hs ?hh ?_; case hh => exact fun j x hx => (Rd.blk (by simpa using hx)).tail.tail)
              | (refine wpl_buildS (build_o1 3 0 1) rfl ?_)
              | (refine wpl_buildS (build_o1 1 0 1) rfl ?_)
              | (refine wpl_store_agg (v := valW ⟨3, (0, 1), 0, V3.z⟩) rfl rfl (sizeWv _) hs WrA.slotW ?_; clear hs; intro w hs)
              | (refine wpl_store_agg (v := valW ⟨1, (0, 1), 0, V3.z⟩) rfl rfl (sizeWv _) hs WrA.slotW ?_; clear hs; intro w hs)
              | (refine wpl_load_agg (cs := c7w ⟨1, (0, 1), 0, V3.z⟩) (b := g15) (o := 0) rfl aggW (sizeW _) hs (opW_rd _) ?_)
              | (refine wpl_build1 (v := valW ⟨1, (0, 1), 0, V3.z⟩) elemW (by decide) rfl rfl hs ?_; clear hs; intro G2 w hs; replace hs : St w0 (WoB W E A R X Q 5 s :: blk G2 (c7w ⟨1, (0, 1), 0, V3.z⟩).toArray 99 :: blk g15 (c7w ⟨1, (0, 1), 0, V3.z⟩).toArray 99 :: _) w := hs.ent (by (repeat first | exact Ent.refl _ | refine Ent.step (by repeat first | exact Ent.refl _ | apply Ent.skip) ?_)))
              | (go_at_call 53; refine (wo_defer (l := [⟨1, (0, 1), 0, V3.z⟩]) HQ.out (show 1 ≤ 1000000 by decide) hs (by rw [c7_single]; exact RdS.blk) HDF).mono ?_; clear hs; rintro r w ⟨rfl, hs⟩; replace hs := hs.rot.drop.rot; have kk : World.cell? _ ⟨g15, 0, none⟩ = some (.int .i64 (⟨1, (0, 1), 0, V3.z⟩ : OpW).k) := Rd.blk (by rfl) _ hs))
            replace hs := hs.drop
            clear kk
            go_roundw
            case rel => exact ⟨k + 1, a, (b + 1), false, true, last, s', by omega, rfl, by first | rfl | go_num, rfl, by first | rfl | go_num, by first | rfl | go_num, HI2, hs⟩
            case measure => simp [intOf]; omega
        · have d1 : (bits .and .i64 x 1 == 1) = false := by simp [hbit]
          cases gone
          · cases there
            · skip
              obtain ⟨s', hd, hi⟩ := HI.out.del HC.out (by omega)
              have HDF := Lib.hid hd
              have HI2 : Hid (FoI c1 c2 s1 s' (k + 1) (a + 1) b false true last) := hi
              clear hd hi HI
              go_wp2_with (first
                | (refine wpl_load_agg (cs := h2 (0, 1)) (b := g7) (o := 0) rfl aggH (sizeHd _) hs ?hh ?_; case hh => exact fun j x hx => (Rd.blk (by simpa using hx)).tail.tail)
                | (refine wpl_buildS (build_o1 3 0 1) rfl ?_)
                | (refine wpl_buildS (build_o1 1 0 1) rfl ?_)
                | (refine wpl_store_agg (v := valW ⟨3, (0, 1), 0, V3.z⟩) rfl rfl (sizeWv _) hs WrA.slotW ?_; clear hs; intro w hs)
                | (refine wpl_store_agg (v := valW ⟨1, (0, 1), 0, V3.z⟩) rfl rfl (sizeWv _) hs WrA.slotW ?_; clear hs; intro w hs)
                | (refine wpl_load_agg (cs := c7w ⟨1, (0, 1), 0, V3.z⟩) (b := g15) (o := 0) rfl aggW (sizeW _) hs (opW_rd _) ?_)
                | (refine wpl_build1 (v := valW ⟨1, (0, 1), 0, V3.z⟩) elemW (by decide) rfl rfl hs ?_; clear hs; intro G2 w hs; replace hs : St w0 (WoB W E A R X Q 5 s :: blk G2 (c7w ⟨1, (0, 1), 0, V3.z⟩).toArray 99 :: blk g15 (c7w ⟨1, (0, 1), 0, V3.z⟩).toArray 99 :: _) w := hs.ent (by (repeat first | exact Ent.refl _ | refine Ent.step (by repeat first | exact Ent.refl _ | apply Ent.skip) ?_)))
                | (go_at_call 53; refine (wo_defer (l := [⟨1, (0, 1), 0, V3.z⟩]) HQ.out (show 1 ≤ 1000000 by decide) hs (by rw [c7_single]; exact RdS.blk) HDF).mono ?_; clear hs; rintro r w ⟨rfl, hs⟩; replace hs := hs.rot.drop.rot; have kk : World.cell? _ ⟨g15, 0, none⟩ = some (.int .i64 (⟨1, (0, 1), 0, V3.z⟩ : OpW).k) := Rd.blk (by rfl) _ hs))
              replace hs := hs.drop
              clear kk
              go_roundw
              case rel => exact ⟨k + 1, (a + 1), b, false, true, last, s', by omega, rfl, by first | rfl | go_num, rfl, by first | rfl | go_num, by first | rfl | go_num, HI2, hs⟩
              case measure => simp [intOf]; omega
            · skip
              obtain ⟨s', hd, hi⟩ := HI.out.del HC.out (by omega)
              have HDF := Lib.hid hd
              have HI2 : Hid (FoI c1 c2 s1 s' (k + 1) (a + 1) b false true last) := hi
              clear hd hi HI
              go_wp2_with (first
                | (refine wpl_load_agg (cs := h2 (0, 1)) (b := g7) (o := 0) rfl aggH (sizeHd _) hs ?hh ?_; case hh => exact fun j x hx => (Rd.blk (by simpa using hx)).tail.tail)
                | (refine wpl_buildS (build_o1 3 0 1) rfl ?_)
                | (refine wpl_buildS (build_o1 1 0 1) rfl ?_)
                | (refine wpl_store_agg (v := valW ⟨3, (0, 1), 0, V3.z⟩) rfl rfl (sizeWv _) hs WrA.slotW ?_; clear hs; intro w hs)
                | (refine wpl_store_agg (v := valW ⟨1, (0, 1), 0, V3.z⟩) rfl rfl (sizeWv _) hs WrA.slotW ?_; clear hs; intro w hs)
                | (refine wpl_load_agg (cs := c7w ⟨1, (0, 1), 0, V3.z⟩) (b := g15) (o := 0) rfl aggW (sizeW _) hs (opW_rd _) ?_)
                | (refine wpl_build1 (v := valW ⟨1, (0, 1), 0, V3.z⟩) elemW (by decide) rfl rfl hs ?_; clear hs; intro G2 w hs; replace hs : St w0 (WoB W E A R X Q 5 s :: blk G2 (c7w ⟨1, (0, 1), 0, V3.z⟩).toArray 99 :: blk g15 (c7w ⟨1, (0, 1), 0, V3.z⟩).toArray 99 :: _) w := hs.ent (by (repeat first | exact Ent.refl _ | refine Ent.step (by repeat first | exact Ent.refl _ | apply Ent.skip) ?_)))
                | (go_at_call 53; refine (wo_defer (l := [⟨1, (0, 1), 0, V3.z⟩]) HQ.out (show 1 ≤ 1000000 by decide) hs (by rw [c7_single]; exact RdS.blk) HDF).mono ?_; clear hs; rintro r w ⟨rfl, hs⟩; replace hs := hs.rot.drop.rot; have kk : World.cell? _ ⟨g15, 0, none⟩ = some (.int .i64 (⟨1, (0, 1), 0, V3.z⟩ : OpW).k) := Rd.blk (by rfl) _ hs))
              replace hs := hs.drop
              clear kk
              go_roundw
              case rel => exact ⟨k + 1, (a + 1), b, false, true, last, s', by omega, rfl, by first | rfl | go_num, rfl, by first | rfl | go_num, by first | rfl | go_num, HI2, hs⟩
              case measure => simp [intOf]; omega
          · obtain rfl := HI.out.gt rfl
            obtain ⟨s', hd, hi⟩ := HI.out.del HC.out (by omega)
            have HDF := Lib.hid hd
            have HI2 : Hid (FoI c1 c2 s1 s' (k + 1) a (b + 1) false true last) := hi
            clear hd hi HI
            go_wp2_with (first
              | (refine wpl_load_agg (cs := h2 (0, 1)) (b := g7) (o := 0) rfl aggH (sizeHd _) hs ?hh ?_; case hh => exact fun j x hx => (Rd.blk (by simpa using hx)).tail.tail)
              | (refine wpl_buildS (build_o1 3 0 1) rfl ?_)
              | (refine wpl_buildS (build_o1 1 0 1) rfl ?_)
              | (refine wpl_store_agg (v := valW ⟨3, (0, 1), 0, V3.z⟩) rfl rfl (sizeWv _) hs WrA.slotW ?_; clear hs; intro w hs)
              | (refine wpl_store_agg (v := valW ⟨1, (0, 1), 0, V3.z⟩) rfl rfl (sizeWv _) hs WrA.slotW ?_; clear hs; intro w hs)
              | (refine wpl_load_agg (cs := c7w ⟨1, (0, 1), 0, V3.z⟩) (b := g15) (o := 0) rfl aggW (sizeW _) hs (opW_rd _) ?_)
              | (refine wpl_build1 (v := valW ⟨1, (0, 1), 0, V3.z⟩) elemW (by decide) rfl rfl hs ?_; clear hs; intro G2 w hs; replace hs : St w0 (WoB W E A R X Q 5 s :: blk G2 (c7w ⟨1, (0, 1), 0, V3.z⟩).toArray 99 :: blk g15 (c7w ⟨1, (0, 1), 0, V3.z⟩).toArray 99 :: _) w := hs.ent (by (repeat first | exact Ent.refl _ | refine Ent.step (by repeat first | exact Ent.refl _ | apply Ent.skip) ?_)))
              | (go_at_call 53; refine (wo_defer (l := [⟨1, (0, 1), 0, V3.z⟩]) HQ.out (show 1 ≤ 1000000 by decide) hs (by rw [c7_single]; exact RdS.blk) HDF).mono ?_; clear hs; rintro r w ⟨rfl, hs⟩; replace hs := hs.rot.drop.rot; have kk : World.cell? _ ⟨g15, 0, none⟩ = some (.int .i64 (⟨1, (0, 1), 0, V3.z⟩ : OpW).k) := Rd.blk (by rfl) _ hs))
            replace hs := hs.drop
            clear kk
            go_roundw
            case rel => exact ⟨k + 1, a, (b + 1), false, true, last, s', by omega, rfl, by first | rfl | go_num, rfl, by first | rfl | go_num, by first | rfl | go_num, HI2, hs⟩
            case measure => simp [intOf]; omega
      · have d0 : (((k : Nat) : Int) == pz) = false := by simp [hkp]
        by_cases hbit : bits .and .i64 x 1 = 1
        · have d1 : (bits .and .i64 x 1 == 1) = true := by simp [hbit]
          clear hkp hbit
          cases gone
          · cases there
            · skip
              obtain ⟨s', hd, hi⟩ := HI.out.rem HC.out (by omega)
              have HDF := Lib.hid hd
              have HI2 : Hid (FoI c1 c2 s1 s' (k + 1) a (b + 1) false false last) := hi
              clear hd hi HI
              go_wp2_with (first
                | (refine wpl_load_agg (cs := h2 (0, 1)) (b := g7) (o := 0) rfl aggH (sizeHd _) hs ?hh ?_; case hh => exact fun j x hx => (Rd.blk (by simpa using hx)).tail.tail)
                | (refine wpl_buildS (build_o1 3 0 1) rfl ?_)
                | (refine wpl_buildS (build_o1 1 0 1) rfl ?_)
                | (refine wpl_store_agg (v := valW ⟨3, (0, 1), 0, V3.z⟩) rfl rfl (sizeWv _) hs WrA.slotW ?_; clear hs; intro w hs)
                | (refine wpl_store_agg (v := valW ⟨1, (0, 1), 0, V3.z⟩) rfl rfl (sizeWv _) hs WrA.slotW ?_; clear hs; intro w hs)
                | (refine wpl_load_agg (cs := c7w ⟨3, (0, 1), 0, V3.z⟩) (b := g15) (o := 0) rfl aggW (sizeW _) hs (opW_rd _) ?_)
                | (refine wpl_build1 (v := valW ⟨3, (0, 1), 0, V3.z⟩) elemW (by decide) rfl rfl hs ?_; clear hs; intro G2 w hs; replace hs : St w0 (WoB W E A R X Q 5 s :: blk G2 (c7w ⟨3, (0, 1), 0, V3.z⟩).toArray 99 :: blk g15 (c7w ⟨3, (0, 1), 0, V3.z⟩).toArray 99 :: _) w := hs.ent (by (repeat first | exact Ent.refl _ | refine Ent.step (by repeat first | exact Ent.refl _ | apply Ent.skip) ?_)))
                | (go_at_call 53; refine (wo_defer (l := [⟨3, (0, 1), 0, V3.z⟩]) HQ.out (show 1 ≤ 1000000 by decide) hs (by rw [c7_single]; exact RdS.blk) HDF).mono ?_; clear hs; rintro r w ⟨rfl, hs⟩; replace hs := hs.rot.drop.rot; have kk : World.cell? _ ⟨g15, 0, none⟩ = some (.int .i64 (⟨3, (0, 1), 0, V3.z⟩ : OpW).k) := Rd.blk (by rfl) _ hs))
              replace hs := hs.drop
              clear kk
              go_roundw
              case rel => exact ⟨k + 1, a, (b + 1), false, false, last, s', by omega, rfl, by first | rfl | go_num, rfl, by first | rfl | go_num, by first | rfl | go_num, HI2, hs⟩
              case measure => simp [intOf]; omega
            · skip
              obtain ⟨s', hd, hi⟩ := HI.out.rem HC.out (by omega)
              have HDF := Lib.hid hd
              have HI2 : Hid (FoI c1 c2 s1 s' (k + 1) (a + 1) b false false last) := hi
              clear hd hi HI
              go_wp2_with (first
                | (refine wpl_load_agg (cs := h2 (0, 1)) (b := g7) (o := 0) rfl aggH (sizeHd _) hs ?hh ?_; case hh => exact fun j x hx => (Rd.blk (by simpa using hx)).tail.tail)
                | (refine wpl_buildS (build_o1 3 0 1) rfl ?_)
                | (refine wpl_buildS (build_o1 1 0 1) rfl ?_)
                | (refine wpl_store_agg (v := valW ⟨3, (0, 1), 0, V3.z⟩) rfl rfl (sizeWv _) hs WrA.slotW ?_; clear hs; intro w hs)
                | (refine wpl_store_agg (v := valW ⟨1, (0, 1), 0, V3.z⟩) rfl rfl (sizeWv _) hs WrA.slotW ?_; clear hs; intro w hs)
                | (refine wpl_load_agg (cs := c7w ⟨3, (0, 1), 0, V3.z⟩) (b := g15) (o := 0) rfl aggW (sizeW _) hs (opW_rd _) ?_)
                | (refine wpl_build1 (v := valW ⟨3, (0, 1), 0, V3.z⟩) elemW (by decide) rfl rfl hs ?_; clear hs; intro G2 w hs; replace hs : St w0 (WoB W E A R X Q 5 s :: blk G2 (c7w ⟨3, (0, 1), 0, V3.z⟩).toArray 99 :: blk g15 (c7w ⟨3, (0, 1), 0, V3.z⟩).toArray 99 :: _) w := hs.ent (by (repeat first | exact Ent.refl _ | refine Ent.step (by repeat first | exact Ent.refl _ | apply Ent.skip) ?_)))
                | (go_at_call 53; refine (wo_defer (l := [⟨3, (0, 1), 0, V3.z⟩]) HQ.out (show 1 ≤ 1000000 by decide) hs (by rw [c7_single]; exact RdS.blk) HDF).mono ?_; clear hs; rintro r w ⟨rfl, hs⟩; replace hs := hs.rot.drop.rot; have kk : World.cell? _ ⟨g15, 0, none⟩ = some (.int .i64 (⟨3, (0, 1), 0, V3.z⟩ : OpW).k) := Rd.blk (by rfl) _ hs))
              replace hs := hs.drop
              clear kk
              go_roundw
              case rel => exact ⟨k + 1, (a + 1), b, false, false, last, s', by omega, rfl, by first | rfl | go_num, rfl, by first | rfl | go_num, by first | rfl | go_num, HI2, hs⟩
              case measure => simp [intOf]; omega
          · obtain rfl := HI.out.gt rfl
            obtain ⟨s', hd, hi⟩ := HI.out.rem HC.out (by omega)
            have HDF := Lib.hid hd
            have HI2 : Hid (FoI c1 c2 s1 s' (k + 1) a (b + 1) false true last) := hi
            clear hd hi HI
            go_wp2_with (first
              | (refine wpl_load_agg (cs := h2 (0, 1)) (b := g7) (o := 0) rfl aggH (sizeHd _) hs ?hh ?_; case hh => exact fun j x hx => (Rd.blk (by simpa using hx)).tail.tail)
              | (refine wpl_buildS (build_o1 3 0 1) rfl ?_)
              | (refine wpl_buildS (build_o1 1 0 1) rfl ?_)
              | (refine wpl_store_agg (v := valW ⟨3, (0, 1), 0, V3.z⟩) rfl rfl (sizeWv _) hs WrA.slotW ?_; clear hs; intro w hs)
              | (refine wpl_store_agg (v := valW ⟨1, (0, 1), 0, V3.z⟩) rfl rfl (sizeWv _) hs WrA.slotW ?_; clear hs; intro w hs)
              | (refine wpl_load_agg (cs := c7w ⟨3, (0, 1), 0, V3.z⟩) (b := g15) (o := 0) rfl aggW (sizeW _) hs (opW_rd _) ?_)
              | (refine wpl_build1 (v := valW ⟨3, (0, 1), 0, V3.z⟩) elemW (by decide) rfl rfl hs ?_; clear hs; intro G2 w hs; replace hs : St w0 (WoB W E A R X Q 5 s :: blk G2 (c7w ⟨3, (0, 1), 0, V3.z⟩).toArray 99 :: blk g15 (c7w ⟨3, (0, 1), 0, V3.z⟩).toArray 99 :: _) w := hs.ent (by (repeat first | exact Ent.refl _ | refine Ent.step (by repeat first | exact Ent.refl _ | apply Ent.skip) ?_)))
              | (go_at_call 53; refine (wo_defer (l := [⟨3, (0, 1), 0, V3.z⟩]) HQ.out (show 1 ≤ 1000000 by decide) hs (by rw [c7_single]; exact RdS.blk) HDF).mono ?_; clear hs; rintro r w ⟨rfl, hs⟩; replace hs := hs.rot.drop.rot; have kk : World.cell? _ ⟨g15, 0, none⟩ = some (.int .i64 (⟨3, (0, 1), 0, V3.z⟩ : OpW).k) := Rd.blk (by rfl) _ hs))
            replace hs := hs.drop
            clear kk
            go_roundw
            case rel => exact ⟨k + 1, a, (b + 1), false, true, last, s', by omega, rfl, by first | rfl | go_num, rfl, by first | rfl | go_num, by first | rfl | go_num, HI2, hs⟩
            case measure => simp [intOf]; omega
        · have d1 : (bits .and .i64 x 1 == 1) = false := by simp [hbit]
          clear hkp hbit
          cases gone
          · cases there
            · skip
              obtain ⟨s', hd, hi⟩ := HI.out.ins HC.out (by omega) (k : Nat)
              have HDF := Lib.hid hd
              have HI2 : Hid (FoI c1 c2 s1 s' (k + 1) (a + 1) b true false ((k : Nat) : Int)) := hi
              clear hd hi HI
              go_wp2_with (first
                | (refine wpl_load_agg (cs := h2 (0, 1)) (b := g7) (o := 0) rfl aggH (sizeHd _) hs ?hh ?_; case hh => exact fun j x hx => (Rd.blk (by simpa using hx)).tail.tail)
                | (refine wpl_buildS (build_o1 3 0 1) rfl ?_)
                | (refine wpl_buildS (build_o1 1 0 1) rfl ?_)
                | (refine wpl_store_agg (v := valW ⟨3, (0, 1), 0, V3.z⟩) rfl rfl (sizeWv _) hs WrA.slotW ?_; clear hs; intro w hs)
                | (refine wpl_store_agg (v := valW ⟨1, (0, 1), 0, V3.z⟩) rfl rfl (sizeWv _) hs WrA.slotW ?_; clear hs; intro w hs)
                | (refine wpl_load_agg (cs := c7w ⟨2, (0, 1), 0, ⟨1, (k : Nat), 0⟩⟩) (b := g15) (o := 0) rfl aggW (sizeW _) hs (opW_rd _) ?_)
                | (refine wpl_build1 (v := valW ⟨2, (0, 1), 0, ⟨1, (k : Nat), 0⟩⟩) elemW (by decide) rfl rfl hs ?_; clear hs; intro G2 w hs; replace hs : St w0 (WoB W E A R X Q 5 s :: blk G2 (c7w ⟨2, (0, 1), 0, ⟨1, (k : Nat), 0⟩⟩).toArray 99 :: blk g15 (c7w ⟨2, (0, 1), 0, ⟨1, (k : Nat), 0⟩⟩).toArray 99 :: _) w := hs.ent (by (repeat first | exact Ent.refl _ | refine Ent.step (by repeat first | exact Ent.refl _ | apply Ent.skip) ?_)))
                | (go_at_call 53; refine (wo_defer (l := [⟨2, (0, 1), 0, ⟨1, (k : Nat), 0⟩⟩]) HQ.out (show 1 ≤ 1000000 by decide) hs (by rw [c7_single]; exact RdS.blk) HDF).mono ?_; clear hs; rintro r w ⟨rfl, hs⟩; replace hs := hs.rot.drop.rot; have kk : World.cell? _ ⟨g15, 0, none⟩ = some (.int .i64 (⟨2, (0, 1), 0, ⟨1, (k : Nat), 0⟩⟩ : OpW).k) := Rd.blk (by rfl) _ hs))
              replace hs := hs.drop
              clear kk
              go_roundw
              case rel => exact ⟨k + 1, (a + 1), b, true, false, ((k : Nat) : Int), s', by omega, rfl, by first | rfl | go_num, rfl, by first | rfl | go_num, by first | rfl | go_num, HI2, hs⟩
              case measure => simp [intOf]; omega
            · skip
              obtain ⟨s', hd, hi⟩ := HI.out.ins HC.out (by omega) (k : Nat)
              have HDF := Lib.hid hd
              have HI2 : Hid (FoI c1 c2 s1 s' (k + 1) (a + 1) b true false ((k : Nat) : Int)) := hi
              clear hd hi HI
              go_wp2_with (first
                | (refine wpl_load_agg (cs := h2 (0, 1)) (b := g7) (o := 0) rfl aggH (sizeHd _) hs ?hh ?_; case hh => exact fun j x hx => (Rd.blk (by simpa using hx)).tail.tail)
                | (refine wpl_buildS (build_o1 3 0 1) rfl ?_)
                | (refine wpl_buildS (build_o1 1 0 1) rfl ?_)
                | (refine wpl_store_agg (v := valW ⟨3, (0, 1), 0, V3.z⟩) rfl rfl (sizeWv _) hs WrA.slotW ?_; clear hs; intro w hs)
                | (refine wpl_store_agg (v := valW ⟨1, (0, 1), 0, V3.z⟩) rfl rfl (sizeWv _) hs WrA.slotW ?_; clear hs; intro w hs)
                | (refine wpl_load_agg (cs := c7w ⟨2, (0, 1), 0, ⟨1, (k : Nat), 0⟩⟩) (b := g15) (o := 0) rfl aggW (sizeW _) hs (opW_rd _) ?_)
                | (refine wpl_build1 (v := valW ⟨2, (0, 1), 0, ⟨1, (k : Nat), 0⟩⟩) elemW (by decide) rfl rfl hs ?_; clear hs; intro G2 w hs; replace hs : St w0 (WoB W E A R X Q 5 s :: blk G2 (c7w ⟨2, (0, 1), 0, ⟨1, (k : Nat), 0⟩⟩).toArray 99 :: blk g15 (c7w ⟨2, (0, 1), 0, ⟨1, (k : Nat), 0⟩⟩).toArray 99 :: _) w := hs.ent (by (repeat first | exact Ent.refl _ | refine Ent.step (by repeat first | exact Ent.refl _ | apply Ent.skip) ?_)))
                | (go_at_call 53; refine (wo_defer (l := [⟨2, (0, 1), 0, ⟨1, (k : Nat), 0⟩⟩]) HQ.out (show 1 ≤ 1000000 by decide) hs (by rw [c7_single]; exact RdS.blk) HDF).mono ?_; clear hs; rintro r w ⟨rfl, hs⟩; replace hs := hs.rot.drop.rot; have kk : World.cell? _ ⟨g15, 0, none⟩ = some (.int .i64 (⟨2, (0, 1), 0, ⟨1, (k : Nat), 0⟩⟩ : OpW).k) := Rd.blk (by rfl) _ hs))
              replace hs := hs.drop
              clear kk
              go_roundw
              case rel => exact ⟨k + 1, (a + 1), b, true, false, ((k : Nat) : Int), s', by omega, rfl, by first | rfl | go_num, rfl, by first | rfl | go_num, by first | rfl | go_num, HI2, hs⟩
              case measure => simp [intOf]; omega
          · obtain rfl := HI.out.gt rfl
            obtain ⟨s', hd, hi⟩ := HI.out.ins HC.out (by omega) (k : Nat)
            have HDF := Lib.hid hd
            have HI2 : Hid (FoI c1 c2 s1 s' (k + 1) a (b + 1) false true last) := hi
            clear hd hi HI
            go_wp2_with (first
              | (refine wpl_load_agg (cs := h2 (0, 1)) (b := g7) (o := 0) rfl aggH (sizeHd _) hs ?hh ?_; case hh => exact fun j x hx => (Rd.blk (by simpa using hx)).tail.tail)
              | (refine wpl_buildS (build_o1 3 0 1) rfl ?_)
              | (refine wpl_buildS (build_o1 1 0 1) rfl ?_)
              | (refine wpl_store_agg (v := valW ⟨3, (0, 1), 0, V3.z⟩) rfl rfl (sizeWv _) hs WrA.slotW ?_; clear hs; intro w hs)
              | (refine wpl_store_agg (v := valW ⟨1, (0, 1), 0, V3.z⟩) rfl rfl (sizeWv _) hs WrA.slotW ?_; clear hs; intro w hs)
              | (refine wpl_load_agg (cs := c7w ⟨2, (0, 1), 0, ⟨1, (k : Nat), 0⟩⟩) (b := g15) (o := 0) rfl aggW (sizeW _) hs (opW_rd _) ?_)
              | (refine wpl_build1 (v := valW ⟨2, (0, 1), 0, ⟨1, (k : Nat), 0⟩⟩) elemW (by decide) rfl rfl hs ?_; clear hs; intro G2 w hs; replace hs : St w0 (WoB W E A R X Q 5 s :: blk G2 (c7w ⟨2, (0, 1), 0, ⟨1, (k : Nat), 0⟩⟩).toArray 99 :: blk g15 (c7w ⟨2, (0, 1), 0, ⟨1, (k : Nat), 0⟩⟩).toArray 99 :: _) w := hs.ent (by (repeat first | exact Ent.refl _ | refine Ent.step (by repeat first | exact Ent.refl _ | apply Ent.skip) ?_)))
              | (go_at_call 53; refine (wo_defer (l := [⟨2, (0, 1), 0, ⟨1, (k : Nat), 0⟩⟩]) HQ.out (show 1 ≤ 1000000 by decide) hs (by rw [c7_single]; exact RdS.blk) HDF).mono ?_; clear hs; rintro r w ⟨rfl, hs⟩; replace hs := hs.rot.drop.rot; have kk : World.cell? _ ⟨g15, 0, none⟩ = some (.int .i64 (⟨2, (0, 1), 0, ⟨1, (k : Nat), 0⟩⟩ : OpW).k) := Rd.blk (by rfl) _ hs))
            replace hs := hs.drop
            clear kk
            go_roundw
            case rel => exact ⟨k + 1, a, (b + 1), false, true, last, s', by omega, rfl, by first | rfl | go_num, rfl, by first | rfl | go_num, by first | rfl | go_num, HI2, hs⟩
            case measure => simp [intOf]; omega
    · obtain rfl : k = n := by omega
      obtain ⟨t, hmt, ho⟩ := HI.out.maint HC.out
      cases gone
      · cases there
        · skip
          have HG : Hid (t.get (0, 1) 0 = (V3.z, 10)) := ho.get HC.out
          have HTL : Hid (t.q.length = 0) := by rw [Hid, ho.q]; rfl
          have HMT := Lib.hid hmt
          have HEV := Lib.hid HI.out.ev0
          have HQ : Hid (s.q.length ≤ 10000) := by rw [Hid, HI.out.len]; omega
          have HEE : Hid (EvL 0 s.e.l) := by rw [Hid, HI.out.e]; exact HEV.out
          have hsub : ((k : Nat) : Int) - ((a : Nat) : Int) = ((b : Nat) : Int) := by have := HI.out.ab; omega
          clear hmt ho HI HEV
          go_upto_region 27 with (first
            | (go_at_call 54; refine (wo_maint hT hs HEE.out (by decide) HQ.out HMT).mono ?_; clear hs; rintro r w ⟨rfl, hs⟩)
            | (refine wpl_alloc zeroRp hs ?_; clear hs; intro g16 w hs; replace hs : St w0 (blk g16 (c3 V3.z).toArray 102 :: _) w := hs)
            | (refine wpl_store_agg (v := val3 ⟨0, (a : Nat), (b : Nat)⟩) rfl rfl (sizeRp _) hs WrA.slot3 ?_; clear hs; intro w hs))
          replace hs := hs.rot
          go_upto_region 33 with (first
            | (refine wpl_load_agg (cs := h2 (0, 1)) (b := g7) (o := 0) rfl aggH (sizeHd _) hs ?hh ?_; case hh => exact fun j x hx => (Rd.blk (by simpa using hx)).tail.tail)
            | (go_at_call 55; refine (wo_get (h := (0, 1)) hs HG).mono ?_; clear hs; rintro r w ⟨rfl, hs⟩)
            | (refine wpl_alloc zero3 hs ?_; clear hs; intro g18 w hs; replace hs : St w0 (blk g18 (c3 V3.z).toArray 38 :: _) w := hs)
            | (refine wpl_store_agg (v := val3 V3.z) rfl rfl (size3 _) hs WrA.slot3 ?_; clear hs; intro w hs))
          replace hs := hs.rot
          have m0 := Rd.blk (k := 0) (v := .int .i64 0) (by rfl) _ hs.drop.drop
          have m1 := Rd.blk (k := 1) (v := .int .i64 (a : Nat)) (by rfl) _ hs.drop.drop
          have m2 := Rd.blk (k := 2) (v := .int .i64 (b : Nat)) (by rfl) _ hs.drop.drop
          have v1 := Rd.blk (k := 1) (v := .int .i64 (V3.z : V3).a) (by rfl) _ hs.drop
          have hb := build_rp12 (a : Nat) (b : Nat)
          have he := eqR_bin 0 (a : Nat) (b : Nat) 0 (a : Nat) (b : Nat)
          simp only [beq_self_eq_true, Bool.and_self] at he
          go_wp2_with (first
            | (go_at_call 56; refine (wo_queue hs).mono ?_; rintro r w' ⟨rfl, rfl⟩)
            | (go_at_call 57; refine (wo_qlen hs HTL).mono ?_; clear m0 m1 m2 v1; rintro r w' ⟨rfl, hg⟩; replace hs := hs.grew hg; clear hg)
            | (go_at_call 46; refine (awake16 (hT.grew hs.below)).mono ?_; rintro r w' ⟨rfl, hg⟩; replace hs := hs.grew hg; clear hg))
          go_ret
          exact ⟨rfl, St.front (L := []) hs⟩
        · skip
          have HG : Hid (t.get (0, 1) 0 = (⟨1, last, 0⟩, 0)) := ho.get HC.out
          have HTL : Hid (t.q.length = 0) := by rw [Hid, ho.q]; rfl
          have HMT := Lib.hid hmt
          have HEV := Lib.hid HI.out.ev0
          have HQ : Hid (s.q.length ≤ 10000) := by rw [Hid, HI.out.len]; omega
          have HEE : Hid (EvL 0 s.e.l) := by rw [Hid, HI.out.e]; exact HEV.out
          have hsub : ((k : Nat) : Int) - ((a : Nat) : Int) = ((b : Nat) : Int) := by have := HI.out.ab; omega
          clear hmt ho HI HEV
          go_upto_region 27 with (first
            | (go_at_call 54; refine (wo_maint hT hs HEE.out (by decide) HQ.out HMT).mono ?_; clear hs; rintro r w ⟨rfl, hs⟩)
            | (refine wpl_alloc zeroRp hs ?_; clear hs; intro g16 w hs; replace hs : St w0 (blk g16 (c3 V3.z).toArray 102 :: _) w := hs)
            | (refine wpl_store_agg (v := val3 ⟨0, (a : Nat), (b : Nat)⟩) rfl rfl (sizeRp _) hs WrA.slot3 ?_; clear hs; intro w hs))
          replace hs := hs.rot
          go_upto_region 33 with (first
            | (refine wpl_load_agg (cs := h2 (0, 1)) (b := g7) (o := 0) rfl aggH (sizeHd _) hs ?hh ?_; case hh => exact fun j x hx => (Rd.blk (by simpa using hx)).tail.tail)
            | (go_at_call 55; refine (wo_get (h := (0, 1)) hs HG).mono ?_; clear hs; rintro r w ⟨rfl, hs⟩)
            | (refine wpl_alloc zero3 hs ?_; clear hs; intro g18 w hs; replace hs : St w0 (blk g18 (c3 V3.z).toArray 38 :: _) w := hs)
            | (refine wpl_store_agg (v := val3 ⟨1, last, 0⟩) rfl rfl (size3 _) hs WrA.slot3 ?_; clear hs; intro w hs))
          replace hs := hs.rot
          have m0 := Rd.blk (k := 0) (v := .int .i64 0) (by rfl) _ hs.drop.drop
          have m1 := Rd.blk (k := 1) (v := .int .i64 (a : Nat)) (by rfl) _ hs.drop.drop
          have m2 := Rd.blk (k := 2) (v := .int .i64 (b : Nat)) (by rfl) _ hs.drop.drop
          have v1 := Rd.blk (k := 1) (v := .int .i64 (⟨1, last, 0⟩ : V3).a) (by rfl) _ hs.drop
          have hb := build_rp12 (a : Nat) (b : Nat)
          have he := eqR_bin 0 (a : Nat) (b : Nat) 0 (a : Nat) (b : Nat)
          simp only [beq_self_eq_true, Bool.and_self] at he
          go_wp2_with (first
            | (go_at_call 56; refine (wo_queue hs).mono ?_; rintro r w' ⟨rfl, rfl⟩)
            | (go_at_call 57; refine (wo_qlen hs HTL).mono ?_; clear m0 m1 m2 v1; rintro r w' ⟨rfl, hg⟩; replace hs := hs.grew hg; clear hg)
            | (go_at_call 46; refine (awake16 (hT.grew hs.below)).mono ?_; rintro r w' ⟨rfl, hg⟩; replace hs := hs.grew hg; clear hg))
          go_ret
          exact ⟨rfl, St.front (L := []) hs⟩
      · obtain rfl := HI.out.gt rfl
        have HG : Hid (t.get (0, 1) 0 = (V3.z, 4)) := ho.get HC.out
        have HTL : Hid (t.q.length = 0) := by rw [Hid, ho.q]; rfl
        have HMT := Lib.hid hmt
        have HEV := Lib.hid HI.out.ev0
        have HQ : Hid (s.q.length ≤ 10000) := by rw [Hid, HI.out.len]; omega
        have HEE : Hid (EvL 0 s.e.l) := by rw [Hid, HI.out.e]; exact HEV.out
        have hsub : ((k : Nat) : Int) - ((a : Nat) : Int) = ((b : Nat) : Int) := by have := HI.out.ab; omega
        clear hmt ho HI HEV
        go_upto_region 27 with (first
          | (go_at_call 54; refine (wo_maint hT hs HEE.out (by decide) HQ.out HMT).mono ?_; clear hs; rintro r w ⟨rfl, hs⟩)
          | (refine wpl_alloc zeroRp hs ?_; clear hs; intro g16 w hs; replace hs : St w0 (blk g16 (c3 V3.z).toArray 102 :: _) w := hs)
          | (refine wpl_store_agg (v := val3 ⟨0, (a : Nat), (b : Nat)⟩) rfl rfl (sizeRp _) hs WrA.slot3 ?_; clear hs; intro w hs))
        replace hs := hs.rot
        go_upto_region 33 with (first
          | (refine wpl_load_agg (cs := h2 (0, 1)) (b := g7) (o := 0) rfl aggH (sizeHd _) hs ?hh ?_; case hh => exact fun j x hx => (Rd.blk (by simpa using hx)).tail.tail)
          | (go_at_call 55; refine (wo_get (h := (0, 1)) hs HG).mono ?_; clear hs; rintro r w ⟨rfl, hs⟩)
          | (refine wpl_alloc zero3 hs ?_; clear hs; intro g18 w hs; replace hs : St w0 (blk g18 (c3 V3.z).toArray 38 :: _) w := hs)
          | (refine wpl_store_agg (v := val3 V3.z) rfl rfl (size3 _) hs WrA.slot3 ?_; clear hs; intro w hs))
        replace hs := hs.rot
        have m0 := Rd.blk (k := 0) (v := .int .i64 0) (by rfl) _ hs.drop.drop
        have m1 := Rd.blk (k := 1) (v := .int .i64 (a : Nat)) (by rfl) _ hs.drop.drop
        have m2 := Rd.blk (k := 2) (v := .int .i64 (b : Nat)) (by rfl) _ hs.drop.drop
        have v1 := Rd.blk (k := 1) (v := .int .i64 (V3.z : V3).a) (by rfl) _ hs.drop
        have hb := build_rp12 (a : Nat) (b : Nat)
        have he := eqR_bin 0 (a : Nat) (b : Nat) 0 (a : Nat) (b : Nat)
        simp only [beq_self_eq_true, Bool.and_self] at he
        go_wp2_with (first
          | (go_at_call 56; refine (wo_queue hs).mono ?_; rintro r w' ⟨rfl, rfl⟩)
          | (go_at_call 57; refine (wo_qlen hs HTL).mono ?_; clear m0 m1 m2 v1; rintro r w' ⟨rfl, hg⟩; replace hs := hs.grew hg; clear hg)
          | (go_at_call 46; refine (awake16 (hT.grew hs.below)).mono ?_; rintro r w' ⟨rfl, hg⟩; replace hs := hs.grew hg; clear hg))
        go_ret
        exact ⟨rfl, St.front (L := []) hs⟩
end Go.Proofs.YtiafdlofcjbllaaGreatDoor
