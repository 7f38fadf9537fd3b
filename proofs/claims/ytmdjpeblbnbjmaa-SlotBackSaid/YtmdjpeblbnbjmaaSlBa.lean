/-
  SlotBack: the walk. (Printed by gen_back.py.)
-/
import Derived.Test.YtmdjpeblbnbjmaaSlBaL
import Derived.Deep.DeepCutAuto
import Derived.Deep.CutBlock
set_option maxRecDepth 100000
namespace Go.Proofs.Ytmdjpeblbnbjmaa
open Go Go.RowKit
attribute [local irreducible] wpList Calls Code.wp okI okN pS tS memS getG pG insS delS getV pV tV okVal newSl SlS.put SlS.err SlS.putU SlS.putB descE mkD mkV SlS.take SlS.set SlS.errSet
set_option maxHeartbeats 4000000 in
theorem slback_c {w0 : World} (a b i k n m : Int) : Calls Try.prog 6 #[.int .i64 a, .int .i64 b, .int .i64 i, .int .i64 k, .int .i64 n, .int .i64 m] w0 (LawPost w0) := by
  have hs := St.start w0
  have hi := and_ffff i
  have hk := and_ffff k
  have hxi := kx_lt i
  have hxk := kx_lt k
  generalize kx i = p at hi hxi
  generalize kx k = q at hk hxk
  obtain ⟨d, HD⟩ : ∃ d, Hid (mkD a b 0 = d) := ⟨_, rfl⟩
  have HDE : Hid (descE d = 0) := by rw [Hid, ← HD.out]; exact mkD_ok a b 0
  have hdk : Hid (1 ≤ d.k ∧ d.k ≤ 3) := by
    have := HDE.out
    rw [Hid]
    unfold descE at this
    split at this
    · rename_i h; exact ⟨h.1, h.2.1⟩
    · cases this
  have HDB : Hid (d.b = 0) := by rw [Hid, ← HD.out]; unfold mkD; rfl
  obtain ⟨x, HX⟩ : ∃ x, Hid (mkV d.k n m = x) := ⟨_, rfl⟩
  obtain ⟨y, HY⟩ : ∃ y, Hid (mkV d.k m n = y) := ⟨_, rfl⟩
  go_enter Try.func6, Try.ntmps6
  go_upto_region 4 with (first
    | (go_at_call 21; refine (ldesc_c _ _ _ HD).mono ?_; rintro r w ⟨rfl, hg⟩; replace hs := hs.grew hg; clear hg)
    | (refine wpl_alloc zero3D hs ?_; clear hs; intro g13 w hs)
    | (refine wpl_store_agg (v := val3 d) rfl rfl (size3D _) hs WrA.slot3 ?_; clear hs; intro w hs)
    | (refine wpl_load3 (v := d) rfl (has3_slot (t := 28)) agg3D (size3Dn (v := V3.z)) hs ?_)
    | (go_at_call 15; refine (sl_new hs d HDE).mono ?_; clear hs; rintro r w ⟨X, v, F, rfl, hs⟩))
  go_upto_if 51 with (fail)
  go_cut [3] (fun kv wx => ∃ q : Nat, kv = .int .i64 (q : Nat) ∧ q < 65536 ∧ p ≠ q ∧ w = wx)
  case first =>
    by_cases hpq : p = q
    · subst hpq
      obtain ⟨hx, hxq, hxn⟩ := xor_one hxi
      go_wp2
      go_meet
      exact ⟨p ^^^ 1, rfl, hxq, fun e => hxn e.symm, rfl⟩
    · go_wp2
      go_meet
      exact ⟨q, rfl, hxk, hpq, rfl⟩
  case rest =>
    clear hk hxk q
    obtain ⟨q, rfl, hxq, hpq, rfl⟩ := hcut
    obtain rfl := newF_none hs.slwf.ok (by rw [HDB.out]; decide)
    obtain ⟨s1, HS1⟩ : ∃ e, Hid ((newSl d v none).put ((p : Nat) : Int) x = e) := ⟨_, rfl⟩
    obtain ⟨s2, HS2⟩ : ∃ e, Hid (s1.put ((q : Nat) : Int) y = e) := ⟨_, rfl⟩
    obtain ⟨s3, HS3⟩ : ∃ e, Hid (s2.take ((p : Nat) : Int) = e) := ⟨_, rfl⟩
    obtain ⟨r3, hr3⟩ : ∃ r : Nat, (d.k).tmod 3 = (r : Nat) := ⟨((d.k).tmod 3).toNat, by
      have h3 : d.k = 1 ∨ d.k = 2 ∨ d.k = 3 := by have := hdk.out; omega
      rcases h3 with h3 | h3 | h3 <;> rw [h3] <;> decide⟩
    obtain ⟨o, ho⟩ : ∃ o : V3, o = ⟨(r3 : Nat) + 1, 0, 0⟩ := ⟨_, rfl⟩
    have hr3l : r3 < 3 := by
      have h3 : d.k = 1 ∨ d.k = 2 ∨ d.k = 3 := by have := hdk.out; omega
      have : (d.k).tmod 3 < 3 := by rcases h3 with h3 | h3 | h3 <;> rw [h3] <;> decide
      omega
    have hok : o.k ≠ d.k := by
      have h3 : d.k = 1 ∨ d.k = 2 ∨ d.k = 3 := by have := hdk.out; omega
      rw [ho, ← hr3]
      rcases h3 with h3 | h3 | h3 <;> rw [h3] <;> decide
    have HB := Lib.hid (backF (v := v) (F := none) (i := ((p : Nat) : Int)) (k := ((q : Nat) : Int)) (o := o) (by omega) (by omega) (by omega) ⟨by rw [← HX.out]; exact mkV_ok hdk.out _ _, by rw [← HX.out]; exact mkV_k _ _ _⟩ ⟨by rw [← HY.out]; exact mkV_ok hdk.out _ _, by rw [← HY.out]; exact mkV_k _ _ _⟩ hok HS1.out HS2.out HS3.out)
    obtain ⟨u1, HU1⟩ : ∃ u, Hid ((newSl d v none).putU ((p : Nat) : Int) x = u) := ⟨_, rfl⟩
    obtain ⟨u2, HU2⟩ : ∃ u, Hid (s1.putU ((q : Nat) : Int) y = u) := ⟨_, rfl⟩
    obtain ⟨u3, HU3⟩ : ∃ u, Hid (s2.putU ((p : Nat) : Int) o = u) := ⟨_, rfl⟩
    obtain ⟨c3', HC3⟩ : ∃ u, Hid (s2.putB ((p : Nat) : Int) o = u) := ⟨_, rfl⟩
    have HP0 := newSl_pv d v none
    have HP2 : Hid (s2.pv = v) := by rw [Hid, ← HS2.out, SlS.put_pv, ← HS1.out, SlS.put_pv, HP0]
    have HP3 : Hid (s3.pv = v) := by
      rw [Hid, ← HS3.out]; exact (show (s2.take _).pv = s2.pv by unfold SlS.take; split <;> rfl).trans HP2.out
    generalize newSl d v none = s0 at *
    clear hok HP0
    replace hs : St w0 [blk g13 (c3 d).toArray 28, SlB X s0] _ := hs.rot
    go_upto_region 8 with (fail)
    go_cut [16, 17] (fun a1 a2 wx => ∃ g16 g17, a1 = .pointer (some ⟨g16, 0, none⟩) ∧ a2 = .pointer (some ⟨g17, 0, none⟩) ∧ St w0 [blk g13 (c3 d).toArray 28, SlB X s0, blk g16 (c3 x).toArray 40, blk g17 (c3 y).toArray 40] wx)
    case first => as_aux_lemma =>
      refine wp_all_plain (n := 6) [false, false, false, false, true, false, false, false, false, true, true, true, true, true] hs.only (by kernel_rfl) (by kernel_rfl) (by kernel_rfl) fun hne => ?_
      have c0 := (has3_slot (w0 := w0) (L := []) (g := g13) (v := d) (t := 28) 0 _ rfl).alln
      simp only [Nat.zero_add] at c0
      simp only [pickOps]
      repeat (go_big_quiet_step (fail))
      refine wpQuiet_nil ?_
      clear hne c0
      replace hs := hs.drew
      clear HB HS1 HS2 HS3 HU1 HU2 HU3 HC3 HP2 HP3
      refine wpAllP_next [4, 10, 11] (by kernel_rfl) (fun c hc => ?_)
      simp only [List.mem_cons, List.not_mem_nil, or_false] at hc
      rcases hc with rfl | rfl | rfl
      · skip
        refine ⟨_, rfl, ?_⟩
        go_wp2_with (first
          | (go_at_call 24; refine (lvalue_c _ _ _ HX).mono ?_; rintro r w ⟨rfl, hg⟩; replace hs := hs.grew hg; clear hg))
        refine ⟨hs.only, ?_⟩
        refine wpAllP_next [9, 10, 11] (by kernel_rfl) (fun c hc => ?_)
        simp only [List.mem_cons, List.not_mem_nil, or_false] at hc
        rcases hc with rfl | rfl | rfl
        · skip
          refine ⟨_, rfl, ?_⟩
          go_wp2_with (first
            | (go_at_call 24; refine (lvalue_c _ _ _ HY).mono ?_; rintro r w ⟨rfl, hg⟩; replace hs := hs.grew hg; clear hg))
          refine ⟨hs.only, ?_⟩
          refine wpAllP_next [10, 11] (by kernel_rfl) (fun c hc => ?_)
          simp only [List.mem_cons, List.not_mem_nil, or_false] at hc
          rcases hc with rfl | rfl
          · skip
            refine ⟨_, rfl, ?_⟩
            refine wpl_alloc zero3 hs ?_
            clear hs
            intro g16 w hs
            replace hs : St w0 (blk g16 (c3 V3.z).toArray 40 :: _) w := hs
            replace hs : St w0 (blk g13 (c3 d).toArray 28 :: SlB X s0 :: blk g16 (c3 V3.z).toArray 40 :: []) w := hs.ent (by (repeat first | exact Ent.refl _ | refine Ent.step (by first | exact Ent.refl _ | exact Ent.skip (Ent.refl _) | exact Ent.skip (Ent.skip (Ent.refl _)) | exact Ent.skip (Ent.skip (Ent.skip (Ent.refl _))) | exact Ent.skip (Ent.skip (Ent.skip (Ent.skip (Ent.refl _)))) | exact Ent.skip (Ent.skip (Ent.skip (Ent.skip (Ent.skip (Ent.refl _))))) | exact Ent.skip (Ent.skip (Ent.skip (Ent.skip (Ent.skip (Ent.skip (Ent.refl _)))))) | exact Ent.skip (Ent.skip (Ent.skip (Ent.skip (Ent.skip (Ent.skip (Ent.skip (Ent.refl _))))))) | exact Ent.skip (Ent.skip (Ent.skip (Ent.skip (Ent.skip (Ent.skip (Ent.skip (Ent.skip (Ent.refl _)))))))) | exact Ent.skip (Ent.skip (Ent.skip (Ent.skip (Ent.skip (Ent.skip (Ent.skip (Ent.skip (Ent.skip (Ent.refl _)))))))))) ?_))
            refine wpList_nil ⟨rfl, hs.only, ?_⟩
            refine wpAllP_next [11] (by kernel_rfl) (fun c hc => ?_)
            simp only [List.mem_singleton] at hc
            subst hc
            refine ⟨_, rfl, ?_⟩
            refine wpl_alloc zero3 hs ?_
            clear hs
            intro g17 w hs
            replace hs : St w0 (blk g17 (c3 V3.z).toArray 40 :: _) w := hs
            replace hs : St w0 (blk g13 (c3 d).toArray 28 :: SlB X s0 :: blk g16 (c3 V3.z).toArray 40 :: blk g17 (c3 V3.z).toArray 40 :: []) w := hs.ent (by (repeat first | exact Ent.refl _ | refine Ent.step (by first | exact Ent.refl _ | exact Ent.skip (Ent.refl _) | exact Ent.skip (Ent.skip (Ent.refl _)) | exact Ent.skip (Ent.skip (Ent.skip (Ent.refl _))) | exact Ent.skip (Ent.skip (Ent.skip (Ent.skip (Ent.refl _)))) | exact Ent.skip (Ent.skip (Ent.skip (Ent.skip (Ent.skip (Ent.refl _))))) | exact Ent.skip (Ent.skip (Ent.skip (Ent.skip (Ent.skip (Ent.skip (Ent.refl _)))))) | exact Ent.skip (Ent.skip (Ent.skip (Ent.skip (Ent.skip (Ent.skip (Ent.skip (Ent.refl _))))))) | exact Ent.skip (Ent.skip (Ent.skip (Ent.skip (Ent.skip (Ent.skip (Ent.skip (Ent.skip (Ent.refl _)))))))) | exact Ent.skip (Ent.skip (Ent.skip (Ent.skip (Ent.skip (Ent.skip (Ent.skip (Ent.skip (Ent.skip (Ent.refl _)))))))))) ?_))
            refine wpList_nil ⟨rfl, hs.only, ?_⟩
            refine wpAllP_next [12] (by kernel_rfl) (fun c hc => ?_)
            simp only [List.mem_singleton] at hc
            subst hc
            refine ⟨_, rfl, ?_⟩
            refine wpl_store_agg (v := val3 x) rfl rfl (size3 _) (hs.ent (M := blk g16 (c3 V3.z).toArray 40 :: blk g13 (c3 d).toArray 28 :: SlB X s0 :: blk g17 (c3 V3.z).toArray 40 :: []) (by (repeat first | exact Ent.refl _ | refine Ent.step (by first | exact Ent.refl _ | exact Ent.skip (Ent.refl _) | exact Ent.skip (Ent.skip (Ent.refl _)) | exact Ent.skip (Ent.skip (Ent.skip (Ent.refl _))) | exact Ent.skip (Ent.skip (Ent.skip (Ent.skip (Ent.refl _)))) | exact Ent.skip (Ent.skip (Ent.skip (Ent.skip (Ent.skip (Ent.refl _))))) | exact Ent.skip (Ent.skip (Ent.skip (Ent.skip (Ent.skip (Ent.skip (Ent.refl _)))))) | exact Ent.skip (Ent.skip (Ent.skip (Ent.skip (Ent.skip (Ent.skip (Ent.skip (Ent.refl _))))))) | exact Ent.skip (Ent.skip (Ent.skip (Ent.skip (Ent.skip (Ent.skip (Ent.skip (Ent.skip (Ent.refl _)))))))) | exact Ent.skip (Ent.skip (Ent.skip (Ent.skip (Ent.skip (Ent.skip (Ent.skip (Ent.skip (Ent.skip (Ent.refl _)))))))))) ?_))) WrA.slot3 ?_
            clear hs
            intro w hs
            replace hs : St w0 (blk g13 (c3 d).toArray 28 :: SlB X s0 :: blk g16 (c3 x).toArray 40 :: blk g17 (c3 V3.z).toArray 40 :: []) w := hs.ent (by (repeat first | exact Ent.refl _ | refine Ent.step (by first | exact Ent.refl _ | exact Ent.skip (Ent.refl _) | exact Ent.skip (Ent.skip (Ent.refl _)) | exact Ent.skip (Ent.skip (Ent.skip (Ent.refl _))) | exact Ent.skip (Ent.skip (Ent.skip (Ent.skip (Ent.refl _)))) | exact Ent.skip (Ent.skip (Ent.skip (Ent.skip (Ent.skip (Ent.refl _))))) | exact Ent.skip (Ent.skip (Ent.skip (Ent.skip (Ent.skip (Ent.skip (Ent.refl _)))))) | exact Ent.skip (Ent.skip (Ent.skip (Ent.skip (Ent.skip (Ent.skip (Ent.skip (Ent.refl _))))))) | exact Ent.skip (Ent.skip (Ent.skip (Ent.skip (Ent.skip (Ent.skip (Ent.skip (Ent.skip (Ent.refl _)))))))) | exact Ent.skip (Ent.skip (Ent.skip (Ent.skip (Ent.skip (Ent.skip (Ent.skip (Ent.skip (Ent.skip (Ent.refl _)))))))))) ?_))
            refine wpList_nil ⟨rfl, hs.only, ?_⟩
            refine wpAll_last [13] (by kernel_rfl) (fun c hc => ?_)
            simp only [List.mem_singleton] at hc
            subst hc
            refine ⟨_, rfl, ?_⟩
            refine wpl_store_agg (v := val3 y) rfl rfl (size3 _) (hs.ent (M := blk g17 (c3 V3.z).toArray 40 :: blk g13 (c3 d).toArray 28 :: SlB X s0 :: blk g16 (c3 x).toArray 40 :: []) (by (repeat first | exact Ent.refl _ | refine Ent.step (by first | exact Ent.refl _ | exact Ent.skip (Ent.refl _) | exact Ent.skip (Ent.skip (Ent.refl _)) | exact Ent.skip (Ent.skip (Ent.skip (Ent.refl _))) | exact Ent.skip (Ent.skip (Ent.skip (Ent.skip (Ent.refl _)))) | exact Ent.skip (Ent.skip (Ent.skip (Ent.skip (Ent.skip (Ent.refl _))))) | exact Ent.skip (Ent.skip (Ent.skip (Ent.skip (Ent.skip (Ent.skip (Ent.refl _)))))) | exact Ent.skip (Ent.skip (Ent.skip (Ent.skip (Ent.skip (Ent.skip (Ent.skip (Ent.refl _))))))) | exact Ent.skip (Ent.skip (Ent.skip (Ent.skip (Ent.skip (Ent.skip (Ent.skip (Ent.skip (Ent.refl _)))))))) | exact Ent.skip (Ent.skip (Ent.skip (Ent.skip (Ent.skip (Ent.skip (Ent.skip (Ent.skip (Ent.skip (Ent.refl _)))))))))) ?_))) WrA.slot3 ?_
            clear hs
            intro w hs
            replace hs : St w0 (blk g13 (c3 d).toArray 28 :: SlB X s0 :: blk g16 (c3 x).toArray 40 :: blk g17 (c3 y).toArray 40 :: []) w := hs.ent (by (repeat first | exact Ent.refl _ | refine Ent.step (by first | exact Ent.refl _ | exact Ent.skip (Ent.refl _) | exact Ent.skip (Ent.skip (Ent.refl _)) | exact Ent.skip (Ent.skip (Ent.skip (Ent.refl _))) | exact Ent.skip (Ent.skip (Ent.skip (Ent.skip (Ent.refl _)))) | exact Ent.skip (Ent.skip (Ent.skip (Ent.skip (Ent.skip (Ent.refl _))))) | exact Ent.skip (Ent.skip (Ent.skip (Ent.skip (Ent.skip (Ent.skip (Ent.refl _)))))) | exact Ent.skip (Ent.skip (Ent.skip (Ent.skip (Ent.skip (Ent.skip (Ent.skip (Ent.refl _))))))) | exact Ent.skip (Ent.skip (Ent.skip (Ent.skip (Ent.skip (Ent.skip (Ent.skip (Ent.skip (Ent.refl _)))))))) | exact Ent.skip (Ent.skip (Ent.skip (Ent.skip (Ent.skip (Ent.skip (Ent.skip (Ent.skip (Ent.skip (Ent.refl _)))))))))) ?_))
            go_wp2
            go_meet
            exact ⟨_, _, rfl, rfl, hs⟩
          · skip
            refine ⟨_, rfl, ?_⟩
            refine wpl_alloc zero3 hs ?_
            clear hs
            intro g17 w hs
            replace hs : St w0 (blk g17 (c3 V3.z).toArray 40 :: _) w := hs
            replace hs : St w0 (blk g13 (c3 d).toArray 28 :: SlB X s0 :: blk g17 (c3 V3.z).toArray 40 :: []) w := hs.ent (by (repeat first | exact Ent.refl _ | refine Ent.step (by first | exact Ent.refl _ | exact Ent.skip (Ent.refl _) | exact Ent.skip (Ent.skip (Ent.refl _)) | exact Ent.skip (Ent.skip (Ent.skip (Ent.refl _))) | exact Ent.skip (Ent.skip (Ent.skip (Ent.skip (Ent.refl _)))) | exact Ent.skip (Ent.skip (Ent.skip (Ent.skip (Ent.skip (Ent.refl _))))) | exact Ent.skip (Ent.skip (Ent.skip (Ent.skip (Ent.skip (Ent.skip (Ent.refl _)))))) | exact Ent.skip (Ent.skip (Ent.skip (Ent.skip (Ent.skip (Ent.skip (Ent.skip (Ent.refl _))))))) | exact Ent.skip (Ent.skip (Ent.skip (Ent.skip (Ent.skip (Ent.skip (Ent.skip (Ent.skip (Ent.refl _)))))))) | exact Ent.skip (Ent.skip (Ent.skip (Ent.skip (Ent.skip (Ent.skip (Ent.skip (Ent.skip (Ent.skip (Ent.refl _)))))))))) ?_))
            refine wpList_nil ⟨rfl, hs.only, ?_⟩
            refine wpAllP_next [10] (by kernel_rfl) (fun c hc => ?_)
            simp only [List.mem_singleton] at hc
            subst hc
            refine ⟨_, rfl, ?_⟩
            refine wpl_alloc zero3 hs ?_
            clear hs
            intro g16 w hs
            replace hs : St w0 (blk g16 (c3 V3.z).toArray 40 :: _) w := hs
            replace hs : St w0 (blk g13 (c3 d).toArray 28 :: SlB X s0 :: blk g16 (c3 V3.z).toArray 40 :: blk g17 (c3 V3.z).toArray 40 :: []) w := hs.ent (by (repeat first | exact Ent.refl _ | refine Ent.step (by first | exact Ent.refl _ | exact Ent.skip (Ent.refl _) | exact Ent.skip (Ent.skip (Ent.refl _)) | exact Ent.skip (Ent.skip (Ent.skip (Ent.refl _))) | exact Ent.skip (Ent.skip (Ent.skip (Ent.skip (Ent.refl _)))) | exact Ent.skip (Ent.skip (Ent.skip (Ent.skip (Ent.skip (Ent.refl _))))) | exact Ent.skip (Ent.skip (Ent.skip (Ent.skip (Ent.skip (Ent.skip (Ent.refl _)))))) | exact Ent.skip (Ent.skip (Ent.skip (Ent.skip (Ent.skip (Ent.skip (Ent.skip (Ent.refl _))))))) | exact Ent.skip (Ent.skip (Ent.skip (Ent.skip (Ent.skip (Ent.skip (Ent.skip (Ent.skip (Ent.refl _)))))))) | exact Ent.skip (Ent.skip (Ent.skip (Ent.skip (Ent.skip (Ent.skip (Ent.skip (Ent.skip (Ent.skip (Ent.refl _)))))))))) ?_))
            refine wpList_nil ⟨rfl, hs.only, ?_⟩
            refine wpAllP_next [12] (by kernel_rfl) (fun c hc => ?_)
            simp only [List.mem_singleton] at hc
            subst hc
            refine ⟨_, rfl, ?_⟩
            refine wpl_store_agg (v := val3 x) rfl rfl (size3 _) (hs.ent (M := blk g16 (c3 V3.z).toArray 40 :: blk g13 (c3 d).toArray 28 :: SlB X s0 :: blk g17 (c3 V3.z).toArray 40 :: []) (by (repeat first | exact Ent.refl _ | refine Ent.step (by first | exact Ent.refl _ | exact Ent.skip (Ent.refl _) | exact Ent.skip (Ent.skip (Ent.refl _)) | exact Ent.skip (Ent.skip (Ent.skip (Ent.refl _))) | exact Ent.skip (Ent.skip (Ent.skip (Ent.skip (Ent.refl _)))) | exact Ent.skip (Ent.skip (Ent.skip (Ent.skip (Ent.skip (Ent.refl _))))) | exact Ent.skip (Ent.skip (Ent.skip (Ent.skip (Ent.skip (Ent.skip (Ent.refl _)))))) | exact Ent.skip (Ent.skip (Ent.skip (Ent.skip (Ent.skip (Ent.skip (Ent.skip (Ent.refl _))))))) | exact Ent.skip (Ent.skip (Ent.skip (Ent.skip (Ent.skip (Ent.skip (Ent.skip (Ent.skip (Ent.refl _)))))))) | exact Ent.skip (Ent.skip (Ent.skip (Ent.skip (Ent.skip (Ent.skip (Ent.skip (Ent.skip (Ent.skip (Ent.refl _)))))))))) ?_))) WrA.slot3 ?_
            clear hs
            intro w hs
            replace hs : St w0 (blk g13 (c3 d).toArray 28 :: SlB X s0 :: blk g16 (c3 x).toArray 40 :: blk g17 (c3 V3.z).toArray 40 :: []) w := hs.ent (by (repeat first | exact Ent.refl _ | refine Ent.step (by first | exact Ent.refl _ | exact Ent.skip (Ent.refl _) | exact Ent.skip (Ent.skip (Ent.refl _)) | exact Ent.skip (Ent.skip (Ent.skip (Ent.refl _))) | exact Ent.skip (Ent.skip (Ent.skip (Ent.skip (Ent.refl _)))) | exact Ent.skip (Ent.skip (Ent.skip (Ent.skip (Ent.skip (Ent.refl _))))) | exact Ent.skip (Ent.skip (Ent.skip (Ent.skip (Ent.skip (Ent.skip (Ent.refl _)))))) | exact Ent.skip (Ent.skip (Ent.skip (Ent.skip (Ent.skip (Ent.skip (Ent.skip (Ent.refl _))))))) | exact Ent.skip (Ent.skip (Ent.skip (Ent.skip (Ent.skip (Ent.skip (Ent.skip (Ent.skip (Ent.refl _)))))))) | exact Ent.skip (Ent.skip (Ent.skip (Ent.skip (Ent.skip (Ent.skip (Ent.skip (Ent.skip (Ent.skip (Ent.refl _)))))))))) ?_))
            refine wpList_nil ⟨rfl, hs.only, ?_⟩
            refine wpAll_last [13] (by kernel_rfl) (fun c hc => ?_)
            simp only [List.mem_singleton] at hc
            subst hc
            refine ⟨_, rfl, ?_⟩
            refine wpl_store_agg (v := val3 y) rfl rfl (size3 _) (hs.ent (M := blk g17 (c3 V3.z).toArray 40 :: blk g13 (c3 d).toArray 28 :: SlB X s0 :: blk g16 (c3 x).toArray 40 :: []) (by (repeat first | exact Ent.refl _ | refine Ent.step (by first | exact Ent.refl _ | exact Ent.skip (Ent.refl _) | exact Ent.skip (Ent.skip (Ent.refl _)) | exact Ent.skip (Ent.skip (Ent.skip (Ent.refl _))) | exact Ent.skip (Ent.skip (Ent.skip (Ent.skip (Ent.refl _)))) | exact Ent.skip (Ent.skip (Ent.skip (Ent.skip (Ent.skip (Ent.refl _))))) | exact Ent.skip (Ent.skip (Ent.skip (Ent.skip (Ent.skip (Ent.skip (Ent.refl _)))))) | exact Ent.skip (Ent.skip (Ent.skip (Ent.skip (Ent.skip (Ent.skip (Ent.skip (Ent.refl _))))))) | exact Ent.skip (Ent.skip (Ent.skip (Ent.skip (Ent.skip (Ent.skip (Ent.skip (Ent.skip (Ent.refl _)))))))) | exact Ent.skip (Ent.skip (Ent.skip (Ent.skip (Ent.skip (Ent.skip (Ent.skip (Ent.skip (Ent.skip (Ent.refl _)))))))))) ?_))) WrA.slot3 ?_
            clear hs
            intro w hs
            replace hs : St w0 (blk g13 (c3 d).toArray 28 :: SlB X s0 :: blk g16 (c3 x).toArray 40 :: blk g17 (c3 y).toArray 40 :: []) w := hs.ent (by (repeat first | exact Ent.refl _ | refine Ent.step (by first | exact Ent.refl _ | exact Ent.skip (Ent.refl _) | exact Ent.skip (Ent.skip (Ent.refl _)) | exact Ent.skip (Ent.skip (Ent.skip (Ent.refl _))) | exact Ent.skip (Ent.skip (Ent.skip (Ent.skip (Ent.refl _)))) | exact Ent.skip (Ent.skip (Ent.skip (Ent.skip (Ent.skip (Ent.refl _))))) | exact Ent.skip (Ent.skip (Ent.skip (Ent.skip (Ent.skip (Ent.skip (Ent.refl _)))))) | exact Ent.skip (Ent.skip (Ent.skip (Ent.skip (Ent.skip (Ent.skip (Ent.skip (Ent.refl _))))))) | exact Ent.skip (Ent.skip (Ent.skip (Ent.skip (Ent.skip (Ent.skip (Ent.skip (Ent.skip (Ent.refl _)))))))) | exact Ent.skip (Ent.skip (Ent.skip (Ent.skip (Ent.skip (Ent.skip (Ent.skip (Ent.skip (Ent.skip (Ent.refl _)))))))))) ?_))
            go_wp2
            go_meet
            exact ⟨_, _, rfl, rfl, hs⟩
        · skip
          refine ⟨_, rfl, ?_⟩
          refine wpl_alloc zero3 hs ?_
          clear hs
          intro g16 w hs
          replace hs : St w0 (blk g16 (c3 V3.z).toArray 40 :: _) w := hs
          replace hs : St w0 (blk g13 (c3 d).toArray 28 :: SlB X s0 :: blk g16 (c3 V3.z).toArray 40 :: []) w := hs.ent (by (repeat first | exact Ent.refl _ | refine Ent.step (by first | exact Ent.refl _ | exact Ent.skip (Ent.refl _) | exact Ent.skip (Ent.skip (Ent.refl _)) | exact Ent.skip (Ent.skip (Ent.skip (Ent.refl _))) | exact Ent.skip (Ent.skip (Ent.skip (Ent.skip (Ent.refl _)))) | exact Ent.skip (Ent.skip (Ent.skip (Ent.skip (Ent.skip (Ent.refl _))))) | exact Ent.skip (Ent.skip (Ent.skip (Ent.skip (Ent.skip (Ent.skip (Ent.refl _)))))) | exact Ent.skip (Ent.skip (Ent.skip (Ent.skip (Ent.skip (Ent.skip (Ent.skip (Ent.refl _))))))) | exact Ent.skip (Ent.skip (Ent.skip (Ent.skip (Ent.skip (Ent.skip (Ent.skip (Ent.skip (Ent.refl _)))))))) | exact Ent.skip (Ent.skip (Ent.skip (Ent.skip (Ent.skip (Ent.skip (Ent.skip (Ent.skip (Ent.skip (Ent.refl _)))))))))) ?_))
          refine wpList_nil ⟨rfl, hs.only, ?_⟩
          refine wpAllP_next [9, 11] (by kernel_rfl) (fun c hc => ?_)
          simp only [List.mem_cons, List.not_mem_nil, or_false] at hc
          rcases hc with rfl | rfl
          · skip
            refine ⟨_, rfl, ?_⟩
            go_wp2_with (first
              | (go_at_call 24; refine (lvalue_c _ _ _ HY).mono ?_; rintro r w ⟨rfl, hg⟩; replace hs := hs.grew hg; clear hg))
            refine ⟨hs.only, ?_⟩
            refine wpAllP_next [11] (by kernel_rfl) (fun c hc => ?_)
            simp only [List.mem_singleton] at hc
            subst hc
            refine ⟨_, rfl, ?_⟩
            refine wpl_alloc zero3 hs ?_
            clear hs
            intro g17 w hs
            replace hs : St w0 (blk g17 (c3 V3.z).toArray 40 :: _) w := hs
            replace hs : St w0 (blk g13 (c3 d).toArray 28 :: SlB X s0 :: blk g16 (c3 V3.z).toArray 40 :: blk g17 (c3 V3.z).toArray 40 :: []) w := hs.ent (by (repeat first | exact Ent.refl _ | refine Ent.step (by first | exact Ent.refl _ | exact Ent.skip (Ent.refl _) | exact Ent.skip (Ent.skip (Ent.refl _)) | exact Ent.skip (Ent.skip (Ent.skip (Ent.refl _))) | exact Ent.skip (Ent.skip (Ent.skip (Ent.skip (Ent.refl _)))) | exact Ent.skip (Ent.skip (Ent.skip (Ent.skip (Ent.skip (Ent.refl _))))) | exact Ent.skip (Ent.skip (Ent.skip (Ent.skip (Ent.skip (Ent.skip (Ent.refl _)))))) | exact Ent.skip (Ent.skip (Ent.skip (Ent.skip (Ent.skip (Ent.skip (Ent.skip (Ent.refl _))))))) | exact Ent.skip (Ent.skip (Ent.skip (Ent.skip (Ent.skip (Ent.skip (Ent.skip (Ent.skip (Ent.refl _)))))))) | exact Ent.skip (Ent.skip (Ent.skip (Ent.skip (Ent.skip (Ent.skip (Ent.skip (Ent.skip (Ent.skip (Ent.refl _)))))))))) ?_))
            refine wpList_nil ⟨rfl, hs.only, ?_⟩
            refine wpAllP_next [12] (by kernel_rfl) (fun c hc => ?_)
            simp only [List.mem_singleton] at hc
            subst hc
            refine ⟨_, rfl, ?_⟩
            refine wpl_store_agg (v := val3 x) rfl rfl (size3 _) (hs.ent (M := blk g16 (c3 V3.z).toArray 40 :: blk g13 (c3 d).toArray 28 :: SlB X s0 :: blk g17 (c3 V3.z).toArray 40 :: []) (by (repeat first | exact Ent.refl _ | refine Ent.step (by first | exact Ent.refl _ | exact Ent.skip (Ent.refl _) | exact Ent.skip (Ent.skip (Ent.refl _)) | exact Ent.skip (Ent.skip (Ent.skip (Ent.refl _))) | exact Ent.skip (Ent.skip (Ent.skip (Ent.skip (Ent.refl _)))) | exact Ent.skip (Ent.skip (Ent.skip (Ent.skip (Ent.skip (Ent.refl _))))) | exact Ent.skip (Ent.skip (Ent.skip (Ent.skip (Ent.skip (Ent.skip (Ent.refl _)))))) | exact Ent.skip (Ent.skip (Ent.skip (Ent.skip (Ent.skip (Ent.skip (Ent.skip (Ent.refl _))))))) | exact Ent.skip (Ent.skip (Ent.skip (Ent.skip (Ent.skip (Ent.skip (Ent.skip (Ent.skip (Ent.refl _)))))))) | exact Ent.skip (Ent.skip (Ent.skip (Ent.skip (Ent.skip (Ent.skip (Ent.skip (Ent.skip (Ent.skip (Ent.refl _)))))))))) ?_))) WrA.slot3 ?_
            clear hs
            intro w hs
            replace hs : St w0 (blk g13 (c3 d).toArray 28 :: SlB X s0 :: blk g16 (c3 x).toArray 40 :: blk g17 (c3 V3.z).toArray 40 :: []) w := hs.ent (by (repeat first | exact Ent.refl _ | refine Ent.step (by first | exact Ent.refl _ | exact Ent.skip (Ent.refl _) | exact Ent.skip (Ent.skip (Ent.refl _)) | exact Ent.skip (Ent.skip (Ent.skip (Ent.refl _))) | exact Ent.skip (Ent.skip (Ent.skip (Ent.skip (Ent.refl _)))) | exact Ent.skip (Ent.skip (Ent.skip (Ent.skip (Ent.skip (Ent.refl _))))) | exact Ent.skip (Ent.skip (Ent.skip (Ent.skip (Ent.skip (Ent.skip (Ent.refl _)))))) | exact Ent.skip (Ent.skip (Ent.skip (Ent.skip (Ent.skip (Ent.skip (Ent.skip (Ent.refl _))))))) | exact Ent.skip (Ent.skip (Ent.skip (Ent.skip (Ent.skip (Ent.skip (Ent.skip (Ent.skip (Ent.refl _)))))))) | exact Ent.skip (Ent.skip (Ent.skip (Ent.skip (Ent.skip (Ent.skip (Ent.skip (Ent.skip (Ent.skip (Ent.refl _)))))))))) ?_))
            refine wpList_nil ⟨rfl, hs.only, ?_⟩
            refine wpAll_last [13] (by kernel_rfl) (fun c hc => ?_)
            simp only [List.mem_singleton] at hc
            subst hc
            refine ⟨_, rfl, ?_⟩
            refine wpl_store_agg (v := val3 y) rfl rfl (size3 _) (hs.ent (M := blk g17 (c3 V3.z).toArray 40 :: blk g13 (c3 d).toArray 28 :: SlB X s0 :: blk g16 (c3 x).toArray 40 :: []) (by (repeat first | exact Ent.refl _ | refine Ent.step (by first | exact Ent.refl _ | exact Ent.skip (Ent.refl _) | exact Ent.skip (Ent.skip (Ent.refl _)) | exact Ent.skip (Ent.skip (Ent.skip (Ent.refl _))) | exact Ent.skip (Ent.skip (Ent.skip (Ent.skip (Ent.refl _)))) | exact Ent.skip (Ent.skip (Ent.skip (Ent.skip (Ent.skip (Ent.refl _))))) | exact Ent.skip (Ent.skip (Ent.skip (Ent.skip (Ent.skip (Ent.skip (Ent.refl _)))))) | exact Ent.skip (Ent.skip (Ent.skip (Ent.skip (Ent.skip (Ent.skip (Ent.skip (Ent.refl _))))))) | exact Ent.skip (Ent.skip (Ent.skip (Ent.skip (Ent.skip (Ent.skip (Ent.skip (Ent.skip (Ent.refl _)))))))) | exact Ent.skip (Ent.skip (Ent.skip (Ent.skip (Ent.skip (Ent.skip (Ent.skip (Ent.skip (Ent.skip (Ent.refl _)))))))))) ?_))) WrA.slot3 ?_
            clear hs
            intro w hs
            replace hs : St w0 (blk g13 (c3 d).toArray 28 :: SlB X s0 :: blk g16 (c3 x).toArray 40 :: blk g17 (c3 y).toArray 40 :: []) w := hs.ent (by (repeat first | exact Ent.refl _ | refine Ent.step (by first | exact Ent.refl _ | exact Ent.skip (Ent.refl _) | exact Ent.skip (Ent.skip (Ent.refl _)) | exact Ent.skip (Ent.skip (Ent.skip (Ent.refl _))) | exact Ent.skip (Ent.skip (Ent.skip (Ent.skip (Ent.refl _)))) | exact Ent.skip (Ent.skip (Ent.skip (Ent.skip (Ent.skip (Ent.refl _))))) | exact Ent.skip (Ent.skip (Ent.skip (Ent.skip (Ent.skip (Ent.skip (Ent.refl _)))))) | exact Ent.skip (Ent.skip (Ent.skip (Ent.skip (Ent.skip (Ent.skip (Ent.skip (Ent.refl _))))))) | exact Ent.skip (Ent.skip (Ent.skip (Ent.skip (Ent.skip (Ent.skip (Ent.skip (Ent.skip (Ent.refl _)))))))) | exact Ent.skip (Ent.skip (Ent.skip (Ent.skip (Ent.skip (Ent.skip (Ent.skip (Ent.skip (Ent.skip (Ent.refl _)))))))))) ?_))
            go_wp2
            go_meet
            exact ⟨_, _, rfl, rfl, hs⟩
          · skip
            refine ⟨_, rfl, ?_⟩
            refine wpl_alloc zero3 hs ?_
            clear hs
            intro g17 w hs
            replace hs : St w0 (blk g17 (c3 V3.z).toArray 40 :: _) w := hs
            replace hs : St w0 (blk g13 (c3 d).toArray 28 :: SlB X s0 :: blk g16 (c3 V3.z).toArray 40 :: blk g17 (c3 V3.z).toArray 40 :: []) w := hs.ent (by (repeat first | exact Ent.refl _ | refine Ent.step (by first | exact Ent.refl _ | exact Ent.skip (Ent.refl _) | exact Ent.skip (Ent.skip (Ent.refl _)) | exact Ent.skip (Ent.skip (Ent.skip (Ent.refl _))) | exact Ent.skip (Ent.skip (Ent.skip (Ent.skip (Ent.refl _)))) | exact Ent.skip (Ent.skip (Ent.skip (Ent.skip (Ent.skip (Ent.refl _))))) | exact Ent.skip (Ent.skip (Ent.skip (Ent.skip (Ent.skip (Ent.skip (Ent.refl _)))))) | exact Ent.skip (Ent.skip (Ent.skip (Ent.skip (Ent.skip (Ent.skip (Ent.skip (Ent.refl _))))))) | exact Ent.skip (Ent.skip (Ent.skip (Ent.skip (Ent.skip (Ent.skip (Ent.skip (Ent.skip (Ent.refl _)))))))) | exact Ent.skip (Ent.skip (Ent.skip (Ent.skip (Ent.skip (Ent.skip (Ent.skip (Ent.skip (Ent.skip (Ent.refl _)))))))))) ?_))
            refine wpList_nil ⟨rfl, hs.only, ?_⟩
            refine wpAllP_next [9] (by kernel_rfl) (fun c hc => ?_)
            simp only [List.mem_singleton] at hc
            subst hc
            refine ⟨_, rfl, ?_⟩
            go_wp2_with (first
              | (go_at_call 24; refine (lvalue_c _ _ _ HY).mono ?_; rintro r w ⟨rfl, hg⟩; replace hs := hs.grew hg; clear hg))
            refine ⟨hs.only, ?_⟩
            refine wpAllP_next [12] (by kernel_rfl) (fun c hc => ?_)
            simp only [List.mem_singleton] at hc
            subst hc
            refine ⟨_, rfl, ?_⟩
            refine wpl_store_agg (v := val3 x) rfl rfl (size3 _) (hs.ent (M := blk g16 (c3 V3.z).toArray 40 :: blk g13 (c3 d).toArray 28 :: SlB X s0 :: blk g17 (c3 V3.z).toArray 40 :: []) (by (repeat first | exact Ent.refl _ | refine Ent.step (by first | exact Ent.refl _ | exact Ent.skip (Ent.refl _) | exact Ent.skip (Ent.skip (Ent.refl _)) | exact Ent.skip (Ent.skip (Ent.skip (Ent.refl _))) | exact Ent.skip (Ent.skip (Ent.skip (Ent.skip (Ent.refl _)))) | exact Ent.skip (Ent.skip (Ent.skip (Ent.skip (Ent.skip (Ent.refl _))))) | exact Ent.skip (Ent.skip (Ent.skip (Ent.skip (Ent.skip (Ent.skip (Ent.refl _)))))) | exact Ent.skip (Ent.skip (Ent.skip (Ent.skip (Ent.skip (Ent.skip (Ent.skip (Ent.refl _))))))) | exact Ent.skip (Ent.skip (Ent.skip (Ent.skip (Ent.skip (Ent.skip (Ent.skip (Ent.skip (Ent.refl _)))))))) | exact Ent.skip (Ent.skip (Ent.skip (Ent.skip (Ent.skip (Ent.skip (Ent.skip (Ent.skip (Ent.skip (Ent.refl _)))))))))) ?_))) WrA.slot3 ?_
            clear hs
            intro w hs
            replace hs : St w0 (blk g13 (c3 d).toArray 28 :: SlB X s0 :: blk g16 (c3 x).toArray 40 :: blk g17 (c3 V3.z).toArray 40 :: []) w := hs.ent (by (repeat first | exact Ent.refl _ | refine Ent.step (by first | exact Ent.refl _ | exact Ent.skip (Ent.refl _) | exact Ent.skip (Ent.skip (Ent.refl _)) | exact Ent.skip (Ent.skip (Ent.skip (Ent.refl _))) | exact Ent.skip (Ent.skip (Ent.skip (Ent.skip (Ent.refl _)))) | exact Ent.skip (Ent.skip (Ent.skip (Ent.skip (Ent.skip (Ent.refl _))))) | exact Ent.skip (Ent.skip (Ent.skip (Ent.skip (Ent.skip (Ent.skip (Ent.refl _)))))) | exact Ent.skip (Ent.skip (Ent.skip (Ent.skip (Ent.skip (Ent.skip (Ent.skip (Ent.refl _))))))) | exact Ent.skip (Ent.skip (Ent.skip (Ent.skip (Ent.skip (Ent.skip (Ent.skip (Ent.skip (Ent.refl _)))))))) | exact Ent.skip (Ent.skip (Ent.skip (Ent.skip (Ent.skip (Ent.skip (Ent.skip (Ent.skip (Ent.skip (Ent.refl _)))))))))) ?_))
            refine wpList_nil ⟨rfl, hs.only, ?_⟩
            refine wpAll_last [13] (by kernel_rfl) (fun c hc => ?_)
            simp only [List.mem_singleton] at hc
            subst hc
            refine ⟨_, rfl, ?_⟩
            refine wpl_store_agg (v := val3 y) rfl rfl (size3 _) (hs.ent (M := blk g17 (c3 V3.z).toArray 40 :: blk g13 (c3 d).toArray 28 :: SlB X s0 :: blk g16 (c3 x).toArray 40 :: []) (by (repeat first | exact Ent.refl _ | refine Ent.step (by first | exact Ent.refl _ | exact Ent.skip (Ent.refl _) | exact Ent.skip (Ent.skip (Ent.refl _)) | exact Ent.skip (Ent.skip (Ent.skip (Ent.refl _))) | exact Ent.skip (Ent.skip (Ent.skip (Ent.skip (Ent.refl _)))) | exact Ent.skip (Ent.skip (Ent.skip (Ent.skip (Ent.skip (Ent.refl _))))) | exact Ent.skip (Ent.skip (Ent.skip (Ent.skip (Ent.skip (Ent.skip (Ent.refl _)))))) | exact Ent.skip (Ent.skip (Ent.skip (Ent.skip (Ent.skip (Ent.skip (Ent.skip (Ent.refl _))))))) | exact Ent.skip (Ent.skip (Ent.skip (Ent.skip (Ent.skip (Ent.skip (Ent.skip (Ent.skip (Ent.refl _)))))))) | exact Ent.skip (Ent.skip (Ent.skip (Ent.skip (Ent.skip (Ent.skip (Ent.skip (Ent.skip (Ent.skip (Ent.refl _)))))))))) ?_))) WrA.slot3 ?_
            clear hs
            intro w hs
            replace hs : St w0 (blk g13 (c3 d).toArray 28 :: SlB X s0 :: blk g16 (c3 x).toArray 40 :: blk g17 (c3 y).toArray 40 :: []) w := hs.ent (by (repeat first | exact Ent.refl _ | refine Ent.step (by first | exact Ent.refl _ | exact Ent.skip (Ent.refl _) | exact Ent.skip (Ent.skip (Ent.refl _)) | exact Ent.skip (Ent.skip (Ent.skip (Ent.refl _))) | exact Ent.skip (Ent.skip (Ent.skip (Ent.skip (Ent.refl _)))) | exact Ent.skip (Ent.skip (Ent.skip (Ent.skip (Ent.skip (Ent.refl _))))) | exact Ent.skip (Ent.skip (Ent.skip (Ent.skip (Ent.skip (Ent.skip (Ent.refl _)))))) | exact Ent.skip (Ent.skip (Ent.skip (Ent.skip (Ent.skip (Ent.skip (Ent.skip (Ent.refl _))))))) | exact Ent.skip (Ent.skip (Ent.skip (Ent.skip (Ent.skip (Ent.skip (Ent.skip (Ent.skip (Ent.refl _)))))))) | exact Ent.skip (Ent.skip (Ent.skip (Ent.skip (Ent.skip (Ent.skip (Ent.skip (Ent.skip (Ent.skip (Ent.refl _)))))))))) ?_))
            go_wp2
            go_meet
            exact ⟨_, _, rfl, rfl, hs⟩
        · skip
          refine ⟨_, rfl, ?_⟩
          refine wpl_alloc zero3 hs ?_
          clear hs
          intro g17 w hs
          replace hs : St w0 (blk g17 (c3 V3.z).toArray 40 :: _) w := hs
          replace hs : St w0 (blk g13 (c3 d).toArray 28 :: SlB X s0 :: blk g17 (c3 V3.z).toArray 40 :: []) w := hs.ent (by (repeat first | exact Ent.refl _ | refine Ent.step (by first | exact Ent.refl _ | exact Ent.skip (Ent.refl _) | exact Ent.skip (Ent.skip (Ent.refl _)) | exact Ent.skip (Ent.skip (Ent.skip (Ent.refl _))) | exact Ent.skip (Ent.skip (Ent.skip (Ent.skip (Ent.refl _)))) | exact Ent.skip (Ent.skip (Ent.skip (Ent.skip (Ent.skip (Ent.refl _))))) | exact Ent.skip (Ent.skip (Ent.skip (Ent.skip (Ent.skip (Ent.skip (Ent.refl _)))))) | exact Ent.skip (Ent.skip (Ent.skip (Ent.skip (Ent.skip (Ent.skip (Ent.skip (Ent.refl _))))))) | exact Ent.skip (Ent.skip (Ent.skip (Ent.skip (Ent.skip (Ent.skip (Ent.skip (Ent.skip (Ent.refl _)))))))) | exact Ent.skip (Ent.skip (Ent.skip (Ent.skip (Ent.skip (Ent.skip (Ent.skip (Ent.skip (Ent.skip (Ent.refl _)))))))))) ?_))
          refine wpList_nil ⟨rfl, hs.only, ?_⟩
          refine wpAllP_next [9, 10] (by kernel_rfl) (fun c hc => ?_)
          simp only [List.mem_cons, List.not_mem_nil, or_false] at hc
          rcases hc with rfl | rfl
          · skip
            refine ⟨_, rfl, ?_⟩
            go_wp2_with (first
              | (go_at_call 24; refine (lvalue_c _ _ _ HY).mono ?_; rintro r w ⟨rfl, hg⟩; replace hs := hs.grew hg; clear hg))
            refine ⟨hs.only, ?_⟩
            refine wpAllP_next [10] (by kernel_rfl) (fun c hc => ?_)
            simp only [List.mem_singleton] at hc
            subst hc
            refine ⟨_, rfl, ?_⟩
            refine wpl_alloc zero3 hs ?_
            clear hs
            intro g16 w hs
            replace hs : St w0 (blk g16 (c3 V3.z).toArray 40 :: _) w := hs
            replace hs : St w0 (blk g13 (c3 d).toArray 28 :: SlB X s0 :: blk g16 (c3 V3.z).toArray 40 :: blk g17 (c3 V3.z).toArray 40 :: []) w := hs.ent (by (repeat first | exact Ent.refl _ | refine Ent.step (by first | exact Ent.refl _ | exact Ent.skip (Ent.refl _) | exact Ent.skip (Ent.skip (Ent.refl _)) | exact Ent.skip (Ent.skip (Ent.skip (Ent.refl _))) | exact Ent.skip (Ent.skip (Ent.skip (Ent.skip (Ent.refl _)))) | exact Ent.skip (Ent.skip (Ent.skip (Ent.skip (Ent.skip (Ent.refl _))))) | exact Ent.skip (Ent.skip (Ent.skip (Ent.skip (Ent.skip (Ent.skip (Ent.refl _)))))) | exact Ent.skip (Ent.skip (Ent.skip (Ent.skip (Ent.skip (Ent.skip (Ent.skip (Ent.refl _))))))) | exact Ent.skip (Ent.skip (Ent.skip (Ent.skip (Ent.skip (Ent.skip (Ent.skip (Ent.skip (Ent.refl _)))))))) | exact Ent.skip (Ent.skip (Ent.skip (Ent.skip (Ent.skip (Ent.skip (Ent.skip (Ent.skip (Ent.skip (Ent.refl _)))))))))) ?_))
            refine wpList_nil ⟨rfl, hs.only, ?_⟩
            refine wpAllP_next [12] (by kernel_rfl) (fun c hc => ?_)
            simp only [List.mem_singleton] at hc
            subst hc
            refine ⟨_, rfl, ?_⟩
            refine wpl_store_agg (v := val3 x) rfl rfl (size3 _) (hs.ent (M := blk g16 (c3 V3.z).toArray 40 :: blk g13 (c3 d).toArray 28 :: SlB X s0 :: blk g17 (c3 V3.z).toArray 40 :: []) (by (repeat first | exact Ent.refl _ | refine Ent.step (by first | exact Ent.refl _ | exact Ent.skip (Ent.refl _) | exact Ent.skip (Ent.skip (Ent.refl _)) | exact Ent.skip (Ent.skip (Ent.skip (Ent.refl _))) | exact Ent.skip (Ent.skip (Ent.skip (Ent.skip (Ent.refl _)))) | exact Ent.skip (Ent.skip (Ent.skip (Ent.skip (Ent.skip (Ent.refl _))))) | exact Ent.skip (Ent.skip (Ent.skip (Ent.skip (Ent.skip (Ent.skip (Ent.refl _)))))) | exact Ent.skip (Ent.skip (Ent.skip (Ent.skip (Ent.skip (Ent.skip (Ent.skip (Ent.refl _))))))) | exact Ent.skip (Ent.skip (Ent.skip (Ent.skip (Ent.skip (Ent.skip (Ent.skip (Ent.skip (Ent.refl _)))))))) | exact Ent.skip (Ent.skip (Ent.skip (Ent.skip (Ent.skip (Ent.skip (Ent.skip (Ent.skip (Ent.skip (Ent.refl _)))))))))) ?_))) WrA.slot3 ?_
            clear hs
            intro w hs
            replace hs : St w0 (blk g13 (c3 d).toArray 28 :: SlB X s0 :: blk g16 (c3 x).toArray 40 :: blk g17 (c3 V3.z).toArray 40 :: []) w := hs.ent (by (repeat first | exact Ent.refl _ | refine Ent.step (by first | exact Ent.refl _ | exact Ent.skip (Ent.refl _) | exact Ent.skip (Ent.skip (Ent.refl _)) | exact Ent.skip (Ent.skip (Ent.skip (Ent.refl _))) | exact Ent.skip (Ent.skip (Ent.skip (Ent.skip (Ent.refl _)))) | exact Ent.skip (Ent.skip (Ent.skip (Ent.skip (Ent.skip (Ent.refl _))))) | exact Ent.skip (Ent.skip (Ent.skip (Ent.skip (Ent.skip (Ent.skip (Ent.refl _)))))) | exact Ent.skip (Ent.skip (Ent.skip (Ent.skip (Ent.skip (Ent.skip (Ent.skip (Ent.refl _))))))) | exact Ent.skip (Ent.skip (Ent.skip (Ent.skip (Ent.skip (Ent.skip (Ent.skip (Ent.skip (Ent.refl _)))))))) | exact Ent.skip (Ent.skip (Ent.skip (Ent.skip (Ent.skip (Ent.skip (Ent.skip (Ent.skip (Ent.skip (Ent.refl _)))))))))) ?_))
            refine wpList_nil ⟨rfl, hs.only, ?_⟩
            refine wpAll_last [13] (by kernel_rfl) (fun c hc => ?_)
            simp only [List.mem_singleton] at hc
            subst hc
            refine ⟨_, rfl, ?_⟩
            refine wpl_store_agg (v := val3 y) rfl rfl (size3 _) (hs.ent (M := blk g17 (c3 V3.z).toArray 40 :: blk g13 (c3 d).toArray 28 :: SlB X s0 :: blk g16 (c3 x).toArray 40 :: []) (by (repeat first | exact Ent.refl _ | refine Ent.step (by first | exact Ent.refl _ | exact Ent.skip (Ent.refl _) | exact Ent.skip (Ent.skip (Ent.refl _)) | exact Ent.skip (Ent.skip (Ent.skip (Ent.refl _))) | exact Ent.skip (Ent.skip (Ent.skip (Ent.skip (Ent.refl _)))) | exact Ent.skip (Ent.skip (Ent.skip (Ent.skip (Ent.skip (Ent.refl _))))) | exact Ent.skip (Ent.skip (Ent.skip (Ent.skip (Ent.skip (Ent.skip (Ent.refl _)))))) | exact Ent.skip (Ent.skip (Ent.skip (Ent.skip (Ent.skip (Ent.skip (Ent.skip (Ent.refl _))))))) | exact Ent.skip (Ent.skip (Ent.skip (Ent.skip (Ent.skip (Ent.skip (Ent.skip (Ent.skip (Ent.refl _)))))))) | exact Ent.skip (Ent.skip (Ent.skip (Ent.skip (Ent.skip (Ent.skip (Ent.skip (Ent.skip (Ent.skip (Ent.refl _)))))))))) ?_))) WrA.slot3 ?_
            clear hs
            intro w hs
            replace hs : St w0 (blk g13 (c3 d).toArray 28 :: SlB X s0 :: blk g16 (c3 x).toArray 40 :: blk g17 (c3 y).toArray 40 :: []) w := hs.ent (by (repeat first | exact Ent.refl _ | refine Ent.step (by first | exact Ent.refl _ | exact Ent.skip (Ent.refl _) | exact Ent.skip (Ent.skip (Ent.refl _)) | exact Ent.skip (Ent.skip (Ent.skip (Ent.refl _))) | exact Ent.skip (Ent.skip (Ent.skip (Ent.skip (Ent.refl _)))) | exact Ent.skip (Ent.skip (Ent.skip (Ent.skip (Ent.skip (Ent.refl _))))) | exact Ent.skip (Ent.skip (Ent.skip (Ent.skip (Ent.skip (Ent.skip (Ent.refl _)))))) | exact Ent.skip (Ent.skip (Ent.skip (Ent.skip (Ent.skip (Ent.skip (Ent.skip (Ent.refl _))))))) | exact Ent.skip (Ent.skip (Ent.skip (Ent.skip (Ent.skip (Ent.skip (Ent.skip (Ent.skip (Ent.refl _)))))))) | exact Ent.skip (Ent.skip (Ent.skip (Ent.skip (Ent.skip (Ent.skip (Ent.skip (Ent.skip (Ent.skip (Ent.refl _)))))))))) ?_))
            go_wp2
            go_meet
            exact ⟨_, _, rfl, rfl, hs⟩
          · skip
            refine ⟨_, rfl, ?_⟩
            refine wpl_alloc zero3 hs ?_
            clear hs
            intro g16 w hs
            replace hs : St w0 (blk g16 (c3 V3.z).toArray 40 :: _) w := hs
            replace hs : St w0 (blk g13 (c3 d).toArray 28 :: SlB X s0 :: blk g16 (c3 V3.z).toArray 40 :: blk g17 (c3 V3.z).toArray 40 :: []) w := hs.ent (by (repeat first | exact Ent.refl _ | refine Ent.step (by first | exact Ent.refl _ | exact Ent.skip (Ent.refl _) | exact Ent.skip (Ent.skip (Ent.refl _)) | exact Ent.skip (Ent.skip (Ent.skip (Ent.refl _))) | exact Ent.skip (Ent.skip (Ent.skip (Ent.skip (Ent.refl _)))) | exact Ent.skip (Ent.skip (Ent.skip (Ent.skip (Ent.skip (Ent.refl _))))) | exact Ent.skip (Ent.skip (Ent.skip (Ent.skip (Ent.skip (Ent.skip (Ent.refl _)))))) | exact Ent.skip (Ent.skip (Ent.skip (Ent.skip (Ent.skip (Ent.skip (Ent.skip (Ent.refl _))))))) | exact Ent.skip (Ent.skip (Ent.skip (Ent.skip (Ent.skip (Ent.skip (Ent.skip (Ent.skip (Ent.refl _)))))))) | exact Ent.skip (Ent.skip (Ent.skip (Ent.skip (Ent.skip (Ent.skip (Ent.skip (Ent.skip (Ent.skip (Ent.refl _)))))))))) ?_))
            refine wpList_nil ⟨rfl, hs.only, ?_⟩
            refine wpAllP_next [9] (by kernel_rfl) (fun c hc => ?_)
            simp only [List.mem_singleton] at hc
            subst hc
            refine ⟨_, rfl, ?_⟩
            go_wp2_with (first
              | (go_at_call 24; refine (lvalue_c _ _ _ HY).mono ?_; rintro r w ⟨rfl, hg⟩; replace hs := hs.grew hg; clear hg))
            refine ⟨hs.only, ?_⟩
            refine wpAllP_next [12] (by kernel_rfl) (fun c hc => ?_)
            simp only [List.mem_singleton] at hc
            subst hc
            refine ⟨_, rfl, ?_⟩
            refine wpl_store_agg (v := val3 x) rfl rfl (size3 _) (hs.ent (M := blk g16 (c3 V3.z).toArray 40 :: blk g13 (c3 d).toArray 28 :: SlB X s0 :: blk g17 (c3 V3.z).toArray 40 :: []) (by (repeat first | exact Ent.refl _ | refine Ent.step (by first | exact Ent.refl _ | exact Ent.skip (Ent.refl _) | exact Ent.skip (Ent.skip (Ent.refl _)) | exact Ent.skip (Ent.skip (Ent.skip (Ent.refl _))) | exact Ent.skip (Ent.skip (Ent.skip (Ent.skip (Ent.refl _)))) | exact Ent.skip (Ent.skip (Ent.skip (Ent.skip (Ent.skip (Ent.refl _))))) | exact Ent.skip (Ent.skip (Ent.skip (Ent.skip (Ent.skip (Ent.skip (Ent.refl _)))))) | exact Ent.skip (Ent.skip (Ent.skip (Ent.skip (Ent.skip (Ent.skip (Ent.skip (Ent.refl _))))))) | exact Ent.skip (Ent.skip (Ent.skip (Ent.skip (Ent.skip (Ent.skip (Ent.skip (Ent.skip (Ent.refl _)))))))) | exact Ent.skip (Ent.skip (Ent.skip (Ent.skip (Ent.skip (Ent.skip (Ent.skip (Ent.skip (Ent.skip (Ent.refl _)))))))))) ?_))) WrA.slot3 ?_
            clear hs
            intro w hs
            replace hs : St w0 (blk g13 (c3 d).toArray 28 :: SlB X s0 :: blk g16 (c3 x).toArray 40 :: blk g17 (c3 V3.z).toArray 40 :: []) w := hs.ent (by (repeat first | exact Ent.refl _ | refine Ent.step (by first | exact Ent.refl _ | exact Ent.skip (Ent.refl _) | exact Ent.skip (Ent.skip (Ent.refl _)) | exact Ent.skip (Ent.skip (Ent.skip (Ent.refl _))) | exact Ent.skip (Ent.skip (Ent.skip (Ent.skip (Ent.refl _)))) | exact Ent.skip (Ent.skip (Ent.skip (Ent.skip (Ent.skip (Ent.refl _))))) | exact Ent.skip (Ent.skip (Ent.skip (Ent.skip (Ent.skip (Ent.skip (Ent.refl _)))))) | exact Ent.skip (Ent.skip (Ent.skip (Ent.skip (Ent.skip (Ent.skip (Ent.skip (Ent.refl _))))))) | exact Ent.skip (Ent.skip (Ent.skip (Ent.skip (Ent.skip (Ent.skip (Ent.skip (Ent.skip (Ent.refl _)))))))) | exact Ent.skip (Ent.skip (Ent.skip (Ent.skip (Ent.skip (Ent.skip (Ent.skip (Ent.skip (Ent.skip (Ent.refl _)))))))))) ?_))
            refine wpList_nil ⟨rfl, hs.only, ?_⟩
            refine wpAll_last [13] (by kernel_rfl) (fun c hc => ?_)
            simp only [List.mem_singleton] at hc
            subst hc
            refine ⟨_, rfl, ?_⟩
            refine wpl_store_agg (v := val3 y) rfl rfl (size3 _) (hs.ent (M := blk g17 (c3 V3.z).toArray 40 :: blk g13 (c3 d).toArray 28 :: SlB X s0 :: blk g16 (c3 x).toArray 40 :: []) (by (repeat first | exact Ent.refl _ | refine Ent.step (by first | exact Ent.refl _ | exact Ent.skip (Ent.refl _) | exact Ent.skip (Ent.skip (Ent.refl _)) | exact Ent.skip (Ent.skip (Ent.skip (Ent.refl _))) | exact Ent.skip (Ent.skip (Ent.skip (Ent.skip (Ent.refl _)))) | exact Ent.skip (Ent.skip (Ent.skip (Ent.skip (Ent.skip (Ent.refl _))))) | exact Ent.skip (Ent.skip (Ent.skip (Ent.skip (Ent.skip (Ent.skip (Ent.refl _)))))) | exact Ent.skip (Ent.skip (Ent.skip (Ent.skip (Ent.skip (Ent.skip (Ent.skip (Ent.refl _))))))) | exact Ent.skip (Ent.skip (Ent.skip (Ent.skip (Ent.skip (Ent.skip (Ent.skip (Ent.skip (Ent.refl _)))))))) | exact Ent.skip (Ent.skip (Ent.skip (Ent.skip (Ent.skip (Ent.skip (Ent.skip (Ent.skip (Ent.skip (Ent.refl _)))))))))) ?_))) WrA.slot3 ?_
            clear hs
            intro w hs
            replace hs : St w0 (blk g13 (c3 d).toArray 28 :: SlB X s0 :: blk g16 (c3 x).toArray 40 :: blk g17 (c3 y).toArray 40 :: []) w := hs.ent (by (repeat first | exact Ent.refl _ | refine Ent.step (by first | exact Ent.refl _ | exact Ent.skip (Ent.refl _) | exact Ent.skip (Ent.skip (Ent.refl _)) | exact Ent.skip (Ent.skip (Ent.skip (Ent.refl _))) | exact Ent.skip (Ent.skip (Ent.skip (Ent.skip (Ent.refl _)))) | exact Ent.skip (Ent.skip (Ent.skip (Ent.skip (Ent.skip (Ent.refl _))))) | exact Ent.skip (Ent.skip (Ent.skip (Ent.skip (Ent.skip (Ent.skip (Ent.refl _)))))) | exact Ent.skip (Ent.skip (Ent.skip (Ent.skip (Ent.skip (Ent.skip (Ent.skip (Ent.refl _))))))) | exact Ent.skip (Ent.skip (Ent.skip (Ent.skip (Ent.skip (Ent.skip (Ent.skip (Ent.skip (Ent.refl _)))))))) | exact Ent.skip (Ent.skip (Ent.skip (Ent.skip (Ent.skip (Ent.skip (Ent.skip (Ent.skip (Ent.skip (Ent.refl _)))))))))) ?_))
            go_wp2
            go_meet
            exact ⟨_, _, rfl, rfl, hs⟩
      · skip
        refine ⟨_, rfl, ?_⟩
        refine wpl_alloc zero3 hs ?_
        clear hs
        intro g16 w hs
        replace hs : St w0 (blk g16 (c3 V3.z).toArray 40 :: _) w := hs
        replace hs : St w0 (blk g13 (c3 d).toArray 28 :: SlB X s0 :: blk g16 (c3 V3.z).toArray 40 :: []) w := hs.ent (by (repeat first | exact Ent.refl _ | refine Ent.step (by first | exact Ent.refl _ | exact Ent.skip (Ent.refl _) | exact Ent.skip (Ent.skip (Ent.refl _)) | exact Ent.skip (Ent.skip (Ent.skip (Ent.refl _))) | exact Ent.skip (Ent.skip (Ent.skip (Ent.skip (Ent.refl _)))) | exact Ent.skip (Ent.skip (Ent.skip (Ent.skip (Ent.skip (Ent.refl _))))) | exact Ent.skip (Ent.skip (Ent.skip (Ent.skip (Ent.skip (Ent.skip (Ent.refl _)))))) | exact Ent.skip (Ent.skip (Ent.skip (Ent.skip (Ent.skip (Ent.skip (Ent.skip (Ent.refl _))))))) | exact Ent.skip (Ent.skip (Ent.skip (Ent.skip (Ent.skip (Ent.skip (Ent.skip (Ent.skip (Ent.refl _)))))))) | exact Ent.skip (Ent.skip (Ent.skip (Ent.skip (Ent.skip (Ent.skip (Ent.skip (Ent.skip (Ent.skip (Ent.refl _)))))))))) ?_))
        refine wpList_nil ⟨rfl, hs.only, ?_⟩
        refine wpAllP_next [4, 11] (by kernel_rfl) (fun c hc => ?_)
        simp only [List.mem_cons, List.not_mem_nil, or_false] at hc
        rcases hc with rfl | rfl
        · skip
          refine ⟨_, rfl, ?_⟩
          go_wp2_with (first
            | (go_at_call 24; refine (lvalue_c _ _ _ HX).mono ?_; rintro r w ⟨rfl, hg⟩; replace hs := hs.grew hg; clear hg))
          refine ⟨hs.only, ?_⟩
          refine wpAllP_next [9, 11] (by kernel_rfl) (fun c hc => ?_)
          simp only [List.mem_cons, List.not_mem_nil, or_false] at hc
          rcases hc with rfl | rfl
          · skip
            refine ⟨_, rfl, ?_⟩
            go_wp2_with (first
              | (go_at_call 24; refine (lvalue_c _ _ _ HY).mono ?_; rintro r w ⟨rfl, hg⟩; replace hs := hs.grew hg; clear hg))
            refine ⟨hs.only, ?_⟩
            refine wpAllP_next [11] (by kernel_rfl) (fun c hc => ?_)
            simp only [List.mem_singleton] at hc
            subst hc
            refine ⟨_, rfl, ?_⟩
            refine wpl_alloc zero3 hs ?_
            clear hs
            intro g17 w hs
            replace hs : St w0 (blk g17 (c3 V3.z).toArray 40 :: _) w := hs
            replace hs : St w0 (blk g13 (c3 d).toArray 28 :: SlB X s0 :: blk g16 (c3 V3.z).toArray 40 :: blk g17 (c3 V3.z).toArray 40 :: []) w := hs.ent (by (repeat first | exact Ent.refl _ | refine Ent.step (by first | exact Ent.refl _ | exact Ent.skip (Ent.refl _) | exact Ent.skip (Ent.skip (Ent.refl _)) | exact Ent.skip (Ent.skip (Ent.skip (Ent.refl _))) | exact Ent.skip (Ent.skip (Ent.skip (Ent.skip (Ent.refl _)))) | exact Ent.skip (Ent.skip (Ent.skip (Ent.skip (Ent.skip (Ent.refl _))))) | exact Ent.skip (Ent.skip (Ent.skip (Ent.skip (Ent.skip (Ent.skip (Ent.refl _)))))) | exact Ent.skip (Ent.skip (Ent.skip (Ent.skip (Ent.skip (Ent.skip (Ent.skip (Ent.refl _))))))) | exact Ent.skip (Ent.skip (Ent.skip (Ent.skip (Ent.skip (Ent.skip (Ent.skip (Ent.skip (Ent.refl _)))))))) | exact Ent.skip (Ent.skip (Ent.skip (Ent.skip (Ent.skip (Ent.skip (Ent.skip (Ent.skip (Ent.skip (Ent.refl _)))))))))) ?_))
            refine wpList_nil ⟨rfl, hs.only, ?_⟩
            refine wpAllP_next [12] (by kernel_rfl) (fun c hc => ?_)
            simp only [List.mem_singleton] at hc
            subst hc
            refine ⟨_, rfl, ?_⟩
            refine wpl_store_agg (v := val3 x) rfl rfl (size3 _) (hs.ent (M := blk g16 (c3 V3.z).toArray 40 :: blk g13 (c3 d).toArray 28 :: SlB X s0 :: blk g17 (c3 V3.z).toArray 40 :: []) (by (repeat first | exact Ent.refl _ | refine Ent.step (by first | exact Ent.refl _ | exact Ent.skip (Ent.refl _) | exact Ent.skip (Ent.skip (Ent.refl _)) | exact Ent.skip (Ent.skip (Ent.skip (Ent.refl _))) | exact Ent.skip (Ent.skip (Ent.skip (Ent.skip (Ent.refl _)))) | exact Ent.skip (Ent.skip (Ent.skip (Ent.skip (Ent.skip (Ent.refl _))))) | exact Ent.skip (Ent.skip (Ent.skip (Ent.skip (Ent.skip (Ent.skip (Ent.refl _)))))) | exact Ent.skip (Ent.skip (Ent.skip (Ent.skip (Ent.skip (Ent.skip (Ent.skip (Ent.refl _))))))) | exact Ent.skip (Ent.skip (Ent.skip (Ent.skip (Ent.skip (Ent.skip (Ent.skip (Ent.skip (Ent.refl _)))))))) | exact Ent.skip (Ent.skip (Ent.skip (Ent.skip (Ent.skip (Ent.skip (Ent.skip (Ent.skip (Ent.skip (Ent.refl _)))))))))) ?_))) WrA.slot3 ?_
            clear hs
            intro w hs
            replace hs : St w0 (blk g13 (c3 d).toArray 28 :: SlB X s0 :: blk g16 (c3 x).toArray 40 :: blk g17 (c3 V3.z).toArray 40 :: []) w := hs.ent (by (repeat first | exact Ent.refl _ | refine Ent.step (by first | exact Ent.refl _ | exact Ent.skip (Ent.refl _) | exact Ent.skip (Ent.skip (Ent.refl _)) | exact Ent.skip (Ent.skip (Ent.skip (Ent.refl _))) | exact Ent.skip (Ent.skip (Ent.skip (Ent.skip (Ent.refl _)))) | exact Ent.skip (Ent.skip (Ent.skip (Ent.skip (Ent.skip (Ent.refl _))))) | exact Ent.skip (Ent.skip (Ent.skip (Ent.skip (Ent.skip (Ent.skip (Ent.refl _)))))) | exact Ent.skip (Ent.skip (Ent.skip (Ent.skip (Ent.skip (Ent.skip (Ent.skip (Ent.refl _))))))) | exact Ent.skip (Ent.skip (Ent.skip (Ent.skip (Ent.skip (Ent.skip (Ent.skip (Ent.skip (Ent.refl _)))))))) | exact Ent.skip (Ent.skip (Ent.skip (Ent.skip (Ent.skip (Ent.skip (Ent.skip (Ent.skip (Ent.skip (Ent.refl _)))))))))) ?_))
            refine wpList_nil ⟨rfl, hs.only, ?_⟩
            refine wpAll_last [13] (by kernel_rfl) (fun c hc => ?_)
            simp only [List.mem_singleton] at hc
            subst hc
            refine ⟨_, rfl, ?_⟩
            refine wpl_store_agg (v := val3 y) rfl rfl (size3 _) (hs.ent (M := blk g17 (c3 V3.z).toArray 40 :: blk g13 (c3 d).toArray 28 :: SlB X s0 :: blk g16 (c3 x).toArray 40 :: []) (by (repeat first | exact Ent.refl _ | refine Ent.step (by first | exact Ent.refl _ | exact Ent.skip (Ent.refl _) | exact Ent.skip (Ent.skip (Ent.refl _)) | exact Ent.skip (Ent.skip (Ent.skip (Ent.refl _))) | exact Ent.skip (Ent.skip (Ent.skip (Ent.skip (Ent.refl _)))) | exact Ent.skip (Ent.skip (Ent.skip (Ent.skip (Ent.skip (Ent.refl _))))) | exact Ent.skip (Ent.skip (Ent.skip (Ent.skip (Ent.skip (Ent.skip (Ent.refl _)))))) | exact Ent.skip (Ent.skip (Ent.skip (Ent.skip (Ent.skip (Ent.skip (Ent.skip (Ent.refl _))))))) | exact Ent.skip (Ent.skip (Ent.skip (Ent.skip (Ent.skip (Ent.skip (Ent.skip (Ent.skip (Ent.refl _)))))))) | exact Ent.skip (Ent.skip (Ent.skip (Ent.skip (Ent.skip (Ent.skip (Ent.skip (Ent.skip (Ent.skip (Ent.refl _)))))))))) ?_))) WrA.slot3 ?_
            clear hs
            intro w hs
            replace hs : St w0 (blk g13 (c3 d).toArray 28 :: SlB X s0 :: blk g16 (c3 x).toArray 40 :: blk g17 (c3 y).toArray 40 :: []) w := hs.ent (by (repeat first | exact Ent.refl _ | refine Ent.step (by first | exact Ent.refl _ | exact Ent.skip (Ent.refl _) | exact Ent.skip (Ent.skip (Ent.refl _)) | exact Ent.skip (Ent.skip (Ent.skip (Ent.refl _))) | exact Ent.skip (Ent.skip (Ent.skip (Ent.skip (Ent.refl _)))) | exact Ent.skip (Ent.skip (Ent.skip (Ent.skip (Ent.skip (Ent.refl _))))) | exact Ent.skip (Ent.skip (Ent.skip (Ent.skip (Ent.skip (Ent.skip (Ent.refl _)))))) | exact Ent.skip (Ent.skip (Ent.skip (Ent.skip (Ent.skip (Ent.skip (Ent.skip (Ent.refl _))))))) | exact Ent.skip (Ent.skip (Ent.skip (Ent.skip (Ent.skip (Ent.skip (Ent.skip (Ent.skip (Ent.refl _)))))))) | exact Ent.skip (Ent.skip (Ent.skip (Ent.skip (Ent.skip (Ent.skip (Ent.skip (Ent.skip (Ent.skip (Ent.refl _)))))))))) ?_))
            go_wp2
            go_meet
            exact ⟨_, _, rfl, rfl, hs⟩
          · skip
            refine ⟨_, rfl, ?_⟩
            refine wpl_alloc zero3 hs ?_
            clear hs
            intro g17 w hs
            replace hs : St w0 (blk g17 (c3 V3.z).toArray 40 :: _) w := hs
            replace hs : St w0 (blk g13 (c3 d).toArray 28 :: SlB X s0 :: blk g16 (c3 V3.z).toArray 40 :: blk g17 (c3 V3.z).toArray 40 :: []) w := hs.ent (by (repeat first | exact Ent.refl _ | refine Ent.step (by first | exact Ent.refl _ | exact Ent.skip (Ent.refl _) | exact Ent.skip (Ent.skip (Ent.refl _)) | exact Ent.skip (Ent.skip (Ent.skip (Ent.refl _))) | exact Ent.skip (Ent.skip (Ent.skip (Ent.skip (Ent.refl _)))) | exact Ent.skip (Ent.skip (Ent.skip (Ent.skip (Ent.skip (Ent.refl _))))) | exact Ent.skip (Ent.skip (Ent.skip (Ent.skip (Ent.skip (Ent.skip (Ent.refl _)))))) | exact Ent.skip (Ent.skip (Ent.skip (Ent.skip (Ent.skip (Ent.skip (Ent.skip (Ent.refl _))))))) | exact Ent.skip (Ent.skip (Ent.skip (Ent.skip (Ent.skip (Ent.skip (Ent.skip (Ent.skip (Ent.refl _)))))))) | exact Ent.skip (Ent.skip (Ent.skip (Ent.skip (Ent.skip (Ent.skip (Ent.skip (Ent.skip (Ent.skip (Ent.refl _)))))))))) ?_))
            refine wpList_nil ⟨rfl, hs.only, ?_⟩
            refine wpAllP_next [9] (by kernel_rfl) (fun c hc => ?_)
            simp only [List.mem_singleton] at hc
            subst hc
            refine ⟨_, rfl, ?_⟩
            go_wp2_with (first
              | (go_at_call 24; refine (lvalue_c _ _ _ HY).mono ?_; rintro r w ⟨rfl, hg⟩; replace hs := hs.grew hg; clear hg))
            refine ⟨hs.only, ?_⟩
            refine wpAllP_next [12] (by kernel_rfl) (fun c hc => ?_)
            simp only [List.mem_singleton] at hc
            subst hc
            refine ⟨_, rfl, ?_⟩
            refine wpl_store_agg (v := val3 x) rfl rfl (size3 _) (hs.ent (M := blk g16 (c3 V3.z).toArray 40 :: blk g13 (c3 d).toArray 28 :: SlB X s0 :: blk g17 (c3 V3.z).toArray 40 :: []) (by (repeat first | exact Ent.refl _ | refine Ent.step (by first | exact Ent.refl _ | exact Ent.skip (Ent.refl _) | exact Ent.skip (Ent.skip (Ent.refl _)) | exact Ent.skip (Ent.skip (Ent.skip (Ent.refl _))) | exact Ent.skip (Ent.skip (Ent.skip (Ent.skip (Ent.refl _)))) | exact Ent.skip (Ent.skip (Ent.skip (Ent.skip (Ent.skip (Ent.refl _))))) | exact Ent.skip (Ent.skip (Ent.skip (Ent.skip (Ent.skip (Ent.skip (Ent.refl _)))))) | exact Ent.skip (Ent.skip (Ent.skip (Ent.skip (Ent.skip (Ent.skip (Ent.skip (Ent.refl _))))))) | exact Ent.skip (Ent.skip (Ent.skip (Ent.skip (Ent.skip (Ent.skip (Ent.skip (Ent.skip (Ent.refl _)))))))) | exact Ent.skip (Ent.skip (Ent.skip (Ent.skip (Ent.skip (Ent.skip (Ent.skip (Ent.skip (Ent.skip (Ent.refl _)))))))))) ?_))) WrA.slot3 ?_
            clear hs
            intro w hs
            replace hs : St w0 (blk g13 (c3 d).toArray 28 :: SlB X s0 :: blk g16 (c3 x).toArray 40 :: blk g17 (c3 V3.z).toArray 40 :: []) w := hs.ent (by (repeat first | exact Ent.refl _ | refine Ent.step (by first | exact Ent.refl _ | exact Ent.skip (Ent.refl _) | exact Ent.skip (Ent.skip (Ent.refl _)) | exact Ent.skip (Ent.skip (Ent.skip (Ent.refl _))) | exact Ent.skip (Ent.skip (Ent.skip (Ent.skip (Ent.refl _)))) | exact Ent.skip (Ent.skip (Ent.skip (Ent.skip (Ent.skip (Ent.refl _))))) | exact Ent.skip (Ent.skip (Ent.skip (Ent.skip (Ent.skip (Ent.skip (Ent.refl _)))))) | exact Ent.skip (Ent.skip (Ent.skip (Ent.skip (Ent.skip (Ent.skip (Ent.skip (Ent.refl _))))))) | exact Ent.skip (Ent.skip (Ent.skip (Ent.skip (Ent.skip (Ent.skip (Ent.skip (Ent.skip (Ent.refl _)))))))) | exact Ent.skip (Ent.skip (Ent.skip (Ent.skip (Ent.skip (Ent.skip (Ent.skip (Ent.skip (Ent.skip (Ent.refl _)))))))))) ?_))
            refine wpList_nil ⟨rfl, hs.only, ?_⟩
            refine wpAll_last [13] (by kernel_rfl) (fun c hc => ?_)
            simp only [List.mem_singleton] at hc
            subst hc
            refine ⟨_, rfl, ?_⟩
            refine wpl_store_agg (v := val3 y) rfl rfl (size3 _) (hs.ent (M := blk g17 (c3 V3.z).toArray 40 :: blk g13 (c3 d).toArray 28 :: SlB X s0 :: blk g16 (c3 x).toArray 40 :: []) (by (repeat first | exact Ent.refl _ | refine Ent.step (by first | exact Ent.refl _ | exact Ent.skip (Ent.refl _) | exact Ent.skip (Ent.skip (Ent.refl _)) | exact Ent.skip (Ent.skip (Ent.skip (Ent.refl _))) | exact Ent.skip (Ent.skip (Ent.skip (Ent.skip (Ent.refl _)))) | exact Ent.skip (Ent.skip (Ent.skip (Ent.skip (Ent.skip (Ent.refl _))))) | exact Ent.skip (Ent.skip (Ent.skip (Ent.skip (Ent.skip (Ent.skip (Ent.refl _)))))) | exact Ent.skip (Ent.skip (Ent.skip (Ent.skip (Ent.skip (Ent.skip (Ent.skip (Ent.refl _))))))) | exact Ent.skip (Ent.skip (Ent.skip (Ent.skip (Ent.skip (Ent.skip (Ent.skip (Ent.skip (Ent.refl _)))))))) | exact Ent.skip (Ent.skip (Ent.skip (Ent.skip (Ent.skip (Ent.skip (Ent.skip (Ent.skip (Ent.skip (Ent.refl _)))))))))) ?_))) WrA.slot3 ?_
            clear hs
            intro w hs
            replace hs : St w0 (blk g13 (c3 d).toArray 28 :: SlB X s0 :: blk g16 (c3 x).toArray 40 :: blk g17 (c3 y).toArray 40 :: []) w := hs.ent (by (repeat first | exact Ent.refl _ | refine Ent.step (by first | exact Ent.refl _ | exact Ent.skip (Ent.refl _) | exact Ent.skip (Ent.skip (Ent.refl _)) | exact Ent.skip (Ent.skip (Ent.skip (Ent.refl _))) | exact Ent.skip (Ent.skip (Ent.skip (Ent.skip (Ent.refl _)))) | exact Ent.skip (Ent.skip (Ent.skip (Ent.skip (Ent.skip (Ent.refl _))))) | exact Ent.skip (Ent.skip (Ent.skip (Ent.skip (Ent.skip (Ent.skip (Ent.refl _)))))) | exact Ent.skip (Ent.skip (Ent.skip (Ent.skip (Ent.skip (Ent.skip (Ent.skip (Ent.refl _))))))) | exact Ent.skip (Ent.skip (Ent.skip (Ent.skip (Ent.skip (Ent.skip (Ent.skip (Ent.skip (Ent.refl _)))))))) | exact Ent.skip (Ent.skip (Ent.skip (Ent.skip (Ent.skip (Ent.skip (Ent.skip (Ent.skip (Ent.skip (Ent.refl _)))))))))) ?_))
            go_wp2
            go_meet
            exact ⟨_, _, rfl, rfl, hs⟩
        · skip
          refine ⟨_, rfl, ?_⟩
          refine wpl_alloc zero3 hs ?_
          clear hs
          intro g17 w hs
          replace hs : St w0 (blk g17 (c3 V3.z).toArray 40 :: _) w := hs
          replace hs : St w0 (blk g13 (c3 d).toArray 28 :: SlB X s0 :: blk g16 (c3 V3.z).toArray 40 :: blk g17 (c3 V3.z).toArray 40 :: []) w := hs.ent (by (repeat first | exact Ent.refl _ | refine Ent.step (by first | exact Ent.refl _ | exact Ent.skip (Ent.refl _) | exact Ent.skip (Ent.skip (Ent.refl _)) | exact Ent.skip (Ent.skip (Ent.skip (Ent.refl _))) | exact Ent.skip (Ent.skip (Ent.skip (Ent.skip (Ent.refl _)))) | exact Ent.skip (Ent.skip (Ent.skip (Ent.skip (Ent.skip (Ent.refl _))))) | exact Ent.skip (Ent.skip (Ent.skip (Ent.skip (Ent.skip (Ent.skip (Ent.refl _)))))) | exact Ent.skip (Ent.skip (Ent.skip (Ent.skip (Ent.skip (Ent.skip (Ent.skip (Ent.refl _))))))) | exact Ent.skip (Ent.skip (Ent.skip (Ent.skip (Ent.skip (Ent.skip (Ent.skip (Ent.skip (Ent.refl _)))))))) | exact Ent.skip (Ent.skip (Ent.skip (Ent.skip (Ent.skip (Ent.skip (Ent.skip (Ent.skip (Ent.skip (Ent.refl _)))))))))) ?_))
          refine wpList_nil ⟨rfl, hs.only, ?_⟩
          refine wpAllP_next [4] (by kernel_rfl) (fun c hc => ?_)
          simp only [List.mem_singleton] at hc
          subst hc
          refine ⟨_, rfl, ?_⟩
          go_wp2_with (first
            | (go_at_call 24; refine (lvalue_c _ _ _ HX).mono ?_; rintro r w ⟨rfl, hg⟩; replace hs := hs.grew hg; clear hg))
          refine ⟨hs.only, ?_⟩
          refine wpAllP_next [9] (by kernel_rfl) (fun c hc => ?_)
          simp only [List.mem_singleton] at hc
          subst hc
          refine ⟨_, rfl, ?_⟩
          go_wp2_with (first
            | (go_at_call 24; refine (lvalue_c _ _ _ HY).mono ?_; rintro r w ⟨rfl, hg⟩; replace hs := hs.grew hg; clear hg))
          refine ⟨hs.only, ?_⟩
          refine wpAllP_next [12] (by kernel_rfl) (fun c hc => ?_)
          simp only [List.mem_singleton] at hc
          subst hc
          refine ⟨_, rfl, ?_⟩
          refine wpl_store_agg (v := val3 x) rfl rfl (size3 _) (hs.ent (M := blk g16 (c3 V3.z).toArray 40 :: blk g13 (c3 d).toArray 28 :: SlB X s0 :: blk g17 (c3 V3.z).toArray 40 :: []) (by (repeat first | exact Ent.refl _ | refine Ent.step (by first | exact Ent.refl _ | exact Ent.skip (Ent.refl _) | exact Ent.skip (Ent.skip (Ent.refl _)) | exact Ent.skip (Ent.skip (Ent.skip (Ent.refl _))) | exact Ent.skip (Ent.skip (Ent.skip (Ent.skip (Ent.refl _)))) | exact Ent.skip (Ent.skip (Ent.skip (Ent.skip (Ent.skip (Ent.refl _))))) | exact Ent.skip (Ent.skip (Ent.skip (Ent.skip (Ent.skip (Ent.skip (Ent.refl _)))))) | exact Ent.skip (Ent.skip (Ent.skip (Ent.skip (Ent.skip (Ent.skip (Ent.skip (Ent.refl _))))))) | exact Ent.skip (Ent.skip (Ent.skip (Ent.skip (Ent.skip (Ent.skip (Ent.skip (Ent.skip (Ent.refl _)))))))) | exact Ent.skip (Ent.skip (Ent.skip (Ent.skip (Ent.skip (Ent.skip (Ent.skip (Ent.skip (Ent.skip (Ent.refl _)))))))))) ?_))) WrA.slot3 ?_
          clear hs
          intro w hs
          replace hs : St w0 (blk g13 (c3 d).toArray 28 :: SlB X s0 :: blk g16 (c3 x).toArray 40 :: blk g17 (c3 V3.z).toArray 40 :: []) w := hs.ent (by (repeat first | exact Ent.refl _ | refine Ent.step (by first | exact Ent.refl _ | exact Ent.skip (Ent.refl _) | exact Ent.skip (Ent.skip (Ent.refl _)) | exact Ent.skip (Ent.skip (Ent.skip (Ent.refl _))) | exact Ent.skip (Ent.skip (Ent.skip (Ent.skip (Ent.refl _)))) | exact Ent.skip (Ent.skip (Ent.skip (Ent.skip (Ent.skip (Ent.refl _))))) | exact Ent.skip (Ent.skip (Ent.skip (Ent.skip (Ent.skip (Ent.skip (Ent.refl _)))))) | exact Ent.skip (Ent.skip (Ent.skip (Ent.skip (Ent.skip (Ent.skip (Ent.skip (Ent.refl _))))))) | exact Ent.skip (Ent.skip (Ent.skip (Ent.skip (Ent.skip (Ent.skip (Ent.skip (Ent.skip (Ent.refl _)))))))) | exact Ent.skip (Ent.skip (Ent.skip (Ent.skip (Ent.skip (Ent.skip (Ent.skip (Ent.skip (Ent.skip (Ent.refl _)))))))))) ?_))
          refine wpList_nil ⟨rfl, hs.only, ?_⟩
          refine wpAll_last [13] (by kernel_rfl) (fun c hc => ?_)
          simp only [List.mem_singleton] at hc
          subst hc
          refine ⟨_, rfl, ?_⟩
          refine wpl_store_agg (v := val3 y) rfl rfl (size3 _) (hs.ent (M := blk g17 (c3 V3.z).toArray 40 :: blk g13 (c3 d).toArray 28 :: SlB X s0 :: blk g16 (c3 x).toArray 40 :: []) (by (repeat first | exact Ent.refl _ | refine Ent.step (by first | exact Ent.refl _ | exact Ent.skip (Ent.refl _) | exact Ent.skip (Ent.skip (Ent.refl _)) | exact Ent.skip (Ent.skip (Ent.skip (Ent.refl _))) | exact Ent.skip (Ent.skip (Ent.skip (Ent.skip (Ent.refl _)))) | exact Ent.skip (Ent.skip (Ent.skip (Ent.skip (Ent.skip (Ent.refl _))))) | exact Ent.skip (Ent.skip (Ent.skip (Ent.skip (Ent.skip (Ent.skip (Ent.refl _)))))) | exact Ent.skip (Ent.skip (Ent.skip (Ent.skip (Ent.skip (Ent.skip (Ent.skip (Ent.refl _))))))) | exact Ent.skip (Ent.skip (Ent.skip (Ent.skip (Ent.skip (Ent.skip (Ent.skip (Ent.skip (Ent.refl _)))))))) | exact Ent.skip (Ent.skip (Ent.skip (Ent.skip (Ent.skip (Ent.skip (Ent.skip (Ent.skip (Ent.skip (Ent.refl _)))))))))) ?_))) WrA.slot3 ?_
          clear hs
          intro w hs
          replace hs : St w0 (blk g13 (c3 d).toArray 28 :: SlB X s0 :: blk g16 (c3 x).toArray 40 :: blk g17 (c3 y).toArray 40 :: []) w := hs.ent (by (repeat first | exact Ent.refl _ | refine Ent.step (by first | exact Ent.refl _ | exact Ent.skip (Ent.refl _) | exact Ent.skip (Ent.skip (Ent.refl _)) | exact Ent.skip (Ent.skip (Ent.skip (Ent.refl _))) | exact Ent.skip (Ent.skip (Ent.skip (Ent.skip (Ent.refl _)))) | exact Ent.skip (Ent.skip (Ent.skip (Ent.skip (Ent.skip (Ent.refl _))))) | exact Ent.skip (Ent.skip (Ent.skip (Ent.skip (Ent.skip (Ent.skip (Ent.refl _)))))) | exact Ent.skip (Ent.skip (Ent.skip (Ent.skip (Ent.skip (Ent.skip (Ent.skip (Ent.refl _))))))) | exact Ent.skip (Ent.skip (Ent.skip (Ent.skip (Ent.skip (Ent.skip (Ent.skip (Ent.skip (Ent.refl _)))))))) | exact Ent.skip (Ent.skip (Ent.skip (Ent.skip (Ent.skip (Ent.skip (Ent.skip (Ent.skip (Ent.skip (Ent.refl _)))))))))) ?_))
          go_wp2
          go_meet
          exact ⟨_, _, rfl, rfl, hs⟩
      · skip
        refine ⟨_, rfl, ?_⟩
        refine wpl_alloc zero3 hs ?_
        clear hs
        intro g17 w hs
        replace hs : St w0 (blk g17 (c3 V3.z).toArray 40 :: _) w := hs
        replace hs : St w0 (blk g13 (c3 d).toArray 28 :: SlB X s0 :: blk g17 (c3 V3.z).toArray 40 :: []) w := hs.ent (by (repeat first | exact Ent.refl _ | refine Ent.step (by first | exact Ent.refl _ | exact Ent.skip (Ent.refl _) | exact Ent.skip (Ent.skip (Ent.refl _)) | exact Ent.skip (Ent.skip (Ent.skip (Ent.refl _))) | exact Ent.skip (Ent.skip (Ent.skip (Ent.skip (Ent.refl _)))) | exact Ent.skip (Ent.skip (Ent.skip (Ent.skip (Ent.skip (Ent.refl _))))) | exact Ent.skip (Ent.skip (Ent.skip (Ent.skip (Ent.skip (Ent.skip (Ent.refl _)))))) | exact Ent.skip (Ent.skip (Ent.skip (Ent.skip (Ent.skip (Ent.skip (Ent.skip (Ent.refl _))))))) | exact Ent.skip (Ent.skip (Ent.skip (Ent.skip (Ent.skip (Ent.skip (Ent.skip (Ent.skip (Ent.refl _)))))))) | exact Ent.skip (Ent.skip (Ent.skip (Ent.skip (Ent.skip (Ent.skip (Ent.skip (Ent.skip (Ent.skip (Ent.refl _)))))))))) ?_))
        refine wpList_nil ⟨rfl, hs.only, ?_⟩
        refine wpAllP_next [4, 10] (by kernel_rfl) (fun c hc => ?_)
        simp only [List.mem_cons, List.not_mem_nil, or_false] at hc
        rcases hc with rfl | rfl
        · skip
          refine ⟨_, rfl, ?_⟩
          go_wp2_with (first
            | (go_at_call 24; refine (lvalue_c _ _ _ HX).mono ?_; rintro r w ⟨rfl, hg⟩; replace hs := hs.grew hg; clear hg))
          refine ⟨hs.only, ?_⟩
          refine wpAllP_next [9, 10] (by kernel_rfl) (fun c hc => ?_)
          simp only [List.mem_cons, List.not_mem_nil, or_false] at hc
          rcases hc with rfl | rfl
          · skip
            refine ⟨_, rfl, ?_⟩
            go_wp2_with (first
              | (go_at_call 24; refine (lvalue_c _ _ _ HY).mono ?_; rintro r w ⟨rfl, hg⟩; replace hs := hs.grew hg; clear hg))
            refine ⟨hs.only, ?_⟩
            refine wpAllP_next [10] (by kernel_rfl) (fun c hc => ?_)
            simp only [List.mem_singleton] at hc
            subst hc
            refine ⟨_, rfl, ?_⟩
            refine wpl_alloc zero3 hs ?_
            clear hs
            intro g16 w hs
            replace hs : St w0 (blk g16 (c3 V3.z).toArray 40 :: _) w := hs
            replace hs : St w0 (blk g13 (c3 d).toArray 28 :: SlB X s0 :: blk g16 (c3 V3.z).toArray 40 :: blk g17 (c3 V3.z).toArray 40 :: []) w := hs.ent (by (repeat first | exact Ent.refl _ | refine Ent.step (by first | exact Ent.refl _ | exact Ent.skip (Ent.refl _) | exact Ent.skip (Ent.skip (Ent.refl _)) | exact Ent.skip (Ent.skip (Ent.skip (Ent.refl _))) | exact Ent.skip (Ent.skip (Ent.skip (Ent.skip (Ent.refl _)))) | exact Ent.skip (Ent.skip (Ent.skip (Ent.skip (Ent.skip (Ent.refl _))))) | exact Ent.skip (Ent.skip (Ent.skip (Ent.skip (Ent.skip (Ent.skip (Ent.refl _)))))) | exact Ent.skip (Ent.skip (Ent.skip (Ent.skip (Ent.skip (Ent.skip (Ent.skip (Ent.refl _))))))) | exact Ent.skip (Ent.skip (Ent.skip (Ent.skip (Ent.skip (Ent.skip (Ent.skip (Ent.skip (Ent.refl _)))))))) | exact Ent.skip (Ent.skip (Ent.skip (Ent.skip (Ent.skip (Ent.skip (Ent.skip (Ent.skip (Ent.skip (Ent.refl _)))))))))) ?_))
            refine wpList_nil ⟨rfl, hs.only, ?_⟩
            refine wpAllP_next [12] (by kernel_rfl) (fun c hc => ?_)
            simp only [List.mem_singleton] at hc
            subst hc
            refine ⟨_, rfl, ?_⟩
            refine wpl_store_agg (v := val3 x) rfl rfl (size3 _) (hs.ent (M := blk g16 (c3 V3.z).toArray 40 :: blk g13 (c3 d).toArray 28 :: SlB X s0 :: blk g17 (c3 V3.z).toArray 40 :: []) (by (repeat first | exact Ent.refl _ | refine Ent.step (by first | exact Ent.refl _ | exact Ent.skip (Ent.refl _) | exact Ent.skip (Ent.skip (Ent.refl _)) | exact Ent.skip (Ent.skip (Ent.skip (Ent.refl _))) | exact Ent.skip (Ent.skip (Ent.skip (Ent.skip (Ent.refl _)))) | exact Ent.skip (Ent.skip (Ent.skip (Ent.skip (Ent.skip (Ent.refl _))))) | exact Ent.skip (Ent.skip (Ent.skip (Ent.skip (Ent.skip (Ent.skip (Ent.refl _)))))) | exact Ent.skip (Ent.skip (Ent.skip (Ent.skip (Ent.skip (Ent.skip (Ent.skip (Ent.refl _))))))) | exact Ent.skip (Ent.skip (Ent.skip (Ent.skip (Ent.skip (Ent.skip (Ent.skip (Ent.skip (Ent.refl _)))))))) | exact Ent.skip (Ent.skip (Ent.skip (Ent.skip (Ent.skip (Ent.skip (Ent.skip (Ent.skip (Ent.skip (Ent.refl _)))))))))) ?_))) WrA.slot3 ?_
            clear hs
            intro w hs
            replace hs : St w0 (blk g13 (c3 d).toArray 28 :: SlB X s0 :: blk g16 (c3 x).toArray 40 :: blk g17 (c3 V3.z).toArray 40 :: []) w := hs.ent (by (repeat first | exact Ent.refl _ | refine Ent.step (by first | exact Ent.refl _ | exact Ent.skip (Ent.refl _) | exact Ent.skip (Ent.skip (Ent.refl _)) | exact Ent.skip (Ent.skip (Ent.skip (Ent.refl _))) | exact Ent.skip (Ent.skip (Ent.skip (Ent.skip (Ent.refl _)))) | exact Ent.skip (Ent.skip (Ent.skip (Ent.skip (Ent.skip (Ent.refl _))))) | exact Ent.skip (Ent.skip (Ent.skip (Ent.skip (Ent.skip (Ent.skip (Ent.refl _)))))) | exact Ent.skip (Ent.skip (Ent.skip (Ent.skip (Ent.skip (Ent.skip (Ent.skip (Ent.refl _))))))) | exact Ent.skip (Ent.skip (Ent.skip (Ent.skip (Ent.skip (Ent.skip (Ent.skip (Ent.skip (Ent.refl _)))))))) | exact Ent.skip (Ent.skip (Ent.skip (Ent.skip (Ent.skip (Ent.skip (Ent.skip (Ent.skip (Ent.skip (Ent.refl _)))))))))) ?_))
            refine wpList_nil ⟨rfl, hs.only, ?_⟩
            refine wpAll_last [13] (by kernel_rfl) (fun c hc => ?_)
            simp only [List.mem_singleton] at hc
            subst hc
            refine ⟨_, rfl, ?_⟩
            refine wpl_store_agg (v := val3 y) rfl rfl (size3 _) (hs.ent (M := blk g17 (c3 V3.z).toArray 40 :: blk g13 (c3 d).toArray 28 :: SlB X s0 :: blk g16 (c3 x).toArray 40 :: []) (by (repeat first | exact Ent.refl _ | refine Ent.step (by first | exact Ent.refl _ | exact Ent.skip (Ent.refl _) | exact Ent.skip (Ent.skip (Ent.refl _)) | exact Ent.skip (Ent.skip (Ent.skip (Ent.refl _))) | exact Ent.skip (Ent.skip (Ent.skip (Ent.skip (Ent.refl _)))) | exact Ent.skip (Ent.skip (Ent.skip (Ent.skip (Ent.skip (Ent.refl _))))) | exact Ent.skip (Ent.skip (Ent.skip (Ent.skip (Ent.skip (Ent.skip (Ent.refl _)))))) | exact Ent.skip (Ent.skip (Ent.skip (Ent.skip (Ent.skip (Ent.skip (Ent.skip (Ent.refl _))))))) | exact Ent.skip (Ent.skip (Ent.skip (Ent.skip (Ent.skip (Ent.skip (Ent.skip (Ent.skip (Ent.refl _)))))))) | exact Ent.skip (Ent.skip (Ent.skip (Ent.skip (Ent.skip (Ent.skip (Ent.skip (Ent.skip (Ent.skip (Ent.refl _)))))))))) ?_))) WrA.slot3 ?_
            clear hs
            intro w hs
            replace hs : St w0 (blk g13 (c3 d).toArray 28 :: SlB X s0 :: blk g16 (c3 x).toArray 40 :: blk g17 (c3 y).toArray 40 :: []) w := hs.ent (by (repeat first | exact Ent.refl _ | refine Ent.step (by first | exact Ent.refl _ | exact Ent.skip (Ent.refl _) | exact Ent.skip (Ent.skip (Ent.refl _)) | exact Ent.skip (Ent.skip (Ent.skip (Ent.refl _))) | exact Ent.skip (Ent.skip (Ent.skip (Ent.skip (Ent.refl _)))) | exact Ent.skip (Ent.skip (Ent.skip (Ent.skip (Ent.skip (Ent.refl _))))) | exact Ent.skip (Ent.skip (Ent.skip (Ent.skip (Ent.skip (Ent.skip (Ent.refl _)))))) | exact Ent.skip (Ent.skip (Ent.skip (Ent.skip (Ent.skip (Ent.skip (Ent.skip (Ent.refl _))))))) | exact Ent.skip (Ent.skip (Ent.skip (Ent.skip (Ent.skip (Ent.skip (Ent.skip (Ent.skip (Ent.refl _)))))))) | exact Ent.skip (Ent.skip (Ent.skip (Ent.skip (Ent.skip (Ent.skip (Ent.skip (Ent.skip (Ent.skip (Ent.refl _)))))))))) ?_))
            go_wp2
            go_meet
            exact ⟨_, _, rfl, rfl, hs⟩
          · skip
            refine ⟨_, rfl, ?_⟩
            refine wpl_alloc zero3 hs ?_
            clear hs
            intro g16 w hs
            replace hs : St w0 (blk g16 (c3 V3.z).toArray 40 :: _) w := hs
            replace hs : St w0 (blk g13 (c3 d).toArray 28 :: SlB X s0 :: blk g16 (c3 V3.z).toArray 40 :: blk g17 (c3 V3.z).toArray 40 :: []) w := hs.ent (by (repeat first | exact Ent.refl _ | refine Ent.step (by first | exact Ent.refl _ | exact Ent.skip (Ent.refl _) | exact Ent.skip (Ent.skip (Ent.refl _)) | exact Ent.skip (Ent.skip (Ent.skip (Ent.refl _))) | exact Ent.skip (Ent.skip (Ent.skip (Ent.skip (Ent.refl _)))) | exact Ent.skip (Ent.skip (Ent.skip (Ent.skip (Ent.skip (Ent.refl _))))) | exact Ent.skip (Ent.skip (Ent.skip (Ent.skip (Ent.skip (Ent.skip (Ent.refl _)))))) | exact Ent.skip (Ent.skip (Ent.skip (Ent.skip (Ent.skip (Ent.skip (Ent.skip (Ent.refl _))))))) | exact Ent.skip (Ent.skip (Ent.skip (Ent.skip (Ent.skip (Ent.skip (Ent.skip (Ent.skip (Ent.refl _)))))))) | exact Ent.skip (Ent.skip (Ent.skip (Ent.skip (Ent.skip (Ent.skip (Ent.skip (Ent.skip (Ent.skip (Ent.refl _)))))))))) ?_))
            refine wpList_nil ⟨rfl, hs.only, ?_⟩
            refine wpAllP_next [9] (by kernel_rfl) (fun c hc => ?_)
            simp only [List.mem_singleton] at hc
            subst hc
            refine ⟨_, rfl, ?_⟩
            go_wp2_with (first
              | (go_at_call 24; refine (lvalue_c _ _ _ HY).mono ?_; rintro r w ⟨rfl, hg⟩; replace hs := hs.grew hg; clear hg))
            refine ⟨hs.only, ?_⟩
            refine wpAllP_next [12] (by kernel_rfl) (fun c hc => ?_)
            simp only [List.mem_singleton] at hc
            subst hc
            refine ⟨_, rfl, ?_⟩
            refine wpl_store_agg (v := val3 x) rfl rfl (size3 _) (hs.ent (M := blk g16 (c3 V3.z).toArray 40 :: blk g13 (c3 d).toArray 28 :: SlB X s0 :: blk g17 (c3 V3.z).toArray 40 :: []) (by (repeat first | exact Ent.refl _ | refine Ent.step (by first | exact Ent.refl _ | exact Ent.skip (Ent.refl _) | exact Ent.skip (Ent.skip (Ent.refl _)) | exact Ent.skip (Ent.skip (Ent.skip (Ent.refl _))) | exact Ent.skip (Ent.skip (Ent.skip (Ent.skip (Ent.refl _)))) | exact Ent.skip (Ent.skip (Ent.skip (Ent.skip (Ent.skip (Ent.refl _))))) | exact Ent.skip (Ent.skip (Ent.skip (Ent.skip (Ent.skip (Ent.skip (Ent.refl _)))))) | exact Ent.skip (Ent.skip (Ent.skip (Ent.skip (Ent.skip (Ent.skip (Ent.skip (Ent.refl _))))))) | exact Ent.skip (Ent.skip (Ent.skip (Ent.skip (Ent.skip (Ent.skip (Ent.skip (Ent.skip (Ent.refl _)))))))) | exact Ent.skip (Ent.skip (Ent.skip (Ent.skip (Ent.skip (Ent.skip (Ent.skip (Ent.skip (Ent.skip (Ent.refl _)))))))))) ?_))) WrA.slot3 ?_
            clear hs
            intro w hs
            replace hs : St w0 (blk g13 (c3 d).toArray 28 :: SlB X s0 :: blk g16 (c3 x).toArray 40 :: blk g17 (c3 V3.z).toArray 40 :: []) w := hs.ent (by (repeat first | exact Ent.refl _ | refine Ent.step (by first | exact Ent.refl _ | exact Ent.skip (Ent.refl _) | exact Ent.skip (Ent.skip (Ent.refl _)) | exact Ent.skip (Ent.skip (Ent.skip (Ent.refl _))) | exact Ent.skip (Ent.skip (Ent.skip (Ent.skip (Ent.refl _)))) | exact Ent.skip (Ent.skip (Ent.skip (Ent.skip (Ent.skip (Ent.refl _))))) | exact Ent.skip (Ent.skip (Ent.skip (Ent.skip (Ent.skip (Ent.skip (Ent.refl _)))))) | exact Ent.skip (Ent.skip (Ent.skip (Ent.skip (Ent.skip (Ent.skip (Ent.skip (Ent.refl _))))))) | exact Ent.skip (Ent.skip (Ent.skip (Ent.skip (Ent.skip (Ent.skip (Ent.skip (Ent.skip (Ent.refl _)))))))) | exact Ent.skip (Ent.skip (Ent.skip (Ent.skip (Ent.skip (Ent.skip (Ent.skip (Ent.skip (Ent.skip (Ent.refl _)))))))))) ?_))
            refine wpList_nil ⟨rfl, hs.only, ?_⟩
            refine wpAll_last [13] (by kernel_rfl) (fun c hc => ?_)
            simp only [List.mem_singleton] at hc
            subst hc
            refine ⟨_, rfl, ?_⟩
            refine wpl_store_agg (v := val3 y) rfl rfl (size3 _) (hs.ent (M := blk g17 (c3 V3.z).toArray 40 :: blk g13 (c3 d).toArray 28 :: SlB X s0 :: blk g16 (c3 x).toArray 40 :: []) (by (repeat first | exact Ent.refl _ | refine Ent.step (by first | exact Ent.refl _ | exact Ent.skip (Ent.refl _) | exact Ent.skip (Ent.skip (Ent.refl _)) | exact Ent.skip (Ent.skip (Ent.skip (Ent.refl _))) | exact Ent.skip (Ent.skip (Ent.skip (Ent.skip (Ent.refl _)))) | exact Ent.skip (Ent.skip (Ent.skip (Ent.skip (Ent.skip (Ent.refl _))))) | exact Ent.skip (Ent.skip (Ent.skip (Ent.skip (Ent.skip (Ent.skip (Ent.refl _)))))) | exact Ent.skip (Ent.skip (Ent.skip (Ent.skip (Ent.skip (Ent.skip (Ent.skip (Ent.refl _))))))) | exact Ent.skip (Ent.skip (Ent.skip (Ent.skip (Ent.skip (Ent.skip (Ent.skip (Ent.skip (Ent.refl _)))))))) | exact Ent.skip (Ent.skip (Ent.skip (Ent.skip (Ent.skip (Ent.skip (Ent.skip (Ent.skip (Ent.skip (Ent.refl _)))))))))) ?_))) WrA.slot3 ?_
            clear hs
            intro w hs
            replace hs : St w0 (blk g13 (c3 d).toArray 28 :: SlB X s0 :: blk g16 (c3 x).toArray 40 :: blk g17 (c3 y).toArray 40 :: []) w := hs.ent (by (repeat first | exact Ent.refl _ | refine Ent.step (by first | exact Ent.refl _ | exact Ent.skip (Ent.refl _) | exact Ent.skip (Ent.skip (Ent.refl _)) | exact Ent.skip (Ent.skip (Ent.skip (Ent.refl _))) | exact Ent.skip (Ent.skip (Ent.skip (Ent.skip (Ent.refl _)))) | exact Ent.skip (Ent.skip (Ent.skip (Ent.skip (Ent.skip (Ent.refl _))))) | exact Ent.skip (Ent.skip (Ent.skip (Ent.skip (Ent.skip (Ent.skip (Ent.refl _)))))) | exact Ent.skip (Ent.skip (Ent.skip (Ent.skip (Ent.skip (Ent.skip (Ent.skip (Ent.refl _))))))) | exact Ent.skip (Ent.skip (Ent.skip (Ent.skip (Ent.skip (Ent.skip (Ent.skip (Ent.skip (Ent.refl _)))))))) | exact Ent.skip (Ent.skip (Ent.skip (Ent.skip (Ent.skip (Ent.skip (Ent.skip (Ent.skip (Ent.skip (Ent.refl _)))))))))) ?_))
            go_wp2
            go_meet
            exact ⟨_, _, rfl, rfl, hs⟩
        · skip
          refine ⟨_, rfl, ?_⟩
          refine wpl_alloc zero3 hs ?_
          clear hs
          intro g16 w hs
          replace hs : St w0 (blk g16 (c3 V3.z).toArray 40 :: _) w := hs
          replace hs : St w0 (blk g13 (c3 d).toArray 28 :: SlB X s0 :: blk g16 (c3 V3.z).toArray 40 :: blk g17 (c3 V3.z).toArray 40 :: []) w := hs.ent (by (repeat first | exact Ent.refl _ | refine Ent.step (by first | exact Ent.refl _ | exact Ent.skip (Ent.refl _) | exact Ent.skip (Ent.skip (Ent.refl _)) | exact Ent.skip (Ent.skip (Ent.skip (Ent.refl _))) | exact Ent.skip (Ent.skip (Ent.skip (Ent.skip (Ent.refl _)))) | exact Ent.skip (Ent.skip (Ent.skip (Ent.skip (Ent.skip (Ent.refl _))))) | exact Ent.skip (Ent.skip (Ent.skip (Ent.skip (Ent.skip (Ent.skip (Ent.refl _)))))) | exact Ent.skip (Ent.skip (Ent.skip (Ent.skip (Ent.skip (Ent.skip (Ent.skip (Ent.refl _))))))) | exact Ent.skip (Ent.skip (Ent.skip (Ent.skip (Ent.skip (Ent.skip (Ent.skip (Ent.skip (Ent.refl _)))))))) | exact Ent.skip (Ent.skip (Ent.skip (Ent.skip (Ent.skip (Ent.skip (Ent.skip (Ent.skip (Ent.skip (Ent.refl _)))))))))) ?_))
          refine wpList_nil ⟨rfl, hs.only, ?_⟩
          refine wpAllP_next [4] (by kernel_rfl) (fun c hc => ?_)
          simp only [List.mem_singleton] at hc
          subst hc
          refine ⟨_, rfl, ?_⟩
          go_wp2_with (first
            | (go_at_call 24; refine (lvalue_c _ _ _ HX).mono ?_; rintro r w ⟨rfl, hg⟩; replace hs := hs.grew hg; clear hg))
          refine ⟨hs.only, ?_⟩
          refine wpAllP_next [9] (by kernel_rfl) (fun c hc => ?_)
          simp only [List.mem_singleton] at hc
          subst hc
          refine ⟨_, rfl, ?_⟩
          go_wp2_with (first
            | (go_at_call 24; refine (lvalue_c _ _ _ HY).mono ?_; rintro r w ⟨rfl, hg⟩; replace hs := hs.grew hg; clear hg))
          refine ⟨hs.only, ?_⟩
          refine wpAllP_next [12] (by kernel_rfl) (fun c hc => ?_)
          simp only [List.mem_singleton] at hc
          subst hc
          refine ⟨_, rfl, ?_⟩
          refine wpl_store_agg (v := val3 x) rfl rfl (size3 _) (hs.ent (M := blk g16 (c3 V3.z).toArray 40 :: blk g13 (c3 d).toArray 28 :: SlB X s0 :: blk g17 (c3 V3.z).toArray 40 :: []) (by (repeat first | exact Ent.refl _ | refine Ent.step (by first | exact Ent.refl _ | exact Ent.skip (Ent.refl _) | exact Ent.skip (Ent.skip (Ent.refl _)) | exact Ent.skip (Ent.skip (Ent.skip (Ent.refl _))) | exact Ent.skip (Ent.skip (Ent.skip (Ent.skip (Ent.refl _)))) | exact Ent.skip (Ent.skip (Ent.skip (Ent.skip (Ent.skip (Ent.refl _))))) | exact Ent.skip (Ent.skip (Ent.skip (Ent.skip (Ent.skip (Ent.skip (Ent.refl _)))))) | exact Ent.skip (Ent.skip (Ent.skip (Ent.skip (Ent.skip (Ent.skip (Ent.skip (Ent.refl _))))))) | exact Ent.skip (Ent.skip (Ent.skip (Ent.skip (Ent.skip (Ent.skip (Ent.skip (Ent.skip (Ent.refl _)))))))) | exact Ent.skip (Ent.skip (Ent.skip (Ent.skip (Ent.skip (Ent.skip (Ent.skip (Ent.skip (Ent.skip (Ent.refl _)))))))))) ?_))) WrA.slot3 ?_
          clear hs
          intro w hs
          replace hs : St w0 (blk g13 (c3 d).toArray 28 :: SlB X s0 :: blk g16 (c3 x).toArray 40 :: blk g17 (c3 V3.z).toArray 40 :: []) w := hs.ent (by (repeat first | exact Ent.refl _ | refine Ent.step (by first | exact Ent.refl _ | exact Ent.skip (Ent.refl _) | exact Ent.skip (Ent.skip (Ent.refl _)) | exact Ent.skip (Ent.skip (Ent.skip (Ent.refl _))) | exact Ent.skip (Ent.skip (Ent.skip (Ent.skip (Ent.refl _)))) | exact Ent.skip (Ent.skip (Ent.skip (Ent.skip (Ent.skip (Ent.refl _))))) | exact Ent.skip (Ent.skip (Ent.skip (Ent.skip (Ent.skip (Ent.skip (Ent.refl _)))))) | exact Ent.skip (Ent.skip (Ent.skip (Ent.skip (Ent.skip (Ent.skip (Ent.skip (Ent.refl _))))))) | exact Ent.skip (Ent.skip (Ent.skip (Ent.skip (Ent.skip (Ent.skip (Ent.skip (Ent.skip (Ent.refl _)))))))) | exact Ent.skip (Ent.skip (Ent.skip (Ent.skip (Ent.skip (Ent.skip (Ent.skip (Ent.skip (Ent.skip (Ent.refl _)))))))))) ?_))
          refine wpList_nil ⟨rfl, hs.only, ?_⟩
          refine wpAll_last [13] (by kernel_rfl) (fun c hc => ?_)
          simp only [List.mem_singleton] at hc
          subst hc
          refine ⟨_, rfl, ?_⟩
          refine wpl_store_agg (v := val3 y) rfl rfl (size3 _) (hs.ent (M := blk g17 (c3 V3.z).toArray 40 :: blk g13 (c3 d).toArray 28 :: SlB X s0 :: blk g16 (c3 x).toArray 40 :: []) (by (repeat first | exact Ent.refl _ | refine Ent.step (by first | exact Ent.refl _ | exact Ent.skip (Ent.refl _) | exact Ent.skip (Ent.skip (Ent.refl _)) | exact Ent.skip (Ent.skip (Ent.skip (Ent.refl _))) | exact Ent.skip (Ent.skip (Ent.skip (Ent.skip (Ent.refl _)))) | exact Ent.skip (Ent.skip (Ent.skip (Ent.skip (Ent.skip (Ent.refl _))))) | exact Ent.skip (Ent.skip (Ent.skip (Ent.skip (Ent.skip (Ent.skip (Ent.refl _)))))) | exact Ent.skip (Ent.skip (Ent.skip (Ent.skip (Ent.skip (Ent.skip (Ent.skip (Ent.refl _))))))) | exact Ent.skip (Ent.skip (Ent.skip (Ent.skip (Ent.skip (Ent.skip (Ent.skip (Ent.skip (Ent.refl _)))))))) | exact Ent.skip (Ent.skip (Ent.skip (Ent.skip (Ent.skip (Ent.skip (Ent.skip (Ent.skip (Ent.skip (Ent.refl _)))))))))) ?_))) WrA.slot3 ?_
          clear hs
          intro w hs
          replace hs : St w0 (blk g13 (c3 d).toArray 28 :: SlB X s0 :: blk g16 (c3 x).toArray 40 :: blk g17 (c3 y).toArray 40 :: []) w := hs.ent (by (repeat first | exact Ent.refl _ | refine Ent.step (by first | exact Ent.refl _ | exact Ent.skip (Ent.refl _) | exact Ent.skip (Ent.skip (Ent.refl _)) | exact Ent.skip (Ent.skip (Ent.skip (Ent.refl _))) | exact Ent.skip (Ent.skip (Ent.skip (Ent.skip (Ent.refl _)))) | exact Ent.skip (Ent.skip (Ent.skip (Ent.skip (Ent.skip (Ent.refl _))))) | exact Ent.skip (Ent.skip (Ent.skip (Ent.skip (Ent.skip (Ent.skip (Ent.refl _)))))) | exact Ent.skip (Ent.skip (Ent.skip (Ent.skip (Ent.skip (Ent.skip (Ent.skip (Ent.refl _))))))) | exact Ent.skip (Ent.skip (Ent.skip (Ent.skip (Ent.skip (Ent.skip (Ent.skip (Ent.skip (Ent.refl _)))))))) | exact Ent.skip (Ent.skip (Ent.skip (Ent.skip (Ent.skip (Ent.skip (Ent.skip (Ent.skip (Ent.skip (Ent.refl _)))))))))) ?_))
          go_wp2
          go_meet
          exact ⟨_, _, rfl, rfl, hs⟩
    case rest => as_aux_lemma =>
      clear hs
      obtain ⟨g16, g17, rfl, rfl, hs⟩ := hcut
      go_upto_region 11 with (first
        | (refine wpl_load3 (v := x) (g := g16) rfl (has3_tail (has3_tail (has3_slot (t := 40)))) agg3 size3n hs ?_)
        | (refine wpl_load3 (v := y) (g := g17) rfl (has3_tail (has3_tail (has3_tail (has3_slot (t := 40))))) agg3 size3n hs ?_)
        | (go_at_call 18; refine (sl_put hs.rot HB.out.l0 HU1 (Lib.hid HB.out.b1) (Lib.hid HB.out.e1) HS1).mono ?_; clear hs; rintro r w ⟨rfl, hs⟩; replace hs := hs.rot)
        | (go_at_call 18; refine (sl_put hs.rot HB.out.l1 HU2 (Lib.hid HB.out.b2) (Lib.hid HB.out.e2) HS2).mono ?_; clear hs; rintro r w ⟨rfl, hs⟩; replace hs := hs.rot)
        | (refine wpl_alloc zero3 hs ?_; clear hs; intro g18 w hs)
        | (refine wpl_store_agg (v := val3 u1) rfl rfl (size3 _) hs WrA.slot3 ?_; clear hs; intro w hs; replace hs := hs.drop)
        | (refine wpl_store_agg (v := val3 u2) rfl rfl (size3 _) hs WrA.slot3 ?_; clear hs; intro w hs; replace hs := hs.drop))
      obtain ⟨c0, c1, c2⟩ := Has3.facts has3_slot hs
      clear c1 c2
      subst ho
      go_upto_region 14 with (first
        | (refine wpl_buildS (build3k _) rfl ?_)
        | (refine wpl_load3 (v := ⟨((r3 : Nat) : Int) + 1, 0, 0⟩) rfl (has3_slot (t := 40)) agg3 size3n hs ?_)
        | (go_at_call 18; refine (sl_put hs.up2 HB.out.l2 HU3 HC3 (Lib.hid HB.out.e3) (Lib.hid HB.out.p3)).mono ?_; clear hs; rintro r w ⟨rfl, hs⟩; replace hs := hs.dn2)
        | (go_at_call 30; refine (sl_set hs.up2 HB.out.l2 (Lib.hid HB.out.e4) (Lib.hid HB.out.p4)).mono ?_; clear hs; rintro r w ⟨rfl, hs⟩; replace hs := hs.dn2)
        | (refine wpl_alloc zero3 hs ?_; clear hs c0; intro g24 w hs)
        | (refine wpl_alloc zero3 hs ?_; clear hs; intro g25 w hs)
        | (refine wpl_store_agg (v := val3 ⟨((r3 : Nat) : Int) + 1, 0, 0⟩) rfl rfl (size3 _) hs WrA.slot3 ?_; clear hs; intro w hs)
        | (refine wpl_store_agg (v := val3 u3) rfl rfl (size3 _) hs WrA.slot3 ?_; clear hs; intro w hs; replace hs := hs.drop))
      replace hs : St w0 [SlB X s2, blk g16 (c3 x).toArray 40, blk g17 (c3 y).toArray 40] _ := hs.drop.drop
      have hwp := wf_nat (i := p) (by omega)
      have hwq := wf_nat (i := q) (by omega)
      obtain ⟨u6, HU6⟩ : ∃ u, Hid (s3.get ((p : Nat) : Int) = u) := ⟨_, rfl⟩
      have HS4 : Hid (s3.set ((p : Nat) : Int) x = s3) := SlS.set_no (by rw [HB.out.e8]; decide)
      clear HU1 HU2 HU3 HC3 HS1 HS2 hr3 hr3l
      go_upto_region 15 with (first
        | (refine wpl_load (v := v) rfl one_pl hs (Rd.slp_v HP2) ?_)
        | (refine wpl_inv1 (v := v) (v1 := .int .i64 ((p : Nat) : Int)) rfl rfl (sl_get hs HP2 hwp (Lib.hid HB.out.g5) (Lib.hid HB.out.h5)) ?_; rintro r w ⟨rfl, hg⟩; replace hs := hs.grew hg; clear hg)
        | (refine wpl_alloc zero3 hs ?_; clear hs; intro g29 w hs)
        | (refine wpl_store_agg (v := val3 x) rfl rfl (size3 _) hs WrA.slot3 ?_; clear hs; intro w hs))
      go_upto_region 16 with (first
        | (refine wpl_alloc zero3 hs ?_; clear hs; intro g31 w hs)
        | (refine wpl_store_agg (v := val3 x) rfl rfl (size3 _) hs WrA.slot3 ?_; clear hs; intro w hs)
        | (go_at_call 31; refine (sl_take hs.rot hwp HB.out.l2 (Lib.hid HB.out.g5) (Lib.hid HB.out.h5) HS3).mono ?_; clear hs; rintro r w ⟨rfl, hs⟩; replace hs := hs.rot))
      replace hs : St w0 [blk g31 (c3 x).toArray 40, blk g29 (c3 x).toArray 40, SlB X s3, blk g16 (c3 x).toArray 40, blk g17 (c3 y).toArray 40] _ := hs
      go_upto_region 17 with (first
        | (refine wpl_load (v := v) rfl one_pl hs (Rd.slp_v HP3).tail.tail ?_)
        | (refine wpl_inv1 (v := v) (v1 := .int .i64 ((p : Nat) : Int)) rfl rfl (sl_get hs.up2 HP3 hwp HU6 (Lib.hid HB.out.h6)) ?_; rintro r w ⟨rfl, hg⟩; replace hs := hs.grew hg; clear hg)
        | (refine wpl_alloc zero3 hs ?_; clear hs; intro g33 w hs)
        | (refine wpl_store_agg (v := val3 u6) rfl rfl (size3 _) hs WrA.slot3 ?_; clear hs; intro w hs; replace hs := hs.drop))
      have HDR : Hid (∀ w, St w0 [blk g31 (c3 x).toArray 40, blk g29 (c3 x).toArray 40, SlB X s3, blk g16 (c3 x).toArray 40, blk g17 (c3 y).toArray 40] w → St w0 [] w) := fun w h => h.drop.drop.drop.drop.drop
      go_wp2_with (first
        | (refine wpl_load (v := v) rfl one_pl hs (Rd.slp_v HP3).tail.tail ?_)
        | (refine wpl_inv1 (v := v) (v1 := .int .i64 ((q : Nat) : Int)) rfl rfl (sl_get hs.up2 HP3 hwq (Lib.hid HB.out.g7) (Lib.hid HB.out.h7)) ?_; rintro r w ⟨rfl, hg⟩; replace hs := hs.grew hg; clear hg)
        | (refine wpl_alloc zero3 hs ?_; clear hs; intro g35 w hs)
        | (refine wpl_store_agg (v := val3 y) rfl rfl (size3 _) hs WrA.slot3 ?_; clear hs; intro w hs; obtain ⟨a35, b35, d35⟩ := Has3.facts (has3_slot (g := g35) (v := y)) hs; obtain ⟨a31, b31, d31⟩ := Has3.facts (has3_tail (has3_slot (g := g31) (v := x))) hs; obtain ⟨a29, b29, d29⟩ := Has3.facts (has3_tail (has3_tail (has3_slot (g := g29) (v := x)))) hs; obtain ⟨a16, b16, d16⟩ := Has3.facts (has3_tail (has3_tail (has3_tail (has3_tail (has3_slot (g := g16) (v := x)))))) hs; obtain ⟨a17, b17, d17⟩ := Has3.facts (has3_tail (has3_tail (has3_tail (has3_tail (has3_tail (has3_slot (g := g17) (v := y))))))) hs)
        | (go_at_call 30; refine (sl_set hs.up3 HB.out.l3 (Lib.hid HB.out.e8) HS4).mono ?_; clear hs; rintro r w ⟨rfl, hs⟩; replace hs := hs.dn3; have cpl := (Rd.slp_v HP3).tail.tail.tail _ hs)
        | (refine wpl_guard rfl ?_; refine wpl_inv0 (v := v) rfl (sl_len hs.up3 HP3 (Lib.hid HB.out.n9)) ?_; rintro r w ⟨rfl, hg⟩; replace hs := hs.grew hg; clear hg)
        | (go_at_call 20; refine awake11.mono ?_; rintro r w ⟨rfl, hg⟩; replace hs := hs.grew hg; clear hg))
      go_ret
      exact ⟨rfl, HDR.out _ hs.drop⟩
end Go.Proofs.Ytmdjpeblbnbjmaa
