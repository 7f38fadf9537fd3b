/-
  WorldHeld: the walk. (Printed by gen_wohe.py.)
-/
import Derived.Test.YtiafdlofcjbllaaGreatDoorWo13
import Derived.Test.YtiafdlofcjbllaaGreatDoorWo11
import Derived.Test.YtiafdlofcjbllaaGreatDoorOpsB
import Derived.Test.YtiafdlofcjbllaaGreatDoorJA
set_option maxRecDepth 100000
namespace Go.Proofs.YtiafdlofcjbllaaGreatDoor
open Go Go.RowKit
structure HeK (one : V3) (s0 s1 s2 s3 s4 s5 s6 s7 s8 : WoS) : Prop where
  cr : s0.create = ((0, 1), 0, s1)
  ins : s1.ins (0, 1) 0 one = (V3.z, false, 0, s2)
  f2 : s2.free = 0
  h3 : ({ s2 with held := true } : WoS) = s3
  f3 : s3.free = 13
  h4 : ({ s3 with held := true } : WoS) = s3
  hd : s3.held = true
  r1 : s3.create = ((0, 0), 13, s3)
  r2 : s3.del (0, 1) = (0, 13, s3)
  r3 : s3.ins (0, 1) 0 one = (V3.z, false, 13, s3)
  r4 : s3.rem (0, 1) 0 = (V3.z, 13, s3)
  r5 : s3.maint = (V3.z, 13, s3)
  r6 : s3.reader 0 = (0, 13, s3)
  set : s3.set (0, 1) 0 ⟨1, 5, 0⟩ = (0, s4)
  get : s4.get (0, 1) 0 = (⟨1, 5, 0⟩, 0)
  rs : s4.give 2 = ((1, 1), 0, s5)
  df : s5.defer [⟨1, (0, 1), 0, V3.z⟩, ⟨2, (1, 1), 0, one⟩] = (0, s6)
  fr : ({ s6 with held := false } : WoS) = s7
  mt : s7.maint = (⟨1, 2, 0⟩, 0, s8)
  gt : s8.get (1, 1) 0 = (one, 0)
  st : stV s8.e.cs (0, 1) = 0
  h8 : s8.held = false
  q3 : s3.q.length ≤ 10000
  q5 : s5.q.length ≤ 10000
  q7 : s7.q.length ≤ 10000
  e1 : EvL 0 s1.e.l
  e3 : EvL 1 s3.e.l
  e7 : EvL 2 s7.e.l
theorem heK (X : Nat) (v : Value) (F : Option Nat) (l : List Cmp) (rs : List Int) (a : Int) (hev : EvL 0 ((X, newSl ⟨1, 2, 5⟩ v F) :: l)) : ∃ s1 s2 s3 s4 s5 s6 s7 s8, HeK ⟨1, a, 0⟩ ⟨⟨4, newA 13, (X, newSl ⟨1, 2, 5⟩ v F) :: l⟩, [], rs, false⟩ s1 s2 s3 s4 s5 s6 s7 s8 := by
  obtain ⟨s0, h0⟩ : ∃ s0 : WoS, s0 = ⟨⟨4, newA 13, (X, newSl ⟨1, 2, 5⟩ v F) :: l⟩, [], rs, false⟩ := ⟨_, rfl⟩
  refine ⟨⟨⟨4, (newA 13).set 0 (1, 1), (X, newSl ⟨1, 2, 5⟩ v F) :: l⟩, [], rs, false⟩, ⟨⟨4, (newA 13).set 0 (1, 1), (X, (newSl ⟨1, 2, 5⟩ v F).put 0 ⟨1, a, 0⟩) :: l⟩, [], rs, false⟩, ⟨⟨4, (newA 13).set 0 (1, 1), (X, (newSl ⟨1, 2, 5⟩ v F).put 0 ⟨1, a, 0⟩) :: l⟩, [], rs, true⟩,
    ⟨⟨4, (newA 13).set 0 (1, 1), (X, ((newSl ⟨1, 2, 5⟩ v F).put 0 ⟨1, a, 0⟩).set 0 ⟨1, 5, 0⟩) :: l⟩, [], rs, true⟩, ⟨⟨4, ((newA 13).set 0 (1, 1)).set 1 (2, 1), (X, ((newSl ⟨1, 2, 5⟩ v F).put 0 ⟨1, a, 0⟩).set 0 ⟨1, 5, 0⟩) :: l⟩, [], rs, true⟩,
    ⟨⟨4, ((newA 13).set 0 (1, 1)).set 1 (2, 1), (X, ((newSl ⟨1, 2, 5⟩ v F).put 0 ⟨1, a, 0⟩).set 0 ⟨1, 5, 0⟩) :: l⟩, [⟨1, (0, 1), 0, V3.z⟩, ⟨2, (1, 1), 0, ⟨1, a, 0⟩⟩], rs, true⟩, ⟨⟨4, ((newA 13).set 0 (1, 1)).set 1 (2, 1), (X, ((newSl ⟨1, 2, 5⟩ v F).put 0 ⟨1, a, 0⟩).set 0 ⟨1, 5, 0⟩) :: l⟩, [⟨1, (0, 1), 0, V3.z⟩, ⟨2, (1, 1), 0, ⟨1, a, 0⟩⟩], rs, false⟩,
    ((⟨⟨4, ((newA 13).set 0 (1, 1)).set 1 (2, 1), (X, ((newSl ⟨1, 2, 5⟩ v F).put 0 ⟨1, a, 0⟩).set 0 ⟨1, 5, 0⟩) :: l⟩, [⟨1, (0, 1), 0, V3.z⟩, ⟨2, (1, 1), 0, ⟨1, a, 0⟩⟩], rs, false⟩ : WoS).maint).2.2, ?_⟩
  have hp : EvL 1 ((X, (newSl ⟨1, 2, 5⟩ v F).put 0 ⟨1, a, 0⟩) :: l) := by
    have := hev.more.set (j := 0) (x := (X, (newSl ⟨1, 2, 5⟩ v F).put 0 ⟨1, a, 0⟩)) (by
      have h1 := hev _ List.mem_cons_self
      have h2 := SlS.put_len (newSl ⟨1, 2, 5⟩ v F) 0 ⟨1, a, 0⟩
      show ((newSl ⟨1, 2, 5⟩ v F).put 0 ⟨1, a, 0⟩).evs.length ≤ 1
      exact Nat.le_trans h2 (Nat.succ_le_succ h1))
    simpa using this
  have hp2 : EvL 2 ((X, ((newSl ⟨1, 2, 5⟩ v F).put 0 ⟨1, a, 0⟩).set 0 ⟨1, 5, 0⟩) :: l) := by
    have := hp.more.set (j := 0) (x := (X, ((newSl ⟨1, 2, 5⟩ v F).put 0 ⟨1, a, 0⟩).set 0 ⟨1, 5, 0⟩)) (by
      have h1 := hp _ List.mem_cons_self
      have h2 := SlS.set_len ((newSl ⟨1, 2, 5⟩ v F).put 0 ⟨1, a, 0⟩) 0 ⟨1, 5, 0⟩
      show (((newSl ⟨1, 2, 5⟩ v F).put 0 ⟨1, a, 0⟩).set 0 ⟨1, 5, 0⟩).evs.length ≤ 2
      exact Nat.le_trans h2 (Nat.succ_le_succ h1))
    simpa using this
  exact ⟨by kernel_rfl, by kernel_rfl, rfl, rfl, rfl, rfl, rfl, by kernel_rfl, by kernel_rfl, by kernel_rfl, by kernel_rfl, by kernel_rfl, by kernel_rfl, by kernel_rfl, by kernel_rfl, by kernel_rfl, by kernel_rfl, rfl, by kernel_rfl, by kernel_rfl, by kernel_rfl, by kernel_rfl, Nat.zero_le _, Nat.zero_le _, (show 2 ≤ 10000 by decide), hev, hp, hp2⟩
attribute [local irreducible] wpList Calls Code.wp okI okN pS tS memS getG pG insS delS getV pV tV okVal newSl SlS.put SlS.err SlS.putU SlS.putB descE SlS.take SlS.set SlS.errSet SlS.get SlS.has stV EnS.live EnS.get EnS.slot EnS.ins EnS.set EnS.rem EnS.parts EnS.del ofN strL delA newA giveV cs3 errDs descsL mkV WoS.give WoS.defer WoS.maint WoS.get WoS.set WoS.ins WoS.rem WoS.del WoS.create WoS.reader i8v
theorem build_d125 (w : World) : (Instr.build 97 #[(0, .int .i64 1), (1, .int .i64 2), (2, .int .i64 5)]).run Tryz.prog w = .ok (val3 ⟨1, 2, 5⟩) w := by kernel_rfl
theorem build_op1 (k i g : Int) (w : World) : (Instr.build 99 #[(0, .int .i64 k), (1, hv (i, g))]).run Tryz.prog w = .ok (valW ⟨k, (i, g), 0, V3.z⟩) w := by kernel_rfl
theorem build_op2v (k i g : Int) (v : V3) (w : World) : (Instr.build 99 #[(0, .int .i64 k), (1, hv (i, g)), (3, val3 v)]).run Tryz.prog w = .ok (valW ⟨k, (i, g), 0, v⟩) w := by kernel_rfl
theorem size24 : (Tryz.prog.info? 24).map (·.size) = some 1 := by kernel_rfl
theorem Wr.cf2 {w0 : World} {g : Nat} {n top : Int} {A A' : Option Addr} {m cA m' cA' : Nat} {B : Option Addr} {k cB : Nat} {t : TypeId} {L : List As} : Wr w0 (YtiafdlofcjbllaaGreatDoor.blk g (cfC n top A m cA B k cB).toArray t :: L) ⟨g, 2, none⟩ (.slice A' m' cA') (YtiafdlofcjbllaaGreatDoor.blk g (cfC n top A' m' cA' B k cB).toArray t :: L) := Wr.blk (by simp [cfC])
set_option maxHeartbeats 16000000 in
theorem woheld16_c {w0 : World} (hT : Tab w0) {va : Value} {za : List Int} (hva : IntArg w0 va za) (v : V3) :
    Calls Tryz.prog 11 #[va, val3 v] w0 (LawPost w0) := by
  obtain ⟨A0, na, ca, rfl, hna, hnc, hcm, hra, -⟩ := hva
  unfold maxLen at hcm
  have HNA := Lib.hid hna
  have hnb : na ≤ 9223372036854775807 := by omega
  clear hna hnc hcm
  have hs := St.start w0
  obtain ⟨ds, hds⟩ : ∃ z, Hid (descsL za = z) := ⟨_, rfl⟩
  have hl8 : ds.length ≤ 8 := by rw [← hds.out]; exact descsL_len za
  have HOK : Hid (∀ d ∈ ds, descE d = 0) := by rw [Hid, ← hds.out]; exact descsL_ok za
  have HER : Hid (errDs 0 (⟨1, 2, 5⟩ :: ds) = 0) := errDs_ok (fun d hd => by
    rcases List.mem_cons.1 hd with rfl | hd
    · unfold descE; rfl
    · exact HOK.out d hd) (by rw [List.length_cons]; omega)
  go_enter Tryz.func11, Tryz.ntmps11
  go_upto_region 2 with (first
    | (refine wpl_box_v (v := val3 v) rfl hs ?_; clear hs; intro g3 w hs; replace hs : St w0 [blk g3 (c3 v).toArray 38] w := hs)
    | (go_at_call 58; refine (config_c (N := 13) (q3 := 3) hs HNA hnb hra hds (by rw [Hid]; rfl) (by rw [Hid]; rfl)).mono ?_; clear hs; rintro r w ⟨B, m, cB, G, hm, rfl, hs⟩; have hm8 : m ≤ 8 := hm.out ▸ hl8)
    | (refine wpl_alloc zeroCf hs ?_; clear hs; intro g5 w hs; replace hs : St w0 (blk g5 (cfC 0 0 none 0 0 none 0 0).toArray 28 :: _) w := hs)
    | (refine wpl_store_agg (v := .agg (cfC (13 : Nat) ((3 : Nat) + 1) B m cB (some ⟨G, 0, none⟩) 2 2).toArray) rfl rfl (sizeCfv _ _ _ _ _ _ _ _) hs WrA.slotCf ?_; clear hs; intro w hs))
  have hmx : Hid (((⟨1, 2, 5⟩ : V3) :: ds).length = 1 + m) := by rw [Hid, List.length_cons, hm.out, Nat.add_comm]
  clear hl8 hds hra HNA HOK
  go_upto_region 3 with (first
    | (refine wpl_buildS build_d125 rfl ?_)
    | (refine wpl_build1 (v := val3 ⟨1, 2, 5⟩) elemDs (by decide) rfl rfl hs ?_; clear hs; intro G1 w hs; replace hs : St w0 (own (some ⟨G1, 0, none⟩) 1 1 97 3 (c3 ⟨1, 2, 5⟩) :: _) w := St.conv hs (own_of_blkN (C := 3) rfl (by decide)); have c2 : World.cell? _ ⟨g5, 2, none⟩ = some (.slice B m cB) := Rd.blk (by rfl) _ hs.drop)
    | (refine wpl_append (n := 1) (m := m) (news := cs3 ds) elemDs rfl rfl hs (Ent.refl _) (RdS.own hs.drop.drop).tail.tail (by rw [cs3_len, hm.out]) (cs3_ones _) (by unfold maxLen; omega) (by omega) ?_; clear hs c2; intro B2 cap2 w hs)
    | (refine wpl_store (v := .slice B2 (1 + m) cap2) rfl rfl rfl size24 hs.rot Wr.cf2 ?_; clear hs; intro w hs))
  go_upto_region 4 with (first
    | (refine wpl_load_agg (cs := cfC (13 : Nat) ((3 : Nat) + 1) B2 (1 + m) cap2 (some ⟨G, 0, none⟩) 2 2) (b := g5) (o := 0) rfl aggCf (sizeCf _ _ _ _ _ _ _ _) hs ?hh ?_; case hh => exact fun j x hx => (Rd.blk (by simpa using hx)))
    | (go_at_call 47; refine (wo_new (n := 13) (top := 4) hs (by decide) (by decide) (by decide) (by decide) hmx (by omega) (by rw [cs3_cons]; exact (RdS.own hs.drop).tail) HER (B := some ⟨G, 0, none⟩) (fun h => nomatch h) (k := 2) (rs := [3, -7]) rfl (by decide) (by decide) RdS.blk.tail.tail.tail).mono ?_; clear hs; rintro r w ⟨W, E, A, R, X, Q, l, HNL, rfl, hs⟩))
  obtain ⟨Y, pv, F, l', rfl⟩ := newL_cons HNL.out
  obtain ⟨s1, s2, s3, s4, s5, s6, s7, s8, HK⟩ := heK Y pv F l' [3, -7] v.a HNL.out.pt.ev
  have HK := Lib.hid HK
  obtain ⟨s0, HS0⟩ : ∃ z, Hid ((⟨⟨4, newA 13, (Y, newSl ⟨1, 2, 5⟩ pv F) :: l'⟩, [], [3, -7], false⟩ : WoS) = z) := ⟨_, rfl⟩
  rw [HS0.out] at hs HK
  obtain ⟨one, HONE⟩ : ∃ z, Hid ((⟨1, v.a, 0⟩ : V3) = z) := ⟨_, rfl⟩
  have HMK : Hid (mkV 1 v.a 0 = one) := by rw [Hid, ← HONE.out]; unfold mkV; rfl
  rw [HONE.out] at HK
  replace hs : St w0 [WoB W E A R X Q 13 s0, blk g3 (c3 v).toArray 38] w := (hs.ent (M := WoB W E A R X Q 13 s0 :: blk g3 (c3 v).toArray 38 :: own B2 (1 + m) cap2 97 3 (c3 ⟨1, 2, 5⟩ ++ cs3 ds) :: own B m cB 97 3 (cs3 ds) :: blk G (i8v [3, -7]).toArray 2 :: [blk g5 (cfC (13 : Nat) ((3 : Nat) + 1) B2 (1 + m) cap2 (some ⟨G, 0, none⟩) 2 2).toArray 28]) (by (repeat first | exact Ent.refl _ | refine Ent.step (by repeat first | exact Ent.refl _ | apply Ent.skip) ?_))) |> St.front (L := [_, _])
  clear HNL HER hmx HS0
  go_upto_region 7 with (first
    | (go_at_call 52; refine (wo_create hT hs (Lib.hid HK.out.cr)).mono ?_; clear hs; rintro r w ⟨rfl, hs⟩)
    | (refine wpl_alloc zeroH hs ?_; clear hs; intro g8 w hs)
    | (refine wpl_store_agg (v := hv (0, 1)) rfl rfl (by rw [sizeHd]; rfl) hs WrA.slotH ?_; clear hs; intro w hs))
  have p1 : World.cell? _ ⟨g3, 1, none⟩ = some (.int .i64 v.a) := Rd.blk (by rfl) _ hs.drop.drop
  go_upto_region 8 with (first
    | (go_at_call 67; refine (lvalue_c 1 v.a 0 HMK).mono ?_; clear p1; rintro r w' ⟨rfl, hg⟩; replace hs := hs.grew hg; clear hg)
    | (refine wpl_alloc zero3 hs ?_; clear hs; intro g10 w hs)
    | (refine wpl_store_agg (v := val3 one) rfl rfl (size3 _) hs WrA.slot3 ?_; clear hs; intro w hs))
  replace hs : St w0 [WoB W E A R X Q 13 s1, blk g8 (h2 (0, 1)).toArray 40, blk g10 (c3 one).toArray 38] w := (hs.ent (M := blk g3 (c3 v).toArray 38 :: [WoB W E A R X Q 13 s1, blk g8 (h2 (0, 1)).toArray 40, blk g10 (c3 one).toArray 38]) (by (repeat first | exact Ent.refl _ | refine Ent.step (by repeat first | exact Ent.refl _ | apply Ent.skip) ?_))).drop
  have HEV1 := Lib.hid (HK.out.e1.lt (by decide))
  have HEV3 := Lib.hid (HK.out.e3.lt (by decide))
  go_upto_region 9 with (first
    | (refine wpl_load_agg (cs := h2 (0, 1)) (b := g8) (o := 0) rfl aggH (sizeHd _) hs ?hh ?_; case hh => exact fun j x hx => (Rd.blk (by simpa using hx)).tail)
    | (refine wpl_load3 (v := one) (g := g10) rfl (has3_tail (has3_tail (has3_slot (t := 38)))) agg3 size3n hs ?_)
    | (refine wpl_alloc zero3 hs ?_; clear hs; intro g11 w hs)
    | (refine wpl_store_agg (v := val3 V3.z) rfl rfl (size3 _) hs WrA.slot3 ?_; clear hs; intro w hs; replace hs := hs.drop)
    | (go_at_call 63; refine (wo_ins (h := (0, 1)) hs HEV1.out (Lib.hid HK.out.ins)).mono ?_; clear hs; rintro r w ⟨rfl, hs⟩))
  have HF2 := Lib.hid HK.out.f2
  have HH3 := Lib.hid HK.out.h3
  have HF3 := Lib.hid HK.out.f3
  have HH4 := Lib.hid HK.out.h4
  have HD3 := Lib.hid HK.out.hd
  go_upto_region 11 with (first
    | (go_at_call 62; refine (wohold_v hs HF2 HH3).mono ?_; clear hs; rintro r w ⟨rfl, hs⟩)
    | (go_at_call 62; refine (wohold_v hs HF3 HH4).mono ?_; clear hs; rintro r w ⟨rfl, hs⟩)
    | (go_at_call 51; refine (woheld_v hs HD3).mono ?_; rintro r w' ⟨rfl, hg⟩; replace hs := hs.grew hg; clear hg))
  clear HF2 HH3 HF3 HH4 HD3
  go_upto_region 12 with (first
    | (go_at_call 52; refine (wo_create hT hs (Lib.hid HK.out.r1)).mono ?_; clear hs; rintro r w ⟨rfl, hs⟩)
    | (refine wpl_alloc zeroH hs ?_; clear hs; intro g14 w hs)
    | (refine wpl_store_agg (v := hv (0, 0)) rfl rfl (by rw [sizeHd]; rfl) hs WrA.slotH ?_; clear hs; intro w hs; replace hs := hs.drop))
  go_upto_region 13 with (first
    | (refine wpl_load_agg (cs := h2 (0, 1)) (b := g8) (o := 0) rfl aggH (sizeHd _) hs ?hh ?_; case hh => exact fun j x hx => (Rd.blk (by simpa using hx)).tail)
    | (go_at_call 61; refine (wo_del (h := (0, 1)) hs HEV3.out (Lib.hid HK.out.r2)).mono ?_; clear hs; rintro r w ⟨rfl, hs⟩))
  go_upto_region 14 with (first
    | (refine wpl_load_agg (cs := h2 (0, 1)) (b := g8) (o := 0) rfl aggH (sizeHd _) hs ?hh ?_; case hh => exact fun j x hx => (Rd.blk (by simpa using hx)).tail)
    | (refine wpl_load3 (v := one) (g := g10) rfl (has3_tail (has3_tail (has3_slot (t := 38)))) agg3 size3n hs ?_)
    | (refine wpl_alloc zero3 hs ?_; clear hs; intro g18 w hs)
    | (refine wpl_store_agg (v := val3 V3.z) rfl rfl (size3 _) hs WrA.slot3 ?_; clear hs; intro w hs; replace hs := hs.drop)
    | (go_at_call 63; refine (wo_ins (h := (0, 1)) hs HEV3.out (Lib.hid HK.out.r3)).mono ?_; clear hs; rintro r w ⟨rfl, hs⟩))
  go_upto_region 15 with (first
    | (refine wpl_load_agg (cs := h2 (0, 1)) (b := g8) (o := 0) rfl aggH (sizeHd _) hs ?hh ?_; case hh => exact fun j x hx => (Rd.blk (by simpa using hx)).tail)
    | (refine wpl_alloc zero3 hs ?_; clear hs; intro g21 w hs)
    | (refine wpl_store_agg (v := val3 V3.z) rfl rfl (size3 _) hs WrA.slot3 ?_; clear hs; intro w hs; replace hs := hs.drop)
    | (go_at_call 64; refine (wo_rem (h := (0, 1)) hs HEV3.out (Lib.hid HK.out.r4)).mono ?_; clear hs; rintro r w ⟨rfl, hs⟩))
  go_upto_region 16 with (first
    | (go_at_call 54; refine (wo_maint hT hs HK.out.e3 (by decide) HK.out.q3 (Lib.hid HK.out.r5)).mono ?_; clear hs; rintro r w ⟨rfl, hs⟩)
    | (refine wpl_alloc zeroRp hs ?_; clear hs; intro g23 w hs)
    | (refine wpl_store_agg (v := val3 V3.z) rfl rfl (sizeRp _) hs WrA.slot3 ?_; clear hs; intro w hs; replace hs := hs.drop))
  go_upto_region 17 with (first
    | (go_at_call 59; refine (wo_reader hs (Lib.hid HK.out.r6)).mono ?_; clear hs; rintro r w ⟨rfl, hs⟩))
  have HSET := Lib.hid HK.out.set
  have HMK5 : Hid (mkV 1 5 0 = (⟨1, 5, 0⟩ : V3)) := by rw [Hid]; unfold mkV; rfl
  replace hs : St w0 [blk g8 (h2 (0, 1)).toArray 40, WoB W E A R X Q 13 s3, blk g10 (c3 one).toArray 38] w := hs.rot
  refine wp_mix 2 [0, 1] [2, 3, 4] hs.only (by kernel_rfl) (by kernel_rfl) fun hne => ?_
  have r0 := (show Rd w0 [blk g8 (h2 (0, 1)).toArray 40] ⟨g8, 0, none⟩ (.int .i64 0) from Rd.blk rfl).alln
  have r1 := (show Rd w0 [blk g8 (h2 (0, 1)).toArray 40] ⟨g8, 1, none⟩ (.int .i64 1) from Rd.blk rfl).alln
  simp only [opsAt, List.getElem?_toArray, List.getElem?_cons_succ, List.getElem?_cons_zero]
  repeat (go_big_quiet_step (fail))
  refine wpQuiet_nil ?_
  clear hne r0 r1
  replace hs := hs.drew
  refine wpMix_next [2] (by kernel_rfl) (by simp) (fun c hc => ?_)
  simp only [List.mem_singleton] at hc
  subst hc
  refine ⟨_, rfl, ?_⟩
  go_wp2_with (first
    | (go_at_call 67; refine (lvalue_c 1 5 0 HMK5).mono ?_; rintro r w ⟨rfl, hg⟩; replace hs := hs.grew hg; clear hg))
  refine mix_quiet [] [3, 4] hs.only (by kernel_rfl) (by kernel_rfl) fun hne => ?_
  simp only [opsAt]
  refine wpQuiet_nil ?_
  clear hne
  refine wpMix_next [3] (by kernel_rfl) (by simp) (fun c hc => ?_)
  simp only [List.mem_singleton] at hc
  subst hc
  refine ⟨_, rfl, ?_⟩
  go_wp2_with (first
    | (go_at_call 65; refine (wo_set (h := (0, 1)) hs.rot HEV3.out HSET).mono ?_; clear hs; rintro r w ⟨rfl, hs⟩; replace hs := hs.rot))
  replace hs : St w0 (blk g8 (h2 (0, 1)).toArray 40 :: WoB W E A R X Q 13 s4 :: blk g10 (c3 one).toArray 38 :: []) w := hs.ent (by (repeat first | exact Ent.refl _ | refine Ent.step (by repeat first | exact Ent.refl _ | apply Ent.skip) ?_))
  refine mix_quiet [4] [] hs.only (by kernel_rfl) (by kernel_rfl) fun hne => ?_
  simp only [opsAt, List.getElem?_toArray, List.getElem?_cons_succ, List.getElem?_cons_zero]
  repeat (go_big_quiet_step (fail))
  refine wpQuiet_nil ?_
  clear hne
  refine wpMix_end ?_
  replace hs := hs.rot
  clear HSET HMK5
  go_upto_region 19 with (first
    | (refine wpl_load_agg (cs := h2 (0, 1)) (b := g8) (o := 0) rfl aggH (sizeHd _) hs ?hh ?_; case hh => exact fun j x hx => (Rd.blk (by simpa using hx)).tail)
    | (refine wpl_alloc zero3 hs ?_; clear hs; intro g28 w hs)
    | (refine wpl_store_agg (v := val3 ⟨1, 5, 0⟩) rfl rfl (size3 _) hs WrA.slot3 ?_; clear hs; intro w hs)
    | (go_at_call 55; refine (wo_get (h := (0, 1)) hs (Lib.hid HK.out.get)).mono ?_; clear hs; rintro r w ⟨rfl, hs⟩))
  replace hs : St w0 [WoB W E A R X Q 13 s4, blk g8 (h2 (0, 1)).toArray 40, blk g10 (c3 one).toArray 38, blk g28 (c3 ⟨1, 5, 0⟩).toArray 38] w := hs.ent (by (repeat first | exact Ent.refl _ | refine Ent.step (by repeat first | exact Ent.refl _ | apply Ent.skip) ?_))
  have kW := Rd.wo0 _ hs
  have k0 := Rd.woe0 _ hs
  go_upto_region 20 with (first
    | (go_at_call 21; refine (wo_raise hT hs (Lib.hid HK.out.rs)).mono ?_; clear hs k0 kW; rintro r w ⟨rfl, hs⟩)
    | (refine wpl_alloc zeroH hs ?_; clear hs; intro g30 w hs)
    | (refine wpl_store_agg (v := hv (1, 1)) rfl rfl (by rw [sizeHd]; rfl) hs WrA.slotH ?_; clear hs; intro w hs))
  replace hs : St w0 [WoB W E A R X Q 13 s5, blk g8 (h2 (0, 1)).toArray 40, blk g10 (c3 one).toArray 38, blk g30 (h2 (1, 1)).toArray 40, blk g28 (c3 ⟨1, 5, 0⟩).toArray 38] w := hs.ent (by (repeat first | exact Ent.refl _ | refine Ent.step (by repeat first | exact Ent.refl _ | apply Ent.skip) ?_))
  go_upto_region 21 with (first
    | (refine wpl_load_agg (cs := h2 (0, 1)) (b := g8) (o := 0) rfl aggH (sizeHd _) hs ?hh ?_; case hh => exact fun j x hx => (Rd.blk (by simpa using hx)).tail)
    | (refine wpl_load3 (v := one) (g := g10) rfl (has3_tail (has3_tail (has3_slot (t := 38)))) agg3 size3n hs ?_)
    | (refine wpl_load_agg (cs := h2 (1, 1)) (b := g30) (o := 0) rfl aggH (sizeHd _) hs ?hh ?_; case hh => exact fun j x hx => (Rd.blk (by simpa using hx)).tail.tail.tail)
    | (refine wpl_buildS (build_op1 1 0 1) rfl ?_)
    | (refine wpl_buildS (build_op2v 2 1 1 one) rfl ?_)
    | (refine wpl_buildRun (build_ops2 ⟨1, (0, 1), 0, V3.z⟩ ⟨2, (1, 1), 0, one⟩) rfl hs ?_; clear hs; intro G2 w hs; replace hs : St w0 (WoB W E A R X Q 13 s5 :: blk G2 (c7w ⟨1, (0, 1), 0, V3.z⟩ ++ c7w ⟨2, (1, 1), 0, one⟩).toArray 99 :: _) w := hs.rot)
    | (go_at_call 53; refine (wo_defer (l := [⟨1, (0, 1), 0, V3.z⟩, ⟨2, (1, 1), 0, one⟩]) HK.out.q5 (show 2 ≤ 1000000 by decide) hs (by rw [c7_two]; exact RdS.blk) (Lib.hid HK.out.df)).mono ?_; clear hs; rintro r w ⟨rfl, hs⟩))
  replace hs : St w0 [WoB W E A R X Q 13 s6, blk g8 (h2 (0, 1)).toArray 40, blk g10 (c3 one).toArray 38, blk g30 (h2 (1, 1)).toArray 40, blk g28 (c3 ⟨1, 5, 0⟩).toArray 38] w := hs.rot.drop
  have p5 : World.cell? _ ⟨g28, 1, none⟩ = some (.int .i64 5) := Rd.blk (by rfl) _ hs.drop.drop.drop.drop
  go_upto_region 24 with (fail)
  clear p5
  have HFR := Lib.hid HK.out.fr
  go_upto_region 26 with (first
    | (go_at_call 68; refine (wofreeW_v hs HFR).mono ?_; clear hs; rintro r w ⟨rfl, hs⟩)
    | (go_at_call 54; refine (wo_maint hT hs HK.out.e7 (by decide) HK.out.q7 (Lib.hid HK.out.mt)).mono ?_; clear hs; rintro r w ⟨rfl, hs⟩)
    | (refine wpl_alloc zeroRp hs ?_; clear hs; intro g34 w hs)
    | (refine wpl_store_agg (v := val3 ⟨1, 2, 0⟩) rfl rfl (sizeRp _) hs WrA.slot3 ?_; clear hs; intro w hs))
  clear HFR
  replace hs : St w0 [WoB W E A R X Q 13 s8, blk g30 (h2 (1, 1)).toArray 40, blk g8 (h2 (0, 1)).toArray 40, blk g10 (c3 one).toArray 38, blk g34 (c3 ⟨1, 2, 0⟩).toArray 102] w := (hs.ent (M := blk g28 (c3 ⟨1, 5, 0⟩).toArray 38 :: [WoB W E A R X Q 13 s8, blk g30 (h2 (1, 1)).toArray 40, blk g8 (h2 (0, 1)).toArray 40, blk g10 (c3 one).toArray 38, blk g34 (c3 ⟨1, 2, 0⟩).toArray 102]) (by (repeat first | exact Ent.refl _ | refine Ent.step (by repeat first | exact Ent.refl _ | apply Ent.skip) ?_))).drop
  go_upto_region 27 with (first
    | (refine wpl_load_agg (cs := h2 (1, 1)) (b := g30) (o := 0) rfl aggH (sizeHd _) hs ?hh ?_; case hh => exact fun j x hx => (Rd.blk (by simpa using hx)).tail)
    | (refine wpl_alloc zero3 hs ?_; clear hs; intro g36 w hs)
    | (refine wpl_store_agg (v := val3 one) rfl rfl (size3 _) hs WrA.slot3 ?_; clear hs; intro w hs)
    | (go_at_call 55; refine (wo_get (h := (1, 1)) hs (Lib.hid HK.out.gt)).mono ?_; clear hs; rintro r w ⟨rfl, hs⟩))
  replace hs := hs.rot
  go_upto_region 29 with (first
    | (go_at_call 66; refine (wo_ents hs).mono ?_; rintro r w' ⟨rfl, rfl⟩)
    | (go_at_call 39; refine (wo_alloc hs).mono ?_; rintro r w' ⟨rfl, rfl⟩))
  replace hs : St w0 [WoB W E A R X Q 13 s8, blk g36 (c3 one).toArray 38, blk g8 (h2 (0, 1)).toArray 40, blk g10 (c3 one).toArray 38, blk g34 (c3 ⟨1, 2, 0⟩).toArray 102] w := (hs.ent (M := blk g30 (h2 (1, 1)).toArray 40 :: [WoB W E A R X Q 13 s8, blk g36 (c3 one).toArray 38, blk g8 (h2 (0, 1)).toArray 40, blk g10 (c3 one).toArray 38, blk g34 (c3 ⟨1, 2, 0⟩).toArray 102]) (by (repeat first | exact Ent.refl _ | refine Ent.step (by repeat first | exact Ent.refl _ | apply Ent.skip) ?_))).drop
  have a0 := Rd.blk (k := 0) (v := .int .i64 one.k) (by rfl) _ hs.drop
  have a1 := Rd.blk (k := 1) (v := .int .i64 one.a) (by rfl) _ hs.drop
  have a2 := Rd.blk (k := 2) (v := .int .i64 one.b) (by rfl) _ hs.drop
  have b0 := Rd.blk (k := 0) (v := .int .i64 0) (by rfl) _ hs.drop.drop
  have b1 := Rd.blk (k := 1) (v := .int .i64 1) (by rfl) _ hs.drop.drop
  have d0 := Rd.blk (k := 0) (v := .int .i64 one.k) (by rfl) _ hs.drop.drop.drop
  have d1 := Rd.blk (k := 1) (v := .int .i64 one.a) (by rfl) _ hs.drop.drop.drop
  have d2 := Rd.blk (k := 2) (v := .int .i64 one.b) (by rfl) _ hs.drop.drop.drop
  have m0 := Rd.blk (k := 0) (v := .int .i64 1) (by rfl) _ hs.drop.drop.drop.drop
  have m1 := Rd.blk (k := 1) (v := .int .i64 2) (by rfl) _ hs.drop.drop.drop.drop
  have m2 := Rd.blk (k := 2) (v := .int .i64 0) (by rfl) _ hs.drop.drop.drop.drop
  have HH8 := Lib.hid HK.out.h8
  have HST := Lib.hid HK.out.st
  have hb := build_rp2 1 2
  have he := eqR_bin 1 2 0 1 2 0
  have hv := eqV_bin one.k one.a one.b one.k one.a one.b
  simp only [beq_self_eq_true, Bool.and_self] at he hv
  refine wp_region_grow (by kernel_rfl) (by kernel_rfl) fun hne => ?_
  have f0 := fun p : GW _ => p.grew.cell a0
  have f1 := fun p : GW _ => p.grew.cell a1
  have f2 := fun p : GW _ => p.grew.cell a2
  have f3 := fun p : GW _ => p.grew.cell b0
  have f4 := fun p : GW _ => p.grew.cell b1
  have f5 := fun p : GW _ => p.grew.cell d0
  have f6 := fun p : GW _ => p.grew.cell d1
  have f7 := fun p : GW _ => p.grew.cell d2
  have f8 := fun p : GW _ => p.grew.cell m0
  have f9 := fun p : GW _ => p.grew.cell m1
  have f10 := fun p : GW _ => p.grew.cell m2
  repeat (go_big_quiet_step (first
    | (go_at_call 51; exact in_grew (woheld_v (hs.grew (GW.grew _)) HH8))
    | (go_at_call 66; exact in_gsame (wo_ents (hs.grew (GW.grew _))))
    | (go_at_call 39; exact in_gsame (wo_alloc (hs.grew (GW.grew _))))
    | (go_at_call 41; exact in_grew (wo_state (h := (0, 1)) (hs.grew (GW.grew _)) HST))
    | (go_at_call 46; exact in_grew (awake16 (hT.grew (hs.grew (GW.grew _)).below)))))
  refine wpQuiet_nil ?_
  clear hne f0 f1 f2 f3 f4 f5 f6 f7 f8 f9 f10 a0 a1 a2 b0 b1 d0 d1 d2 m0 m1 m2
  intro u hu
  replace hs := hs.grew hu
  clear hu
  go_wp2
  go_ret
  exact ⟨rfl, St.front (L := []) hs⟩
end Go.Proofs.YtiafdlofcjbllaaGreatDoor
