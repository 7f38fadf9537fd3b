/-
  WorldOne: the walk.
-/
import Derived.Test.YtiafdlofcjbllaaGreatDoorWoOnL
import Derived.Test.YtiafdlofcjbllaaGreatDoorWo13
import Derived.Test.YtiafdlofcjbllaaGreatDoorJA
set_option maxRecDepth 100000
namespace Go.Proofs.YtiafdlofcjbllaaGreatDoor
open Go Go.RowKit
theorem wo_oks3 {w0 w : World} {L : List As} {W E A R X Q n : Nat} {s : WoS} (hs : St w0 (WoB W E A R X Q n s :: L) w) {c : Nat} {x : Cmp} (hc : s.e.l[c]? = some x) : x.2.Ok := (rg_wf (wo_en hs).enopen.rot hc).ok
theorem elemHo : ElemOk Tryz.prog 36 40 2 16 := ElemOk.of Tryz.underlying36 (z := hv (0, 0)) (by kernel_rfl) rfl (by decide)
theorem eqE_o (a b c d : Int) (w : World) : (Op.equalIn 10000 121 (.agg #[.int .i64 a, .int .i64 b]) (.agg #[.int .i64 c, .int .i64 d])).run Tryz.prog w = .ok ((a == c) && (b == d)) w := by
  have u3 := Tryz.underlying3
  have a3 := Tryz.isAgg3
  have z3 := Tryz.sizeOf3
  have hS : Tryz.prog.underlying 121 = some (.struct (Tryz.prog.fieldsOf 121)) := by kernel_rfl
  have hp : Tryz.prog.stoodInHeld 121 = false := by kernel_rfl
  rw [show (10000 : Nat) = 9999 + 1 from rfl, run_equalIn_agg w 9999 121 _ _ hS hp]
  simp only [Program.fieldsOf, Tryz.underlying121]
  go_simp
  by_cases h1 : a = c <;> by_cases h2 : b = d <;> simp [h1, h2]
theorem neqE_o (a b : Int) (w : World) : (binOp .neq 121 (.agg #[.int .i64 a, .int .i64 b]) (.agg #[.int .i64 a, .int .i64 b])).run Tryz.prog w = .ok (.bool false) w := by
  rw [run_neq_struct, eqE_o]; simp
theorem eqH_o (a b c d : Int) (w : World) : (Op.equalIn 10000 40 (.agg #[.int .i64 a, .int .i64 b]) (.agg #[.int .i64 c, .int .i64 d])).run Tryz.prog w = .ok ((a == c) && (b == d)) w := by
  have u3 := Tryz.underlying3
  have a3 := Tryz.isAgg3
  have z3 := Tryz.sizeOf3
  have u4 := Tryz.underlying2
  have a4 := Tryz.isAgg2
  have z4 := Tryz.sizeOf2
  have hS : Tryz.prog.underlying 40 = some (.struct (Tryz.prog.fieldsOf 40)) := by kernel_rfl
  have hp : Tryz.prog.stoodInHeld 40 = false := by kernel_rfl
  rw [show (10000 : Nat) = 9999 + 1 from rfl, run_equalIn_agg w 9999 40 _ _ hS hp]
  simp only [Program.fieldsOf, Tryz.underlying40]
  go_simp
  by_cases h1 : a = c <;> by_cases h2 : b = d <;> simp [h1, h2]
theorem neqH_o (a b : Int) (w : World) : (binOp .neq 40 (.agg #[.int .i64 a, .int .i64 b]) (.agg #[.int .i64 a, .int .i64 b])).run Tryz.prog w = .ok (.bool false) w := by
  rw [run_neq_struct, eqH_o]; simp
theorem build_d500 (w : World) : (Instr.build 97 #[(0, .int .i64 1), (1, .int .i64 3), (2, .int .i64 500)]).run Tryz.prog w = .ok (val3 ⟨1, 3, 500⟩) w := by kernel_rfl
theorem build_oh (k : Int) (h : Hdl) (w : World) : (Instr.build 99 #[(0, .int .i64 k), (1, hv h)]).run Tryz.prog w = .ok (valW ⟨k, h, 0, V3.z⟩) w := by kernel_rfl
theorem err_500 : errDs 0 [⟨1, 3, 500⟩] = 0 := rfl
theorem land_65535o (x : Int) : bits .and .i64 x 65535 = ((x % 65536).toNat : Nat) := and_m (p := 16) (by decide)
theorem land_3o (x : Nat) : bits .and .i64 (x : Int) 3 = ((x % 4 : Nat) : Int) := by
  have := and_m (z := (x : Int)) (p := 2) (by decide)
  rw [show ((2 ^ 2 - 1 : Nat) : Int) = 3 from rfl] at this
  rw [this]
  omega
theorem c7w_h (o : OpW) : ∀ j x, (h2 o.h)[j]? = some x → (c7w o).toArray[1 + j]? = some x := fun j x hx => by
  rw [List.getElem?_toArray]
  match j, hx with
  | 0, hx => exact hx
  | 1, hx => exact hx
  | k + 2, hx => simp [h2] at hx
theorem c7w_v (o : OpW) : ∀ j x, (YtiafdlofcjbllaaGreatDoor.c3 o.v)[j]? = some x → (c7w o).toArray[4 + j]? = some x := fun j x hx => by
  rw [List.getElem?_toArray]
  match j, hx with
  | 0, hx => exact hx
  | 1, hx => exact hx
  | 2, hx => exact hx
  | k + 3, hx => simp [YtiafdlofcjbllaaGreatDoor.c3] at hx
theorem c3_cells (v : V3) : ∀ u ∈ YtiafdlofcjbllaaGreatDoor.c3 v, u.oneCell' = true := by simp [YtiafdlofcjbllaaGreatDoor.c3]; exact ⟨rfl, rfl, rfl⟩
theorem okF {v : Value} {F : Option Nat} (h : (newSl ⟨1, 3, 500⟩ v F).Ok) : F.isSome = true := h.flag
theorem WrA.opV {w0 : World} {g : Nat} {k c : Int} {d : Hdl} {u v : V3} {t : TypeId} {L : List As} : WrA w0 (YtiafdlofcjbllaaGreatDoor.blk g (c7w ⟨k, d, c, u⟩).toArray t :: L) ⟨g, 4, none⟩ (val3 v).cells.toList (YtiafdlofcjbllaaGreatDoor.blk g (c7w ⟨k, d, c, v⟩).toArray t :: L) := by
  have := WrA.blk (w0 := w0) (g := g) (o := 4) (cs := c7w ⟨k, d, c, u⟩) (t := t) (vs := YtiafdlofcjbllaaGreatDoor.c3 v) (L := L) (by simp [c7w, YtiafdlofcjbllaaGreatDoor.c3]) (c3_cells v)
  exact this
attribute [local irreducible] wpList Calls Code.wp okI okN pS tS memS getG pG insS delS getV pV tV okVal newSl SlS.put SlS.err SlS.putU SlS.putB descE SlS.take SlS.set SlS.errSet SlS.get SlS.has stV EnS.live EnS.get EnS.slot EnS.ins EnS.set EnS.rem EnS.parts EnS.del ofN strL delA newA giveV cs3 errDs descsL mkV WoS.defer WoS.maint WoS.get WoS.create WoS.reader WoS.read WoS.ins WoS.del WoS.rem es2 hsV
set_option maxHeartbeats 16000000 in
theorem woone_c {w0 : World} (hT : Tab w0) {va : Value} {za : List Int} (hva : IntArg w0 va za) :
    Calls Tryz.prog 10 #[va] w0 (LawPost w0) := by
  obtain ⟨A0, nz, cz, rfl, hna, hnc, hcm, hra, -⟩ := hva
  unfold maxLen at hcm
  have HNZ := Lib.hid hna
  have HRA := Lib.hid hra
  have hnb : nz ≤ 9223372036854775807 := by omega
  clear hna hnc hcm hra
  have hs := St.start w0
  have hm1 : Hid (([⟨1, 3, 500⟩] : List V3).length = 1) := rfl
  have hk0 : Hid (([] : List Int).length = 0) := rfl
  go_enter Tryz.func10, Tryz.ntmps10
  go_upto_region 2 with (first
    | (refine wpl_buildS build_d500 rfl ?_)
    | (refine wpl_build1 (v := val3 ⟨1, 3, 500⟩) elemDs (by decide) rfl rfl hs ?_; clear hs; intro G w1 hs; replace hs : St w0 [blk G (c3 ⟨1, 3, 500⟩).toArray 97] w1 := hs)
    | (refine wpl_buildS (build_cf 6 9 (some ⟨G, 0, none⟩) 1 1) rfl ?_)
    | (refine wpl_alloc zeroCf hs ?_; clear hs; intro g3 w hs; replace hs : St w0 (blk g3 (cfC 0 0 none 0 0 none 0 0).toArray 28 :: _) w := hs)
    | (refine wpl_store_agg (v := .agg (cfC 6 9 (some ⟨G, 0, none⟩) 1 1 none 0 0).toArray) rfl rfl (sizeCfv _ _ _ _ _ _ _ _) hs WrA.slotCf ?_; clear hs; intro w hs))
  go_upto_region 3 with (first
    | (refine wpl_load_agg (cs := cfC 6 9 (some ⟨G, 0, none⟩) 1 1 none 0 0) (b := g3) (o := 0) rfl aggCf (sizeCf _ _ _ _ _ _ _ _) hs ?hh ?_; case hh => exact fun j x hx => (Rd.blk (by simpa using hx)))
    | (go_at_call 47; refine (wo_new (n := 6) (top := 9) hs (by decide) (by decide) (by decide) (by decide) (ds := [⟨1, 3, 500⟩]) (m := 1) hm1 (by decide) (by rw [cs3_one]; exact RdS.blk.tail) err_500 (fun _ => ⟨rfl, rfl⟩) hk0 (by decide) (by decide) RdS.nil).mono ?_; clear hs; rintro r w ⟨W1, E1, A1, R1, X1, Q1, l1, HNL1, rfl, hs⟩))
  have HO1 := Lib.hid (fun c x (hx : l1[c]? = some x) => wo_oks3 hs hx)
  replace hs := hs.rot
  go_upto_region 4 with (first
    | (refine wpl_load_agg (cs := cfC 6 9 (some ⟨G, 0, none⟩) 1 1 none 0 0) (b := g3) (o := 0) rfl aggCf (sizeCf _ _ _ _ _ _ _ _) hs ?hh ?_; case hh => exact fun j x hx => (Rd.blk (by simpa using hx)))
    | (go_at_call 47; refine (wo_new (n := 6) (top := 9) hs (by decide) (by decide) (by decide) (by decide) (ds := [⟨1, 3, 500⟩]) (m := 1) hm1 (by decide) (by rw [cs3_one]; exact RdS.blk.tail.tail) err_500 (fun _ => ⟨rfl, rfl⟩) hk0 (by decide) (by decide) RdS.nil).mono ?_; clear hs; rintro r w ⟨W2, E2, A2, R2, X2, Q2, l2, HNL2, rfl, hs⟩))
  have HO2 := Lib.hid (fun c x (hx : l2[c]? = some x) => wo_oks3 hs hx)
  obtain ⟨Y1, v1, F1, rfl⟩ := newL_one HNL1.out
  obtain ⟨Y2, v2, F2, rfl⟩ := newL_one HNL2.out
  have f1 : F1.isSome = true := okF (HO1.out 0 _ rfl)
  have f2 : F2.isSome = true := okF (HO2.out 0 _ rfl)
  obtain ⟨s1, t1, hr1, hr2, hn0⟩ := onStart (X := Y1) (Y := Y2) (v := v1) (v' := v2) f1 f2
  have HR1 := Lib.hid hr1
  have HR2 := Lib.hid hr2
  have HN0 := Lib.hid hn0
  obtain ⟨s0, HS0⟩ : ∃ z, Hid ((⟨⟨9, newA 6, [(Y1, newSl ⟨1, 3, 500⟩ v1 F1)]⟩, [], [], false⟩ : WoS) = z) := ⟨_, rfl⟩
  obtain ⟨t0, HT0⟩ : ∃ z, Hid ((⟨⟨9, newA 6, [(Y2, newSl ⟨1, 3, 500⟩ v2 F2)]⟩, [], [], false⟩ : WoS) = z) := ⟨_, rfl⟩
  rw [HS0.out] at HR1 hs
  rw [HT0.out] at HR2 hs
  clear HNL1 HNL2 HO1 HO2 f1 f2 hr1 hr2 hn0 HS0 HT0 hm1 hk0
  replace hs : St w0 [WoB W1 E1 A1 R1 X1 Q1 6 s0, WoB W2 E2 A2 R2 X2 Q2 6 t0] w := (hs.ent (M := blk g3 (cfC 6 9 (some ⟨G, 0, none⟩) 1 1 none 0 0).toArray 28 :: blk G (c3 ⟨1, 3, 500⟩).toArray 97 :: [WoB W1 E1 A1 R1 X1 Q1 6 s0, WoB W2 E2 A2 R2 X2 Q2 6 t0]) (by (repeat first | exact Ent.refl _ | refine Ent.step (by repeat first | exact Ent.refl _ | apply Ent.skip) ?_))).drop.drop
  go_upto_region 10 with (first
    | (go_at_call 59; refine (wo_reader hs HR1).mono ?_; clear hs; rintro r w ⟨rfl, hs⟩)
    | (go_at_call 59; refine (wo_reader hs.rot HR2).mono ?_; clear hs; rintro r w ⟨rfl, hs⟩))
  replace hs : St w0 [WoB W1 E1 A1 R1 X1 Q1 6 s1, WoB W2 E2 A2 R2 X2 Q2 6 t1, own none 0 0 40 2 (hsV [])] w := by
    have h1 := St.own_nil hs 40 2
    rw [show ([] : List Value) = hsV [] by unfold hsV; rfl] at h1
    exact h1.ent (by (repeat first | exact Ent.refl _ | refine Ent.step (by repeat first | exact Ent.refl _ | apply Ent.skip) ?_))
  clear HR1 HR2
  go_loopw [8, 9] (fun av iv wr => ∃ (i na ca : Nat) (Ba : Option Addr) (all : List Hdl) (s t : WoS), i ≤ nz ∧ i ≤ 60 ∧ na ≤ i ∧ av = .slice Ba na ca ∧ iv = .int .i64 (i : Nat) ∧ Hid (all.length = na) ∧ Hid (OnI s t i) ∧ St w0 [WoB W1 E1 A1 R1 X1 Q1 6 s, WoB W2 E2 A2 R2 X2 Q2 6 t, own Ba na ca 40 2 (hsV all)] wr) (fun _ iv _ => nz - (intOf iv).toNat)
  case atStart => exact ⟨0, 0, 0, none, [], s1, t1, Nat.zero_le _, by decide, Nat.le_refl _, rfl, rfl, rfl, HN0, hs⟩
  case round =>
    clear hs HN0
    obtain ⟨i, na, ca, Ba, all, s, t, hi, hi60, hna, rfl, rfl, HNA, HI, hs⟩ := hrel
    by_cases hlt : i < nz
    · by_cases hlt6 : i < 60
      · obtain ⟨x, hx⟩ : ∃ x, Hid (za[i]? = some x) := ⟨za[i]'(by rw [HNZ.out]; exact hlt), List.getElem?_eq_getElem _⟩
        obtain ⟨ad, rfl, hsp, hrd⟩ := HRA.out i (.int .i64 x) (by rw [List.getElem?_map, hx.out]; rfl)
        obtain ⟨gb, off, sp⟩ := ad
        obtain rfl : sp = none := hsp
        have c9 := hrd _ (St.front (L := []) hs)
        clear hrd
        obtain ⟨xN, hxN⟩ : ∃ xN : Nat, (x % 65536).toNat = xN := ⟨_, rfl⟩
        have h16 : bits .and .i64 x 65535 = (xN : Int) := by rw [land_65535o, hxN]
        have hxb : xN < 65536 := by omega
        obtain ⟨kd, hkd⟩ : ∃ kd : Nat, xN % 4 = kd := ⟨_, rfl⟩
        have h3 : bits .and .i64 (xN : Int) 3 = (kd : Int) := by rw [land_3o, hkd]
        have hkb : kd < 4 := by omega
        clear hxN hkd
        by_cases k0 : kd = 0
        · subst k0
          clear hkb
          obtain ⟨nh, e, s', t', hc1, hc2, hn⟩ := HI.out.create
          have HC1 := Lib.hid hc1
          have HC2 := Lib.hid hc2
          have HN' := Lib.hid hn
          clear hc1 hc2 hn HI
          go_upto_region 15 with (first
            | (go_at_call 52; refine (wo_create hT hs HC1).mono ?_; clear hs c9; rintro r w ⟨rfl, hs⟩)
            | (refine wpl_alloc zeroH hs ?_; clear hs; intro g11 w hs)
            | (refine wpl_store_agg (v := hv nh) rfl rfl (sizeHd _) hs WrA.slotH ?_; clear hs; intro w hs))
          go_upto_region 16 with (first
            | (go_at_call 52; refine (wo_create hT hs.up2 HC2).mono ?_; clear hs; rintro r w ⟨rfl, hs⟩)
            | (refine wpl_alloc zeroH hs ?_; clear hs; intro g13 w hs)
            | (refine wpl_store_agg (v := hv nh) rfl rfl (sizeHd _) hs WrA.slotH ?_; clear hs; intro w hs))
          replace hs : St w0 [blk g11 (h2 nh).toArray 40, blk g13 (h2 nh).toArray 40, WoB W1 E1 A1 R1 X1 Q1 6 s', WoB W2 E2 A2 R2 X2 Q2 6 t', own Ba na ca 40 2 (hsV all)] w := hs.ent (by (repeat first | exact Ent.refl _ | refine Ent.step (by repeat first | exact Ent.refl _ | apply Ent.skip) ?_))
          have p0 : World.cell? _ ⟨g11, 0, none⟩ = some (.int .i64 nh.1) := Rd.blk (by rfl) _ hs
          have p1 : World.cell? _ ⟨g11, 1, none⟩ = some (.int .i64 nh.2) := Rd.blk (by rfl) _ hs
          have q0 : World.cell? _ ⟨g13, 0, none⟩ = some (.int .i64 nh.1) := Rd.blk (by rfl) _ hs.drop
          have q1 : World.cell? _ ⟨g13, 1, none⟩ = some (.int .i64 nh.2) := Rd.blk (by rfl) _ hs.drop
          have hne := neqH_o nh.1 nh.2
          by_cases he0 : e = 0
          · subst he0
            have HHV : Hid (hsV all ++ h2 nh = hsV (all ++ [nh])) := by rw [Hid]; unfold hsV; simp
            have HNA' : Hid ((all ++ [nh]).length = na + 1) := by rw [Hid, List.length_append, HNA.out]; rfl
            go_upto_region 19 with (fail)
            clear p0 p1 q0 q1 hne
            go_wp2_with (first
              | (refine wpl_load_agg (cs := h2 nh) (b := g11) (o := 0) rfl aggH (sizeHd _) hs ?hh ?_; case hh => exact fun j x hx => (Rd.blk (by simpa using hx)))
              | (refine wpl_build1 (v := hv nh) elemHo (by decide) rfl rfl hs ?_; clear hs; intro G7 w hs; replace hs : St w0 (blk G7 (h2 nh).toArray 40 :: _) w := hs)
              | (refine wpl_append (A := Ba) (n := na) (cap := ca) (xs := hsV all) (m := 1) (news := h2 nh) elemHo rfl rfl hs (L' := [blk G7 (h2 nh).toArray 40, blk g11 (h2 nh).toArray 40, blk g13 (h2 nh).toArray 40, WoB W1 E1 A1 R1 X1 Q1 6 s', WoB W2 E2 A2 R2 X2 Q2 6 t']) (by (repeat first | exact Ent.refl _ | refine Ent.step (by repeat first | exact Ent.refl _ | apply Ent.skip) ?_)) RdS.blk rfl (h2_one nh) (by unfold maxLen; omega) (by omega) ?_; clear hs; intro B8 c8 w hs; rw [HHV.out] at hs))
            replace hs : St w0 [WoB W1 E1 A1 R1 X1 Q1 6 s', WoB W2 E2 A2 R2 X2 Q2 6 t', own B8 (na + 1) c8 40 2 (hsV (all ++ [nh]))] w := (hs.ent (M := blk G7 (h2 nh).toArray 40 :: blk g11 (h2 nh).toArray 40 :: blk g13 (h2 nh).toArray 40 :: [WoB W1 E1 A1 R1 X1 Q1 6 s', WoB W2 E2 A2 R2 X2 Q2 6 t', own B8 (na + 1) c8 40 2 (hsV (all ++ [nh]))]) (by (repeat first | exact Ent.refl _ | refine Ent.step (by repeat first | exact Ent.refl _ | apply Ent.skip) ?_))).drop.drop.drop
            go_roundw
            case rel => exact ⟨i + 1, na + 1, c8, B8, all ++ [nh], s', t', by omega, by omega, by omega, rfl, by first | rfl | go_num, HNA', HN', hs⟩
            case measure => simp [intOf]; omega
          · have e1 : (e == 0) = false := by simpa using he0
            clear he0
            go_wp2
            clear p0 p1 q0 q1 hne
            replace hs := hs.drop.drop
            go_roundw
            case rel => exact ⟨i + 1, na, ca, Ba, all, s', t', by omega, by omega, by omega, rfl, by first | rfl | go_num, HNA, HN', hs⟩
            case measure => simp [intOf]; omega
        · have d0 : (((kd : Nat) : Int) == 0) = false := by simp; omega
          by_cases n0 : na = 0
          · have dn : (((na : Nat) : Int) == 0) = true := by simp [n0]
            clear k0 hkb n0
            obtain ⟨nh, e, s', t', hc1, hc2, hn⟩ := HI.out.create
            have HC1 := Lib.hid hc1
            have HC2 := Lib.hid hc2
            have HN' := Lib.hid hn
            clear hc1 hc2 hn HI
            go_upto_region 15 with (first
              | (go_at_call 52; refine (wo_create hT hs HC1).mono ?_; clear hs c9; rintro r w ⟨rfl, hs⟩)
              | (refine wpl_alloc zeroH hs ?_; clear hs; intro g11 w hs)
              | (refine wpl_store_agg (v := hv nh) rfl rfl (sizeHd _) hs WrA.slotH ?_; clear hs; intro w hs))
            go_upto_region 16 with (first
              | (go_at_call 52; refine (wo_create hT hs.up2 HC2).mono ?_; clear hs; rintro r w ⟨rfl, hs⟩)
              | (refine wpl_alloc zeroH hs ?_; clear hs; intro g13 w hs)
              | (refine wpl_store_agg (v := hv nh) rfl rfl (sizeHd _) hs WrA.slotH ?_; clear hs; intro w hs))
            replace hs : St w0 [blk g11 (h2 nh).toArray 40, blk g13 (h2 nh).toArray 40, WoB W1 E1 A1 R1 X1 Q1 6 s', WoB W2 E2 A2 R2 X2 Q2 6 t', own Ba na ca 40 2 (hsV all)] w := hs.ent (by (repeat first | exact Ent.refl _ | refine Ent.step (by repeat first | exact Ent.refl _ | apply Ent.skip) ?_))
            have p0 : World.cell? _ ⟨g11, 0, none⟩ = some (.int .i64 nh.1) := Rd.blk (by rfl) _ hs
            have p1 : World.cell? _ ⟨g11, 1, none⟩ = some (.int .i64 nh.2) := Rd.blk (by rfl) _ hs
            have q0 : World.cell? _ ⟨g13, 0, none⟩ = some (.int .i64 nh.1) := Rd.blk (by rfl) _ hs.drop
            have q1 : World.cell? _ ⟨g13, 1, none⟩ = some (.int .i64 nh.2) := Rd.blk (by rfl) _ hs.drop
            have hne := neqH_o nh.1 nh.2
            by_cases he0 : e = 0
            · subst he0
              have HHV : Hid (hsV all ++ h2 nh = hsV (all ++ [nh])) := by rw [Hid]; unfold hsV; simp
              have HNA' : Hid ((all ++ [nh]).length = na + 1) := by rw [Hid, List.length_append, HNA.out]; rfl
              go_upto_region 19 with (fail)
              clear p0 p1 q0 q1 hne
              go_wp2_with (first
                | (refine wpl_load_agg (cs := h2 nh) (b := g11) (o := 0) rfl aggH (sizeHd _) hs ?hh ?_; case hh => exact fun j x hx => (Rd.blk (by simpa using hx)))
                | (refine wpl_build1 (v := hv nh) elemHo (by decide) rfl rfl hs ?_; clear hs; intro G7 w hs; replace hs : St w0 (blk G7 (h2 nh).toArray 40 :: _) w := hs)
                | (refine wpl_append (A := Ba) (n := na) (cap := ca) (xs := hsV all) (m := 1) (news := h2 nh) elemHo rfl rfl hs (L' := [blk G7 (h2 nh).toArray 40, blk g11 (h2 nh).toArray 40, blk g13 (h2 nh).toArray 40, WoB W1 E1 A1 R1 X1 Q1 6 s', WoB W2 E2 A2 R2 X2 Q2 6 t']) (by (repeat first | exact Ent.refl _ | refine Ent.step (by repeat first | exact Ent.refl _ | apply Ent.skip) ?_)) RdS.blk rfl (h2_one nh) (by unfold maxLen; omega) (by omega) ?_; clear hs; intro B8 c8 w hs; rw [HHV.out] at hs))
              replace hs : St w0 [WoB W1 E1 A1 R1 X1 Q1 6 s', WoB W2 E2 A2 R2 X2 Q2 6 t', own B8 (na + 1) c8 40 2 (hsV (all ++ [nh]))] w := (hs.ent (M := blk G7 (h2 nh).toArray 40 :: blk g11 (h2 nh).toArray 40 :: blk g13 (h2 nh).toArray 40 :: [WoB W1 E1 A1 R1 X1 Q1 6 s', WoB W2 E2 A2 R2 X2 Q2 6 t', own B8 (na + 1) c8 40 2 (hsV (all ++ [nh]))]) (by (repeat first | exact Ent.refl _ | refine Ent.step (by repeat first | exact Ent.refl _ | apply Ent.skip) ?_))).drop.drop.drop
              go_roundw
              case rel => exact ⟨i + 1, na + 1, c8, B8, all ++ [nh], s', t', by omega, by omega, by omega, rfl, by first | rfl | go_num, HNA', HN', hs⟩
              case measure => simp [intOf]; omega
            · have e1 : (e == 0) = false := by simpa using he0
              clear he0
              go_wp2
              clear p0 p1 q0 q1 hne
              replace hs := hs.drop.drop
              go_roundw
              case rel => exact ⟨i + 1, na, ca, Ba, all, s', t', by omega, by omega, by omega, rfl, by first | rfl | go_num, HNA, HN', hs⟩
              case measure => simp [intOf]; omega
          · have dn : (((na : Nat) : Int) == 0) = false := by simp; omega
            have hpos : 0 < (na : Int) := by omega
            have hnz : ¬ (na : Int) = 0 := by omega
            obtain ⟨q, hq⟩ : ∃ q : Nat, ((xN : Nat) : Int) / 4 % (na : Int) = (q : Int) := ⟨xN / 4 % na, by rw [Int.natCast_emod, Int.natCast_ediv]; rfl⟩
            have hqn : q < na := by have := Int.emod_lt_of_pos (((xN : Nat) : Int) / 4) hpos; omega
            obtain ⟨hd, hq2⟩ : ∃ hd, Hid (all[q]? = some hd) := ⟨all[q]'(by rw [HNA.out]; exact hqn), List.getElem?_eq_getElem _⟩
            obtain ⟨gB, rfl⟩ := hs.up2.own_at (by omega)
            have HES := Lib.hid (HI.out.ev.lt (by omega))
            have k123 : kd = 1 ∨ kd = 2 ∨ kd = 3 := by omega
            clear k0 hkb n0
            rcases k123 with rfl | rfl | rfl
            · obtain ⟨nn, g, s', hop, hor⟩ := HI.out.del hd
              have HOP := Lib.hid hop
              clear hop
              obtain ⟨kk, t1, u, t', hdf, hmt, hq1, hev1, hn, hrel2⟩ := hor
              have HDF := Lib.hid hdf
              have HMT := Lib.hid hmt
              have HQ1 := Lib.hid hq1
              have HEV1 := Lib.hid hev1
              have HN' := Lib.hid hn
              have HQT : Hid (t.q.length ≤ 10000) := by rw [Hid, HI.out.qt]; exact Nat.zero_le _
              have HKB : Hid (i ≤ 1000000000) := by rw [Hid]; omega
              clear hdf hmt hq1 hev1 hn
              go_upto_region 22 with (first
                | (refine wpl_load_agg (cs := h2 hd) (b := gB) (o := q * 2) rfl aggH (sizeHd _) hs ?hh ?_; case hh => exact fun j x hx => (Rd.own (hsV_get hq2.out j x hx)).tail.tail)
                | (refine wpl_buildS (build_oh 1 hd) rfl ?_)
                | (refine wpl_alloc zeroWo hs ?_; clear hs c9; intro g15 w hs)
                | (refine wpl_store_agg (v := valW ⟨1, hd, 0, V3.z⟩) rfl rfl (sizeWv _) hs WrA.slotW ?_; clear hs; intro w hs))
              have k0 : World.cell? _ ⟨g15, 0, none⟩ = some (.int .i64 1) := Rd.blk (by rfl) _ hs
              go_upto_region 29 with (first
                | (refine wpl_load_agg (cs := h2 hd) (b := g15) (o := 1) rfl aggH (sizeHd _) hs ?hh ?_; case hh => exact fun j x hx => Rd.blk (c7w_h ⟨1, hd, 0, V3.z⟩ j x hx))
                | (go_at_call 61; refine (wo_del hs.rot HES.out HOP).mono ?_; clear hs k0; rintro r w ⟨rfl, hs⟩; replace hs := hs.rot))
              go_upto_region 30 with (first
                | (refine wpl_load_agg (cs := c7w ⟨1, hd, 0, V3.z⟩) (b := g15) (o := 0) rfl aggW (sizeW _) hs (opW_rd _) ?_)
                | (refine wpl_build1 (v := valW ⟨1, hd, 0, V3.z⟩) elemW (by decide) rfl rfl hs ?_; clear hs; intro G2 w hs; replace hs : St w0 [WoB W2 E2 A2 R2 X2 Q2 6 t, blk G2 (c7w ⟨1, hd, 0, V3.z⟩).toArray 99, blk g15 (c7w ⟨1, hd, 0, V3.z⟩).toArray 99, WoB W1 E1 A1 R1 X1 Q1 6 s', own (some ⟨gB, 0, none⟩) na ca 40 2 (hsV all)] w := hs.ent (by (repeat first | exact Ent.refl _ | refine Ent.step (by repeat first | exact Ent.refl _ | apply Ent.skip) ?_)))
                | (go_at_call 53; refine (wo_defer (l := [⟨1, hd, 0, V3.z⟩]) HQT.out (show 1 ≤ 1000000 by decide) hs (by rw [c7_single]; exact RdS.blk) HDF).mono ?_; clear hs; rintro r w ⟨rfl, hs⟩))
              replace hs : St w0 [WoB W2 E2 A2 R2 X2 Q2 6 t1, WoB W1 E1 A1 R1 X1 Q1 6 s', own (some ⟨gB, 0, none⟩) na ca 40 2 (hsV all)] _ := hs.rot.drop.rot.drop
              go_upto_region 31 with (first
                | (go_at_call 54; refine (wo_maint hT hs HEV1.out HKB.out HQ1.out HMT).mono ?_; clear hs; rintro r w ⟨rfl, hs⟩)
                | (refine wpl_alloc zeroRp hs ?_; clear hs; intro g18 w hs; replace hs : St w0 (blk g18 (c3 V3.z).toArray 102 :: _) w := hs)
                | (refine wpl_store_agg (v := val3 u) rfl rfl (sizeRp _) hs WrA.slot3 ?_; clear hs; intro w hs))
              have m1 : World.cell? _ ⟨g18, 1, none⟩ = some (.int .i64 u.a) := Rd.blk (by rfl) _ hs
              replace hs : St w0 [WoB W1 E1 A1 R1 X1 Q1 6 s', WoB W2 E2 A2 R2 X2 Q2 6 t', own (some ⟨gB, 0, none⟩) na ca 40 2 (hsV all)] w := hs.drop.rot
              rcases hrel2 with ⟨rfl, rfl⟩ | ⟨g4, rfl, ⟨rfl, hu⟩ | ⟨g0, hu⟩⟩
              · go_wp2
                clear m1
                go_roundw
                case rel => exact ⟨i + 1, na, ca, some ⟨gB, 0, none⟩, all, s', t', by omega, by omega, by omega, rfl, by first | rfl | go_num, HNA, HN', hs⟩
                case measure => simp [intOf]; omega
              · rw [hu] at m1
                clear g4 hu
                go_wp2
                clear m1
                go_roundw
                case rel => exact ⟨i + 1, na, ca, some ⟨gB, 0, none⟩, all, s', t', by omega, by omega, by omega, rfl, by first | rfl | go_num, HNA, HN', hs⟩
                case measure => simp [intOf]; omega
              · rw [hu] at m1
                have y4 : (g == 4) = false := by simpa using g4
                have y0 : (g == 0) = false := by simpa using g0
                clear g4 g0 hu
                go_wp2
                clear m1
                go_roundw
                case rel => exact ⟨i + 1, na, ca, some ⟨gB, 0, none⟩, all, s', t', by omega, by omega, by omega, rfl, by first | rfl | go_num, HNA, HN', hs⟩
                case measure => simp [intOf]; omega
            · obtain ⟨vv, HMK⟩ : ∃ z, Hid (mkV 1 (xN : Int) 0 = z) := ⟨_, rfl⟩
              have hvk : vv.k = 1 := by rw [← HMK.out]; unfold mkV; rfl
              have hvo : okVal vv = true := by rw [← HMK.out]; exact mkV_ok (by decide) _ _
              obtain ⟨uu, bb, g, s', hop, hor⟩ := HI.out.ins hd hvo hvk
              have HOP := Lib.hid hop
              clear hop hvk hvo
              obtain ⟨kk, t1, u, t', hdf, hmt, hq1, hev1, hn, hrel2⟩ := hor
              have HDF := Lib.hid hdf
              have HMT := Lib.hid hmt
              have HQ1 := Lib.hid hq1
              have HEV1 := Lib.hid hev1
              have HN' := Lib.hid hn
              have HQT : Hid (t.q.length ≤ 10000) := by rw [Hid, HI.out.qt]; exact Nat.zero_le _
              have HKB : Hid (i ≤ 1000000000) := by rw [Hid]; omega
              clear hdf hmt hq1 hev1 hn
              go_upto_region 22 with (first
                | (refine wpl_load_agg (cs := h2 hd) (b := gB) (o := q * 2) rfl aggH (sizeHd _) hs ?hh ?_; case hh => exact fun j x hx => (Rd.own (hsV_get hq2.out j x hx)).tail.tail)
                | (refine wpl_buildS (build_oh 2 hd) rfl ?_)
                | (refine wpl_alloc zeroWo hs ?_; clear hs c9; intro g15 w hs)
                | (refine wpl_store_agg (v := valW ⟨2, hd, 0, V3.z⟩) rfl rfl (sizeWv _) hs WrA.slotW ?_; clear hs; intro w hs))
              have k0 : World.cell? _ ⟨g15, 0, none⟩ = some (.int .i64 2) := Rd.blk (by rfl) _ hs
              go_upto_region 29 with (first
                | (go_at_call 67; refine (lvalue_c 1 (xN : Int) 0 HMK).mono ?_; clear k0; rintro r w' ⟨rfl, hg⟩; replace hs := hs.grew hg; clear hg)
                | (refine wpl_store_agg (v := val3 vv) rfl rfl (size3 _) hs WrA.opV ?_; clear hs; intro w hs)
                | (refine wpl_load_agg (cs := h2 hd) (b := g15) (o := 1) rfl aggH (sizeHd _) hs ?hh ?_; case hh => exact fun j x hx => Rd.blk (c7w_h ⟨2, hd, 0, vv⟩ j x hx))
                | (refine wpl_load_agg (cs := c3 vv) (b := g15) (o := 4) rfl agg3 size3n hs ?hv ?_; case hv => exact fun j x hx => Rd.blk (c7w_v ⟨2, hd, 0, vv⟩ j x hx))
                | (go_at_call 63; refine (wo_ins hs.rot HES.out HOP).mono ?_; clear hs; rintro r w ⟨rfl, hs⟩; replace hs := hs.rot))
              go_upto_region 30 with (first
                | (refine wpl_load_agg (cs := c7w ⟨2, hd, 0, vv⟩) (b := g15) (o := 0) rfl aggW (sizeW _) hs (opW_rd _) ?_)
                | (refine wpl_build1 (v := valW ⟨2, hd, 0, vv⟩) elemW (by decide) rfl rfl hs ?_; clear hs; intro G2 w hs; replace hs : St w0 [WoB W2 E2 A2 R2 X2 Q2 6 t, blk G2 (c7w ⟨2, hd, 0, vv⟩).toArray 99, blk g15 (c7w ⟨2, hd, 0, vv⟩).toArray 99, WoB W1 E1 A1 R1 X1 Q1 6 s', own (some ⟨gB, 0, none⟩) na ca 40 2 (hsV all)] w := hs.ent (by (repeat first | exact Ent.refl _ | refine Ent.step (by repeat first | exact Ent.refl _ | apply Ent.skip) ?_)))
                | (go_at_call 53; refine (wo_defer (l := [⟨2, hd, 0, vv⟩]) HQT.out (show 1 ≤ 1000000 by decide) hs (by rw [c7_single]; exact RdS.blk) HDF).mono ?_; clear hs; rintro r w ⟨rfl, hs⟩))
              replace hs : St w0 [WoB W2 E2 A2 R2 X2 Q2 6 t1, WoB W1 E1 A1 R1 X1 Q1 6 s', own (some ⟨gB, 0, none⟩) na ca 40 2 (hsV all)] _ := hs.rot.drop.rot.drop
              go_upto_region 31 with (first
                | (go_at_call 54; refine (wo_maint hT hs HEV1.out HKB.out HQ1.out HMT).mono ?_; clear hs; rintro r w ⟨rfl, hs⟩)
                | (refine wpl_alloc zeroRp hs ?_; clear hs; intro g18 w hs; replace hs : St w0 (blk g18 (c3 V3.z).toArray 102 :: _) w := hs)
                | (refine wpl_store_agg (v := val3 u) rfl rfl (sizeRp _) hs WrA.slot3 ?_; clear hs; intro w hs))
              have m1 : World.cell? _ ⟨g18, 1, none⟩ = some (.int .i64 u.a) := Rd.blk (by rfl) _ hs
              replace hs : St w0 [WoB W1 E1 A1 R1 X1 Q1 6 s', WoB W2 E2 A2 R2 X2 Q2 6 t', own (some ⟨gB, 0, none⟩) na ca 40 2 (hsV all)] w := hs.drop.rot
              rcases hrel2 with ⟨rfl, rfl⟩ | ⟨g4, rfl, ⟨rfl, hu⟩ | ⟨g0, hu⟩⟩
              · go_wp2
                clear m1
                go_roundw
                case rel => exact ⟨i + 1, na, ca, some ⟨gB, 0, none⟩, all, s', t', by omega, by omega, by omega, rfl, by first | rfl | go_num, HNA, HN', hs⟩
                case measure => simp [intOf]; omega
              · rw [hu] at m1
                clear g4 hu
                go_wp2
                clear m1
                go_roundw
                case rel => exact ⟨i + 1, na, ca, some ⟨gB, 0, none⟩, all, s', t', by omega, by omega, by omega, rfl, by first | rfl | go_num, HNA, HN', hs⟩
                case measure => simp [intOf]; omega
              · rw [hu] at m1
                have y4 : (g == 4) = false := by simpa using g4
                have y0 : (g == 0) = false := by simpa using g0
                clear g4 g0 hu
                go_wp2
                clear m1
                go_roundw
                case rel => exact ⟨i + 1, na, ca, some ⟨gB, 0, none⟩, all, s', t', by omega, by omega, by omega, rfl, by first | rfl | go_num, HNA, HN', hs⟩
                case measure => simp [intOf]; omega
            · obtain ⟨uu, g, s', hop, hor⟩ := HI.out.rem hd
              have HOP := Lib.hid hop
              clear hop
              obtain ⟨kk, t1, u, t', hdf, hmt, hq1, hev1, hn, hrel2⟩ := hor
              have HDF := Lib.hid hdf
              have HMT := Lib.hid hmt
              have HQ1 := Lib.hid hq1
              have HEV1 := Lib.hid hev1
              have HN' := Lib.hid hn
              have HQT : Hid (t.q.length ≤ 10000) := by rw [Hid, HI.out.qt]; exact Nat.zero_le _
              have HKB : Hid (i ≤ 1000000000) := by rw [Hid]; omega
              clear hdf hmt hq1 hev1 hn
              go_upto_region 22 with (first
                | (refine wpl_load_agg (cs := h2 hd) (b := gB) (o := q * 2) rfl aggH (sizeHd _) hs ?hh ?_; case hh => exact fun j x hx => (Rd.own (hsV_get hq2.out j x hx)).tail.tail)
                | (refine wpl_buildS (build_oh 3 hd) rfl ?_)
                | (refine wpl_alloc zeroWo hs ?_; clear hs c9; intro g15 w hs)
                | (refine wpl_store_agg (v := valW ⟨3, hd, 0, V3.z⟩) rfl rfl (sizeWv _) hs WrA.slotW ?_; clear hs; intro w hs))
              have k0 : World.cell? _ ⟨g15, 0, none⟩ = some (.int .i64 3) := Rd.blk (by rfl) _ hs
              go_upto_region 29 with (first
                | (refine wpl_load_agg (cs := h2 hd) (b := g15) (o := 1) rfl aggH (sizeHd _) hs ?hh ?_; case hh => exact fun j x hx => Rd.blk (c7w_h ⟨3, hd, 0, V3.z⟩ j x hx))
                | (go_at_call 64; refine (wo_rem hs.rot HES.out HOP).mono ?_; clear hs k0; rintro r w ⟨rfl, hs⟩; replace hs := hs.rot))
              go_upto_region 30 with (first
                | (refine wpl_load_agg (cs := c7w ⟨3, hd, 0, V3.z⟩) (b := g15) (o := 0) rfl aggW (sizeW _) hs (opW_rd _) ?_)
                | (refine wpl_build1 (v := valW ⟨3, hd, 0, V3.z⟩) elemW (by decide) rfl rfl hs ?_; clear hs; intro G2 w hs; replace hs : St w0 [WoB W2 E2 A2 R2 X2 Q2 6 t, blk G2 (c7w ⟨3, hd, 0, V3.z⟩).toArray 99, blk g15 (c7w ⟨3, hd, 0, V3.z⟩).toArray 99, WoB W1 E1 A1 R1 X1 Q1 6 s', own (some ⟨gB, 0, none⟩) na ca 40 2 (hsV all)] w := hs.ent (by (repeat first | exact Ent.refl _ | refine Ent.step (by repeat first | exact Ent.refl _ | apply Ent.skip) ?_)))
                | (go_at_call 53; refine (wo_defer (l := [⟨3, hd, 0, V3.z⟩]) HQT.out (show 1 ≤ 1000000 by decide) hs (by rw [c7_single]; exact RdS.blk) HDF).mono ?_; clear hs; rintro r w ⟨rfl, hs⟩))
              replace hs : St w0 [WoB W2 E2 A2 R2 X2 Q2 6 t1, WoB W1 E1 A1 R1 X1 Q1 6 s', own (some ⟨gB, 0, none⟩) na ca 40 2 (hsV all)] _ := hs.rot.drop.rot.drop
              go_upto_region 31 with (first
                | (go_at_call 54; refine (wo_maint hT hs HEV1.out HKB.out HQ1.out HMT).mono ?_; clear hs; rintro r w ⟨rfl, hs⟩)
                | (refine wpl_alloc zeroRp hs ?_; clear hs; intro g18 w hs; replace hs : St w0 (blk g18 (c3 V3.z).toArray 102 :: _) w := hs)
                | (refine wpl_store_agg (v := val3 u) rfl rfl (sizeRp _) hs WrA.slot3 ?_; clear hs; intro w hs))
              have m1 : World.cell? _ ⟨g18, 1, none⟩ = some (.int .i64 u.a) := Rd.blk (by rfl) _ hs
              replace hs : St w0 [WoB W1 E1 A1 R1 X1 Q1 6 s', WoB W2 E2 A2 R2 X2 Q2 6 t', own (some ⟨gB, 0, none⟩) na ca 40 2 (hsV all)] w := hs.drop.rot
              rcases hrel2 with ⟨rfl, rfl⟩ | ⟨g4, rfl, ⟨rfl, hu⟩ | ⟨g0, hu⟩⟩
              · go_wp2
                clear m1
                go_roundw
                case rel => exact ⟨i + 1, na, ca, some ⟨gB, 0, none⟩, all, s', t', by omega, by omega, by omega, rfl, by first | rfl | go_num, HNA, HN', hs⟩
                case measure => simp [intOf]; omega
              · rw [hu] at m1
                clear g4 hu
                go_wp2
                clear m1
                go_roundw
                case rel => exact ⟨i + 1, na, ca, some ⟨gB, 0, none⟩, all, s', t', by omega, by omega, by omega, rfl, by first | rfl | go_num, HNA, HN', hs⟩
                case measure => simp [intOf]; omega
              · rw [hu] at m1
                have y4 : (g == 4) = false := by simpa using g4
                have y0 : (g == 0) = false := by simpa using g0
                clear g4 g0 hu
                go_wp2
                clear m1
                go_roundw
                case rel => exact ⟨i + 1, na, ca, some ⟨gB, 0, none⟩, all, s', t', by omega, by omega, by omega, rfl, by first | rfl | go_num, HNA, HN', hs⟩
                case measure => simp [intOf]; omega
      · have d6 : decide (((i : Nat) : Int) < 60) = false := decide_eq_false (by omega)
        obtain ⟨ev, s', t', hr1, hr2, hle⟩ := HI.out.reads hi60
        have HR1 := Lib.hid hr1
        have HR2 := Lib.hid hr2
        have HE1 := Lib.hid (HI.out.ev.lt (by omega))
        have HE2 := Lib.hid (HI.out.evt.lt (by omega))
        clear hr1 hr2 HI
        go_upto_region 35 with (first
          | (go_at_call 60; refine (wo_read hs HE1.out HR1).mono ?_; clear hs; rintro r w ⟨D1, me1, ce1, hme1, rfl, hs⟩)
          | (go_at_call 60; refine (wo_read hs.up2 HE2.out HR2).mono ?_; clear hs; rintro r w ⟨D2, me2, ce2, hme2, rfl, hs⟩))
        obtain rfl : me2 = me1 := hme2.out.symm.trans hme1.out
        have hm60 : me2 ≤ 60 := by rw [← hme1.out]; exact hle
        clear hle
        replace hs : St w0 [own D1 me2 ce1 121 2 (es2 ev), own D2 me2 ce2 121 2 (es2 ev)] w := St.front (L := [_, _]) (hs.ent (M := own D1 me2 ce1 121 2 (es2 ev) :: own D2 me2 ce2 121 2 (es2 ev) :: WoB W1 E1 A1 R1 X1 Q1 6 s' :: WoB W2 E2 A2 R2 X2 Q2 6 t' :: [own Ba na ca 40 2 (hsV all)]) (by (repeat first | exact Ent.refl _ | refine Ent.step (by repeat first | exact Ent.refl _ | apply Ent.skip) ?_)))
        go_upto_region 38 with (fail)
        go_loopw [26] (fun iv wr => ∃ j : Nat, j ≤ me2 ∧ iv = .int .i64 (j : Nat) ∧ St w0 [own D1 me2 ce1 121 2 (es2 ev), own D2 me2 ce2 121 2 (es2 ev)] wr) (fun iv _ => me2 - (intOf iv).toNat)
        case atStart => exact ⟨0, Nat.zero_le _, rfl, hs⟩
        case round =>
          clear hs
          obtain ⟨j, hj, rfl, hs⟩ := hrel
          by_cases hjl : j < me2
          · obtain ⟨y, hy⟩ : ∃ y, Hid (ev[j]? = some y) := ⟨ev[j]'(by rw [hme1.out]; exact hjl), List.getElem?_eq_getElem _⟩
            obtain ⟨gD1, rfl⟩ := hs.own_at (by omega)
            obtain ⟨gD2, rfl⟩ := hs.rot.own_at (by omega)
            go_upto_region 40 with (fail)
            have a0 : World.cell? _ ⟨gD1, j * 2, none⟩ = some (.int .i64 y.1) := Rd.own (es2_get hy.out 0 _ rfl) _ hs
            have a1 : World.cell? _ ⟨gD1, j * 2 + 1, none⟩ = some (.int .i64 y.2) := Rd.own (es2_get hy.out 1 _ rfl) _ hs
            have b0 : World.cell? _ ⟨gD2, j * 2, none⟩ = some (.int .i64 y.1) := Rd.own (es2_get hy.out 0 _ rfl) _ hs.rot
            have b1 : World.cell? _ ⟨gD2, j * 2 + 1, none⟩ = some (.int .i64 y.2) := Rd.own (es2_get hy.out 1 _ rfl) _ hs.rot
            have hne := neqE_o y.1 y.2
            refine wp_region_grow (by kernel_rfl) (by kernel_rfl) fun hnn => ?_
            have f0 := fun p : GW _ => p.grew.cell a0
            have f1 := fun p : GW _ => p.grew.cell a1
            have f2 := fun p : GW _ => p.grew.cell b0
            have f3 := fun p : GW _ => p.grew.cell b1
            repeat (go_big_quiet_step (rfl))
            refine wpQuiet_nil ?_
            clear hnn f0 f1 f2 f3 a0 a1 b0 b1
            intro u hu
            replace hs := hs.grew hu
            clear hu
            go_wp2
            clear hne
            go_roundw
            case rel => exact ⟨j + 1, by omega, by first | rfl | go_num, hs⟩
            case measure => simp [intOf]; omega
          · obtain rfl : me2 = j := by omega
            go_wp2_with (first
              | (go_at_call 46; refine (awake16 (hT.grew hs.below)).mono ?_; rintro r w' ⟨rfl, hg⟩; replace hs := hs.grew hg; clear hg))
            go_ret
            exact ⟨rfl, St.front (L := []) hs⟩
    · obtain rfl : nz = i := by omega
      obtain ⟨ev, s', t', hr1, hr2, hle⟩ := HI.out.reads hi60
      have HR1 := Lib.hid hr1
      have HR2 := Lib.hid hr2
      have HE1 := Lib.hid (HI.out.ev.lt (by omega))
      have HE2 := Lib.hid (HI.out.evt.lt (by omega))
      clear hr1 hr2 HI
      go_upto_region 35 with (first
        | (go_at_call 60; refine (wo_read hs HE1.out HR1).mono ?_; clear hs; rintro r w ⟨D1, me1, ce1, hme1, rfl, hs⟩)
        | (go_at_call 60; refine (wo_read hs.up2 HE2.out HR2).mono ?_; clear hs; rintro r w ⟨D2, me2, ce2, hme2, rfl, hs⟩))
      obtain rfl : me2 = me1 := hme2.out.symm.trans hme1.out
      have hm60 : me2 ≤ 60 := by rw [← hme1.out]; exact hle
      clear hle
      replace hs : St w0 [own D1 me2 ce1 121 2 (es2 ev), own D2 me2 ce2 121 2 (es2 ev)] w := St.front (L := [_, _]) (hs.ent (M := own D1 me2 ce1 121 2 (es2 ev) :: own D2 me2 ce2 121 2 (es2 ev) :: WoB W1 E1 A1 R1 X1 Q1 6 s' :: WoB W2 E2 A2 R2 X2 Q2 6 t' :: [own Ba na ca 40 2 (hsV all)]) (by (repeat first | exact Ent.refl _ | refine Ent.step (by repeat first | exact Ent.refl _ | apply Ent.skip) ?_)))
      go_upto_region 38 with (fail)
      go_loopw [26] (fun iv wr => ∃ j : Nat, j ≤ me2 ∧ iv = .int .i64 (j : Nat) ∧ St w0 [own D1 me2 ce1 121 2 (es2 ev), own D2 me2 ce2 121 2 (es2 ev)] wr) (fun iv _ => me2 - (intOf iv).toNat)
      case atStart => exact ⟨0, Nat.zero_le _, rfl, hs⟩
      case round =>
        clear hs
        obtain ⟨j, hj, rfl, hs⟩ := hrel
        by_cases hjl : j < me2
        · obtain ⟨y, hy⟩ : ∃ y, Hid (ev[j]? = some y) := ⟨ev[j]'(by rw [hme1.out]; exact hjl), List.getElem?_eq_getElem _⟩
          obtain ⟨gD1, rfl⟩ := hs.own_at (by omega)
          obtain ⟨gD2, rfl⟩ := hs.rot.own_at (by omega)
          go_upto_region 40 with (fail)
          have a0 : World.cell? _ ⟨gD1, j * 2, none⟩ = some (.int .i64 y.1) := Rd.own (es2_get hy.out 0 _ rfl) _ hs
          have a1 : World.cell? _ ⟨gD1, j * 2 + 1, none⟩ = some (.int .i64 y.2) := Rd.own (es2_get hy.out 1 _ rfl) _ hs
          have b0 : World.cell? _ ⟨gD2, j * 2, none⟩ = some (.int .i64 y.1) := Rd.own (es2_get hy.out 0 _ rfl) _ hs.rot
          have b1 : World.cell? _ ⟨gD2, j * 2 + 1, none⟩ = some (.int .i64 y.2) := Rd.own (es2_get hy.out 1 _ rfl) _ hs.rot
          have hne := neqE_o y.1 y.2
          refine wp_region_grow (by kernel_rfl) (by kernel_rfl) fun hnn => ?_
          have f0 := fun p : GW _ => p.grew.cell a0
          have f1 := fun p : GW _ => p.grew.cell a1
          have f2 := fun p : GW _ => p.grew.cell b0
          have f3 := fun p : GW _ => p.grew.cell b1
          repeat (go_big_quiet_step (rfl))
          refine wpQuiet_nil ?_
          clear hnn f0 f1 f2 f3 a0 a1 b0 b1
          intro u hu
          replace hs := hs.grew hu
          clear hu
          go_wp2
          clear hne
          go_roundw
          case rel => exact ⟨j + 1, by omega, by first | rfl | go_num, hs⟩
          case measure => simp [intOf]; omega
        · obtain rfl : me2 = j := by omega
          go_wp2_with (first
            | (go_at_call 46; refine (awake16 (hT.grew hs.below)).mono ?_; rintro r w' ⟨rfl, hg⟩; replace hs := hs.grew hg; clear hg))
          go_ret
          exact ⟨rfl, St.front (L := []) hs⟩
end Go.Proofs.YtiafdlofcjbllaaGreatDoor
