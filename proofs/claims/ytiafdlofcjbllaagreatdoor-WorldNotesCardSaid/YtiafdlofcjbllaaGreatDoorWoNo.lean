/-
  WorldNotes: the walk. (Printed by gen_wono.py.)
-/
import Derived.Test.YtiafdlofcjbllaaGreatDoorWoNoL
import Derived.Test.YtiafdlofcjbllaaGreatDoorWo13
import Derived.Test.YtiafdlofcjbllaaGreatDoorOpsB
import Derived.Test.YtiafdlofcjbllaaGreatDoorJA
set_option maxRecDepth 100000
namespace Go.Proofs.YtiafdlofcjbllaaGreatDoor
open Go Go.RowKit
theorem wo_oks2 {w0 w : World} {L : List As} {W E A R X Q n : Nat} {s : WoS} (hs : St w0 (WoB W E A R X Q n s :: L) w) {c : Nat} {x : Cmp} (hc : s.e.l[c]? = some x) : x.2.Ok := (rg_wf (wo_en hs).enopen.rot hc).ok
theorem eqE_in (a b c d : Int) (w : World) : (Op.equalIn 10000 121 (.agg #[.int .i64 a, .int .i64 b]) (.agg #[.int .i64 c, .int .i64 d])).run Tryz.prog w = .ok ((a == c) && (b == d)) w := by
  have u3 := Tryz.underlying3
  have a3 := Tryz.isAgg3
  have z3 := Tryz.sizeOf3
  have hS : Tryz.prog.underlying 121 = some (.struct (Tryz.prog.fieldsOf 121)) := by kernel_rfl
  have hp : Tryz.prog.stoodInHeld 121 = false := by kernel_rfl
  rw [show (10000 : Nat) = 9999 + 1 from rfl, run_equalIn_agg w 9999 121 _ _ hS hp]
  simp only [Program.fieldsOf, Tryz.underlying121]
  go_simp
  by_cases h1 : a = c <;> by_cases h2 : b = d <;> simp [h1, h2]
theorem neqE_bin (a b : Int) (w : World) : (binOp .neq 121 (.agg #[.int .i64 a, .int .i64 b]) (.agg #[.int .i64 a, .int .i64 b])).run Tryz.prog w = .ok (.bool false) w := by
  rw [run_neq_struct, eqE_in]; simp
theorem build_e31 (w : World) : (Instr.build 121 #[(0, .int .i64 3), (1, .int .i64 1)]).run Tryz.prog w = .ok (.agg #[.int .i64 3, .int .i64 1]) w := by kernel_rfl
theorem build_o11 (k i g : Int) (w : World) : (Instr.build 99 #[(0, .int .i64 k), (1, hv (i, g))]).run Tryz.prog w = .ok (valW ⟨k, (i, g), 0, V3.z⟩) w := by kernel_rfl
theorem cs3_set2 {ds : List V3} {i : Nat} {d : V3} (hd : ds[i]? = some d) (b : Int) : (cs3 ds).set (i * 3 + 2) (.int .i64 b) = cs3 (ds.set i ⟨d.k, d.a, b⟩) := by
  induction ds generalizing i with
  | nil => simp at hd
  | cons x l ih =>
    cases i with
    | zero =>
      simp only [List.getElem?_cons_zero, Option.some.injEq] at hd
      subst hd
      rfl
    | succ i =>
      simp only [List.getElem?_cons_succ] at hd
      have := ih hd
      show (.int .i64 x.k :: .int .i64 x.a :: .int .i64 x.b :: cs3 l).set _ _ = .int .i64 x.k :: .int .i64 x.a :: .int .i64 x.b :: cs3 (l.set i _)
      rw [show (i + 1) * 3 + 2 = i * 3 + 2 + 1 + 1 + 1 by omega]
      simp only [List.set_cons_succ]
      rw [this]
/-- The first i with another bound. -/
def d7 (ds : List V3) (i : Nat) : List V3 := (ds.take i).map b7 ++ ds.drop i
theorem d7_zero (ds : List V3) : d7 ds 0 = ds := by unfold d7; simp
theorem d7_get {ds : List V3} {i : Nat} {d : V3} (hd : ds[i]? = some d) : (d7 ds i)[i]? = some d := by
  obtain ⟨h1, h2⟩ := List.getElem?_eq_some_iff.1 hd
  unfold d7
  rw [List.getElem?_append_right (by simp; omega)]
  simp [Nat.min_eq_left (Nat.le_of_lt h1), hd]
theorem d7_set {ds : List V3} {i : Nat} {d : V3} (hd : ds[i]? = some d) : (d7 ds i).set i ⟨d.k, d.a, 7⟩ = d7 ds (i + 1) := by
  obtain ⟨h1, h2⟩ := List.getElem?_eq_some_iff.1 hd
  unfold d7
  rw [List.set_append_right _ _ (by simp; omega), List.drop_eq_getElem_cons h1, List.take_add_one, hd]
  simp [Nat.min_eq_left (Nat.le_of_lt h1), h2, b7]
theorem d7_len (ds : List V3) (i : Nat) : (d7 ds i).length = ds.length := by unfold d7; simp; omega
theorem d7_all (ds : List V3) : d7 ds ds.length = ds.map b7 := by unfold d7; simp
attribute [local irreducible] wpList Calls Code.wp okI okN pS tS memS getG pG insS delS getV pV tV okVal newSl SlS.put SlS.err SlS.putU SlS.putB descE SlS.take SlS.set SlS.errSet SlS.get SlS.has stV EnS.live EnS.get EnS.slot EnS.ins EnS.set EnS.rem EnS.parts EnS.del ofN strL delA newA giveV cs3 errDs descsL mkV WoS.defer WoS.maint WoS.get WoS.create WoS.reader WoS.read WoS.ins WoS.del d7 i8v es2
set_option maxHeartbeats 16000000 in
theorem wonotes_c {w0 : World} (hT : Tab w0) {va : Value} {za : List Int} (hva : IntArg w0 va za) (n : Int) (hn0 : 0 ≤ n) (hn1 : n ≤ 18446744073709551615) (later : Bool) :
    Calls Tryz.prog 9 #[va, .int .u64 n, .bool later] w0 (LawPost w0) := by
  obtain ⟨A0, na, ca, rfl, hna, hnc, hcm, hra, -⟩ := hva
  unfold maxLen at hcm
  have HNA := Lib.hid hna
  have hnb : na ≤ 9223372036854775807 := by omega
  clear hna hnc hcm
  have hs := St.start w0
  have HBV : Hid (∀ k : Nat, bits .and .u64 (n / 2 ^ k) 1 = n / 2 ^ k % 2) := fun k => bit_val hn0 hn1 k
  clear hn0 hn1
  obtain ⟨ds, hds⟩ : ∃ z, Hid (descsL za = z) := ⟨_, rfl⟩
  have hl8 : ds.length ≤ 8 := by rw [← hds.out]; exact descsL_len za
  have HOK : Hid (∀ d ∈ ds, descE d = 0) := by rw [Hid, ← hds.out]; exact descsL_ok za
  go_enter Tryz.func9, Tryz.ntmps9
  go_upto_region 2 with (first
    | (go_at_call 58; refine (config_c (N := 10) (q3 := 1) hs HNA hnb hra hds (by rw [Hid]; rfl) (by rw [Hid]; rfl)).mono ?_; clear hs; rintro r w ⟨B, m, cB, G, hm, rfl, hs⟩; have hm8 : m ≤ 8 := hm.out ▸ hl8)
    | (refine wpl_alloc zeroCf hs ?_; clear hs; intro g7 w hs; replace hs : St w0 (blk g7 (cfC 0 0 none 0 0 none 0 0).toArray 28 :: _) w := hs)
    | (refine wpl_store_agg (v := .agg (cfC (10 : Nat) ((1 : Nat) + 1) B m cB (some ⟨G, 0, none⟩) 2 2).toArray) rfl rfl (sizeCfv _ _ _ _ _ _ _ _) hs WrA.slotCf ?_; clear hs; intro w hs))
  clear hl8 hds hra HNA
  replace hs : St w0 [blk g7 (cfC (10 : Nat) ((1 : Nat) + 1) B m cB (some ⟨G, 0, none⟩) 2 2).toArray 28, own B m cB 97 3 (cs3 (d7 ds 0)), blk G (i8v [3, -7]).toArray 2] w := by rw [d7_zero]; exact hs
  go_upto_region 3 with (fail)
  go_loopw [8] (fun iv wr => ∃ i : Nat, i ≤ m ∧ iv = .int .i64 (i : Nat) ∧ St w0 [blk g7 (cfC (10 : Nat) ((1 : Nat) + 1) B m cB (some ⟨G, 0, none⟩) 2 2).toArray 28, own B m cB 97 3 (cs3 (d7 ds i)), blk G (i8v [3, -7]).toArray 2] wr) (fun iv _ => m - (intOf iv).toNat)
  case atStart => exact ⟨0, Nat.zero_le _, rfl, hs⟩
  case round =>
    clear hs
    obtain ⟨i, hi, rfl, hs⟩ := hrel
    have c2 : World.cell? _ ⟨g7, 2, none⟩ = some (.slice B m cB) := Rd.blk (by rfl) _ hs
    by_cases hlt : i < m
    · obtain ⟨d, hd⟩ : ∃ d, Hid (ds[i]? = some d) := ⟨ds[i]'(by rw [hm.out]; exact hlt), List.getElem?_eq_getElem _⟩
      obtain ⟨gB, rfl⟩ := hs.rot.own_at (by omega)
      have hcl : i * 3 + 2 < (cs3 (d7 ds i)).length := by rw [cs3_len, d7_len, hm.out]; omega
      go_wp2_with (first
        | (refine wpl_store (v := .int .i64 7) rfl rfl rfl size_in hs.rot (Wr.own hcl) ?_; clear hs c2; intro w hs))
      rw [cs3_set2 (d7_get hd.out), d7_set hd.out] at hs
      go_roundw
      case rel => exact ⟨i + 1, by omega, by first | rfl | go_num, hs.rot⟩
      case measure => simp [intOf]; omega
    · obtain rfl : m = i := by omega
      obtain ⟨ds7, HD7⟩ : ∃ z, Hid (ds.map b7 = z) := ⟨_, rfl⟩
      have e7 : d7 ds m = ds7 := by rw [← hm.out, d7_all]; exact HD7.out
      rw [e7] at hs
      have HM7 : Hid (ds7.length = m) := by rw [Hid, ← HD7.out, List.length_map]; exact hm.out
      have HOK7 : Hid (∀ d ∈ ds7, descE d = 0) := by
        rw [Hid, ← HD7.out]
        intro d hd
        obtain ⟨x, hx, rfl⟩ := List.mem_map.1 hd
        exact b7_ok (HOK.out x hx)
      have HB7 : Hid (∀ d ∈ ds7, d.b = 7) := by
        rw [Hid, ← HD7.out]
        intro d hd
        obtain ⟨x, hx, rfl⟩ := List.mem_map.1 hd
        rfl
      have HER : Hid (errDs 0 ds7 = 0) := errDs_ok HOK7.out (by rw [HM7.out]; omega)
      clear e7 HD7 HOK hm
      obtain ⟨cc1, cc2, HC⟩ := noC
      have HC := Lib.hid HC
      go_upto_region 7 with (first
        | (refine wpl_load_agg (cs := cfC (10 : Nat) ((1 : Nat) + 1) B m cB (some ⟨G, 0, none⟩) 2 2) (b := g7) (o := 0) rfl aggCf (sizeCf _ _ _ _ _ _ _ _) hs ?hh ?_; case hh => exact fun j x hx => (Rd.blk (by simpa using hx)))
        | (go_at_call 47; refine (wo_new (n := 10) (top := 2) hs (by decide) (by decide) (by decide) (by decide) HM7 (by omega) (RdS.own hs.drop).tail HER (B := some ⟨G, 0, none⟩) (fun h => nomatch h) (k := 2) (rs := [3, -7]) rfl (by decide) (by decide) RdS.blk.tail.tail).mono ?_; clear hs c2; rintro r w ⟨W, E, A, R, X, Q, l, HNL, rfl, hs⟩))
      obtain ⟨bt, HBT⟩ : ∃ z : Nat → Bool, Hid ((fun k => decide (n / 2 ^ k % 2 = 1)) = z) := ⟨_, rfl⟩
      replace HBT : Hid (∀ k, decide (n / 2 ^ k % 2 = 1) = bt k) := fun k => by rw [← HBT.out]
      have HNT := Lib.hid (HNL.out.nt (c2 := cc2) (bt := bt) (rs := [3, -7]) (fun c x hx => wo_oks2 hs hx) HB7.out)
      have HC1 : Hid ((⟨⟨2, newA 10, l⟩, [], [3, -7], false⟩ : WoS).create = ((0, 1), 0, ⟨⟨2, cc1, l⟩, [], [3, -7], false⟩)) := WoS.create_ok (WoS.free_free rfl) HC.out.cr1
      have HC2 : Hid ((⟨⟨2, cc1, l⟩, [], [3, -7], false⟩ : WoS).create = ((1, 1), 0, ⟨⟨2, cc2, l⟩, [], [3, -7], false⟩)) := WoS.create_ok (WoS.free_free rfl) HC.out.cr2
      obtain ⟨s0, HS0⟩ : ∃ z, Hid ((⟨⟨2, newA 10, l⟩, [], [3, -7], false⟩ : WoS) = z) := ⟨_, rfl⟩
      obtain ⟨s1, HS1⟩ : ∃ z, Hid ((⟨⟨2, cc1, l⟩, [], [3, -7], false⟩ : WoS) = z) := ⟨_, rfl⟩
      obtain ⟨s2, HS2⟩ : ∃ z, Hid ((⟨⟨2, cc2, l⟩, [], [3, -7], false⟩ : WoS) = z) := ⟨_, rfl⟩
      rw [HS0.out] at hs HC1
      rw [HS1.out] at HC1 HC2
      rw [HS2.out] at HC2 HNT
      clear HS0 HS1 HS2 HNL HER
      go_upto_region 11 with (first
        | (go_at_call 52; refine (wo_create hT hs HC1).mono ?_; clear hs; rintro r w ⟨rfl, hs⟩)
        | (go_at_call 52; refine (wo_create hT hs HC2).mono ?_; clear hs; rintro r w ⟨rfl, hs⟩)
        | (refine wpl_alloc zeroH hs ?_; clear hs; intro g11 w hs)
        | (refine wpl_store_agg (v := hv (1, 1)) rfl rfl (by rw [sizeHd]; rfl) hs WrA.slotH ?_; clear hs; intro w hs))
      clear HC1 HC2
      replace hs : St w0 [WoB W E A R X Q 10 s2, blk g7 (cfC (10 : Nat) ((1 : Nat) + 1) B m cB (some ⟨G, 0, none⟩) 2 2).toArray 28, own B m cB 97 3 (cs3 ds7), blk g11 (h2 (1, 1)).toArray 40] w := (hs.ent (M := blk G (i8v [3, -7]).toArray 2 :: [WoB W E A R X Q 10 s2, blk g7 (cfC (10 : Nat) ((1 : Nat) + 1) B m cB (some ⟨G, 0, none⟩) 2 2).toArray 28, own B m cB 97 3 (cs3 ds7), blk g11 (h2 (1, 1)).toArray 40]) (by (repeat first | exact Ent.refl _ | refine Ent.step (by repeat first | exact Ent.refl _ | apply Ent.skip) ?_))).drop
      go_upto_region 12 with (fail)
      go_loopw [13] (fun iv wr => ∃ (i : Nat) (s : WoS), i ≤ m ∧ iv = .int .i64 (i : Nat) ∧ Hid (NtW cc2 ds7 bt s i) ∧ St w0 [WoB W E A R X Q 10 s, blk g7 (cfC (10 : Nat) ((1 : Nat) + 1) B m cB (some ⟨G, 0, none⟩) 2 2).toArray 28, own B m cB 97 3 (cs3 ds7), blk g11 (h2 (1, 1)).toArray 40] wr) (fun iv _ => m - (intOf iv).toNat)
      case atStart => exact ⟨0, s2, Nat.zero_le _, rfl, HNT, hs⟩
      case round =>
        clear hs HNT
        obtain ⟨i, s, hi, rfl, HI, hs⟩ := hrel
        have c2 : World.cell? _ ⟨g7, 2, none⟩ = some (.slice B m cB) := Rd.blk (by rfl) _ hs.drop
        by_cases hlt : i < m
        · obtain ⟨d, hd⟩ : ∃ d, Hid (ds7[i]? = some d) := ⟨ds7[i]'(by rw [HM7.out]; exact hlt), List.getElem?_eq_getElem _⟩
          obtain ⟨gB, rfl⟩ := hs.up2.own_at (by omega)
          by_cases hb : n / 2 ^ i % 2 = 1
          · have hbt : bt i = true := by rw [← HBT.out]; exact decide_eq_true hb
            have d1 : bits .and .u64 (n / 2 ^ i) 1 = 1 := by rw [HBV.out, hb]
            obtain ⟨u, t1, s', hin, hev1, hrd, hnt⟩ := HI.out.yes HC.out HOK7.out hd.out hbt
            obtain ⟨vv, HMK⟩ : ∃ z, Hid (mkV d.k 1 1 = z) := ⟨_, rfl⟩
            rw [HMK.out] at hin
            have HIN := Lib.hid hin
            have HRD := Lib.hid hrd
            have HN' := Lib.hid hnt
            have HEV0 := Lib.hid (HI.out.ev.lt (by decide))
            clear hin hev1 hrd hnt HI hb hbt
            go_upto_region 15 with (fail)
            clear d1 c2
            replace hs : St w0 [blk g7 (cfC (10 : Nat) ((1 : Nat) + 1) (some ⟨gB, 0, none⟩) m cB (some ⟨G, 0, none⟩) 2 2).toArray 28, own (some ⟨gB, 0, none⟩) m cB 97 3 (cs3 ds7), blk g11 (h2 (1, 1)).toArray 40, WoB W E A R X Q 10 s] _ := hs.ent (by (repeat first | exact Ent.refl _ | refine Ent.step (by repeat first | exact Ent.refl _ | apply Ent.skip) ?_))
            refine wp_mix 2 [0, 1, 2, 3, 4, 5, 6, 7, 8] [9, 10] hs.only3 (by kernel_rfl) (by kernel_rfl) fun hne => ?_
            have r0 := (show Rd w0 [blk g7 (cfC (10 : Nat) ((1 : Nat) + 1) (some ⟨gB, 0, none⟩) m cB (some ⟨G, 0, none⟩) 2 2).toArray 28, own (some ⟨gB, 0, none⟩) m cB 97 3 (cs3 ds7), blk g11 (h2 (1, 1)).toArray 40] ⟨g11, 0, none⟩ (.int .i64 1) from (Rd.blk rfl).tail.tail).alln
            have r1 := (show Rd w0 [blk g7 (cfC (10 : Nat) ((1 : Nat) + 1) (some ⟨gB, 0, none⟩) m cB (some ⟨G, 0, none⟩) 2 2).toArray 28, own (some ⟨gB, 0, none⟩) m cB 97 3 (cs3 ds7), blk g11 (h2 (1, 1)).toArray 40] ⟨g11, 1, none⟩ (.int .i64 1) from (Rd.blk rfl).tail.tail).alln
            have r2 := (show Rd w0 [blk g7 (cfC (10 : Nat) ((1 : Nat) + 1) (some ⟨gB, 0, none⟩) m cB (some ⟨G, 0, none⟩) 2 2).toArray 28, own (some ⟨gB, 0, none⟩) m cB 97 3 (cs3 ds7), blk g11 (h2 (1, 1)).toArray 40] ⟨g7, 2, none⟩ (.slice (some ⟨gB, 0, none⟩) m cB) from Rd.blk (by rfl)).alln
            have r3 := (show Rd w0 [blk g7 (cfC (10 : Nat) ((1 : Nat) + 1) (some ⟨gB, 0, none⟩) m cB (some ⟨G, 0, none⟩) 2 2).toArray 28, own (some ⟨gB, 0, none⟩) m cB 97 3 (cs3 ds7), blk g11 (h2 (1, 1)).toArray 40] ⟨gB, i * 3, none⟩ (.int .i64 d.k) from (Rd.own (cs3_get hd.out 0 _ rfl)).tail).alln
            simp only [opsAt, List.getElem?_toArray, List.getElem?_cons_succ, List.getElem?_cons_zero]
            repeat (go_big_quiet_step (rfl))
            refine wpQuiet_nil ?_
            clear hne r0 r1 r2 r3
            replace hs := hs.drew
            refine wpMix_next [9] (by kernel_rfl) (by simp) (fun c hc => ?_)
            simp only [List.mem_singleton] at hc
            subst hc
            refine ⟨_, rfl, ?_⟩
            go_wp2_with (first
              | (go_at_call 67; refine (lvalue_c d.k 1 1 HMK).mono ?_; rintro r w ⟨rfl, hg⟩; replace hs := hs.grew hg; clear hg))
            refine mix_quiet [] [10] hs.only3 (by kernel_rfl) (by kernel_rfl) fun hne => ?_
            simp only [opsAt]
            refine wpQuiet_nil ?_
            clear hne
            refine wpMix_next [10] (by kernel_rfl) (by simp) (fun c hc => ?_)
            simp only [List.mem_singleton] at hc
            subst hc
            refine ⟨_, rfl, ?_⟩
            go_wp2_with (first
              | (go_at_call 63; refine (wo_ins (h := (1, 1)) hs.up3 HEV0.out HIN).mono ?_; clear hs; rintro r w ⟨rfl, hs⟩; replace hs := hs.dn3))
            replace hs : St w0 (blk g7 (cfC (10 : Nat) ((1 : Nat) + 1) (some ⟨gB, 0, none⟩) m cB (some ⟨G, 0, none⟩) 2 2).toArray 28 :: own (some ⟨gB, 0, none⟩) m cB 97 3 (cs3 ds7) :: blk g11 (h2 (1, 1)).toArray 40 :: WoB W E A R X Q 10 t1 :: []) w := hs.ent (by (repeat first | exact Ent.refl _ | refine Ent.step (by repeat first | exact Ent.refl _ | apply Ent.skip) ?_))
            refine mix_quiet [] [] hs.only3 (by kernel_rfl) (by kernel_rfl) fun hne => ?_
            simp only [opsAt]
            refine wpQuiet_nil ?_
            clear hne
            refine wpMix_end ?_
            go_wp2_with (first
              | (go_at_call 59; refine (wo_reader hs.up3 HRD).mono ?_; clear hs; rintro r w ⟨rfl, hs⟩))
            go_roundw
            case rel => exact ⟨i + 1, s', by omega, by first | rfl | go_num, HN', hs⟩
            case measure => simp [intOf]; omega
          · have hbt : bt i = false := by rw [← HBT.out]; exact decide_eq_false hb
            have d1 : bits .and .u64 (n / 2 ^ i) 1 = 0 := by rw [HBV.out]; omega
            obtain ⟨s', hrd, hnt⟩ := HI.out.no (by rw [HM7.out]; exact hlt) hbt
            have HRD := Lib.hid hrd
            have HN' := Lib.hid hnt
            clear hrd hnt HI hb hbt
            go_wp2_with (first
              | (go_at_call 59; refine (wo_reader hs HRD).mono ?_; clear hs c2; rintro r w ⟨rfl, hs⟩))
            go_roundw
            case rel => exact ⟨i + 1, s', by omega, by first | rfl | go_num, HN', hs⟩
            case measure => simp [intOf]; omega
        · obtain rfl : m = i := by omega
          have HIm : Hid (NtW cc2 ds7 bt s ds7.length) := by rw [HM7.out]; exact HI.out
          cases later
          · obtain ⟨nn, t, hdl, hn2⟩ := HIm.out.del HC.out HB7.out
            rw [HM7.out] at hn2
            have HN2 := Lib.hid hn2
            have HDL := Lib.hid hdl
            have HEV := Lib.hid (HI.out.ev.lt (by decide))
            clear hdl hn2 HI HIm
            go_upto_region 30 with (first
              | (refine wpl_load_agg (cs := h2 (1, 1)) (b := g11) (o := 0) rfl aggH (sizeHd _) hs ?hh ?_; case hh => exact fun j x hx => (Rd.blk (by simpa using hx)).tail.tail.tail)
              | (go_at_call 61; refine (wo_del (h := (1, 1)) hs HEV.out HDL).mono ?_; clear hs c2; rintro r w ⟨rfl, hs⟩))
            replace hs := St.front (L := [_, _]) hs
            go_upto_region 31 with (fail)
            go_loopw [20] (fun iv wr => ∃ (i : Nat) (s : WoS), i ≤ m ∧ iv = .int .i64 (i : Nat) ∧ Hid (N2W m bt s i) ∧ St w0 [WoB W E A R X Q 10 s, blk g7 (cfC (10 : Nat) ((1 : Nat) + 1) B m cB (some ⟨G, 0, none⟩) 2 2).toArray 28] wr) (fun iv _ => m - (intOf iv).toNat)
            case atStart => exact ⟨0, t, Nat.zero_le _, rfl, HN2, hs⟩
            case round =>
              clear hs HN2
              obtain ⟨i, s, hi, rfl, HI, hs⟩ := hrel
              have c2 : World.cell? _ ⟨g7, 2, none⟩ = some (.slice B m cB) := Rd.blk (by rfl) _ hs.drop
              by_cases hlt : i < m
              · obtain ⟨s', hr, hn⟩ := HI.out.read hlt
                have HN' := Lib.hid hn
                have HEV := Lib.hid (HI.out.ev.lt (by decide))
                clear hn HI
                by_cases hb : n / 2 ^ i % 2 = 1
                · have hbt : bt i = true := by rw [← HBT.out]; exact decide_eq_true hb
                  have d1 : bits .and .u64 (n / 2 ^ i) 1 = 1 := by rw [HBV.out, hb]
                  rw [hbt] at hr
                  have HRD : Hid (s.read (i : Int) 0 = ([(3, 1)], false, 0, s')) := hr
                  clear hr hb hbt
                  go_upto_region 34 with (first
                    | (go_at_call 60; refine (wo_read hs HEV.out HRD).mono ?_; clear hs c2; rintro r w ⟨D, me, ce, hme, rfl, hs⟩; obtain rfl : me = 1 := hme.out.symm))
                  obtain ⟨gD, rfl⟩ := hs.own_at (by decide)
                  have e0 : World.cell? _ ⟨gD, 0, none⟩ = some (.int .i64 3) := Rd.own (by unfold es2; rfl) _ hs
                  have e1 : World.cell? _ ⟨gD, 1, none⟩ = some (.int .i64 1) := Rd.own (by unfold es2; rfl) _ hs
                  have hbe := build_e31
                  have hne := neqE_bin 3 1
                  go_wp2
                  clear e0 e1 hbe hne
                  go_roundw
                  case rel => exact ⟨i + 1, s', by omega, by first | rfl | go_num, HN', hs.drop⟩
                  case measure => simp [intOf]; omega
                · have hbt : bt i = false := by rw [← HBT.out]; exact decide_eq_false hb
                  have d1 : bits .and .u64 (n / 2 ^ i) 1 = 0 := by rw [HBV.out]; omega
                  rw [hbt] at hr
                  have HRD : Hid (s.read (i : Int) 0 = ([], false, 0, s')) := hr
                  clear hr hb hbt
                  go_upto_region 34 with (first
                    | (go_at_call 60; refine (wo_read hs HEV.out HRD).mono ?_; clear hs c2; rintro r w ⟨D, me, ce, hme, rfl, hs⟩; obtain rfl : me = 0 := hme.out.symm))
                  go_wp2
                  go_roundw
                  case rel => exact ⟨i + 1, s', by omega, by first | rfl | go_num, HN', hs.drop⟩
                  case measure => simp [intOf]; omega
              · obtain rfl : i = m := by omega
                go_wp2_with (first
                  | (go_at_call 46; refine (awake16 (hT.grew hs.below)).mono ?_; rintro r w' ⟨rfl, hg⟩; replace hs := hs.grew hg; clear hg))
                go_ret
                exact ⟨rfl, St.front (L := []) hs⟩
          · obtain ⟨uu, t, hmt, hn2⟩ := HIm.out.maint HC.out HB7.out
            rw [HM7.out] at hn2
            have HN2 := Lib.hid hn2
            have HEV1 := HIm.out.ev
            have hrd := fun (i : Nat) (hi : i < ds7.length) => HIm.out.read hi (q := [⟨1, (1, 1), 0, V3.z⟩])
            have hdf := HIm.out.defer HC.out
            have HQ : Hid (s.q.length ≤ 10000) := by rw [Hid, HIm.out.q]; exact Nat.zero_le _
            obtain ⟨sq, HSQ⟩ : ∃ z, Hid (({ s with q := [⟨1, (1, 1), 0, V3.z⟩] } : WoS) = z) := ⟨_, rfl⟩
            have HEV2 : Hid (EvL 1 sq.e.l) := by rw [← HSQ.out]; exact HEV1
            have HQ2 : Hid (sq.q.length ≤ 10000) := by rw [← HSQ.out]; exact (show 1 ≤ 10000 by decide)
            have HRD : Hid (∀ i : Nat, i < ds7.length → sq.read (i : Int) 0 = ([], false, 0, sq)) := by rw [← HSQ.out]; exact hrd
            rw [HSQ.out] at hmt hdf
            have HMT := Lib.hid hmt
            have HDF := Lib.hid hdf
            have HEV3 := Lib.hid (HEV2.out.lt (by decide))
            rw [HM7.out] at HRD
            clear hmt hn2 hrd hdf HI HIm HEV1
            go_upto_region 23 with (first
              | (refine wpl_load_agg (cs := h2 (1, 1)) (b := g11) (o := 0) rfl aggH (sizeHd _) hs ?hh ?_; case hh => exact fun j x hx => (Rd.blk (by simpa using hx)).tail.tail.tail)
              | (refine wpl_buildS (build_o11 1 1 1) rfl ?_)
              | (refine wpl_build1 (v := valW ⟨1, (1, 1), 0, V3.z⟩) elemW (by decide) rfl rfl hs ?_; clear hs; intro G3 w hs; replace hs : St w0 (WoB W E A R X Q 10 s :: blk G3 (c7w ⟨1, (1, 1), 0, V3.z⟩).toArray 99 :: _) w := hs.rot)
              | (go_at_call 53; refine (wo_defer (l := [⟨1, (1, 1), 0, V3.z⟩]) HQ.out (by decide) hs (by rw [c7_single]; exact RdS.blk) HDF).mono ?_; clear hs c2; rintro r w ⟨rfl, hs⟩))
            replace hs : St w0 [WoB W E A R X Q 10 sq, blk g7 (cfC (10 : Nat) ((1 : Nat) + 1) B m cB (some ⟨G, 0, none⟩) 2 2).toArray 28] _ := St.front (L := [_, _]) hs.rot.drop
            go_loopw [16] (fun iv wr => ∃ i2 : Nat, i2 ≤ m ∧ iv = .int .i64 (i2 : Nat) ∧ St w0 [WoB W E A R X Q 10 sq, blk g7 (cfC (10 : Nat) ((1 : Nat) + 1) B m cB (some ⟨G, 0, none⟩) 2 2).toArray 28] wr) (fun iv _ => m - (intOf iv).toNat)
            case atStart => exact ⟨0, Nat.zero_le _, rfl, hs⟩
            case round =>
              clear hs
              obtain ⟨i2, hi2, rfl, hs⟩ := hrel
              have c2 : World.cell? _ ⟨g7, 2, none⟩ = some (.slice B m cB) := Rd.blk (by rfl) _ hs.drop
              by_cases hlt2 : i2 < m
              · have HR2 := Lib.hid (HRD.out i2 hlt2)
                go_wp2_with (first
                  | (go_at_call 60; refine (wo_read hs HEV3.out HR2).mono ?_; clear hs c2; rintro r w ⟨D, me, ce, hme, rfl, hs⟩; obtain rfl : me = 0 := hme.out.symm))
                go_roundw
                case rel => exact ⟨i2 + 1, by omega, by first | rfl | go_num, hs.drop⟩
                case measure => simp [intOf]; omega
              · obtain rfl : m = i2 := by omega
                go_upto_region 30 with (first
                  | (go_at_call 54; refine (wo_maint hT hs HEV2.out (by decide) HQ2.out HMT).mono ?_; clear hs c2; rintro r w ⟨rfl, hs⟩))
                go_upto_region 31 with (fail)
                go_loopw [20] (fun iv wr => ∃ (i : Nat) (s : WoS), i ≤ m ∧ iv = .int .i64 (i : Nat) ∧ Hid (N2W m bt s i) ∧ St w0 [WoB W E A R X Q 10 s, blk g7 (cfC (10 : Nat) ((1 : Nat) + 1) B m cB (some ⟨G, 0, none⟩) 2 2).toArray 28] wr) (fun iv _ => m - (intOf iv).toNat)
                case atStart => exact ⟨0, t, Nat.zero_le _, rfl, HN2, hs⟩
                case round =>
                  clear hs HN2
                  obtain ⟨i, s, hi, rfl, HI, hs⟩ := hrel
                  have c2 : World.cell? _ ⟨g7, 2, none⟩ = some (.slice B m cB) := Rd.blk (by rfl) _ hs.drop
                  by_cases hlt : i < m
                  · obtain ⟨s', hr, hn⟩ := HI.out.read hlt
                    have HN' := Lib.hid hn
                    have HEV := Lib.hid (HI.out.ev.lt (by decide))
                    clear hn HI
                    by_cases hb : n / 2 ^ i % 2 = 1
                    · have hbt : bt i = true := by rw [← HBT.out]; exact decide_eq_true hb
                      have d1 : bits .and .u64 (n / 2 ^ i) 1 = 1 := by rw [HBV.out, hb]
                      rw [hbt] at hr
                      have HRD : Hid (s.read (i : Int) 0 = ([(3, 1)], false, 0, s')) := hr
                      clear hr hb hbt
                      go_upto_region 34 with (first
                        | (go_at_call 60; refine (wo_read hs HEV.out HRD).mono ?_; clear hs c2; rintro r w ⟨D, me, ce, hme, rfl, hs⟩; obtain rfl : me = 1 := hme.out.symm))
                      obtain ⟨gD, rfl⟩ := hs.own_at (by decide)
                      have e0 : World.cell? _ ⟨gD, 0, none⟩ = some (.int .i64 3) := Rd.own (by unfold es2; rfl) _ hs
                      have e1 : World.cell? _ ⟨gD, 1, none⟩ = some (.int .i64 1) := Rd.own (by unfold es2; rfl) _ hs
                      have hbe := build_e31
                      have hne := neqE_bin 3 1
                      go_wp2
                      clear e0 e1 hbe hne
                      go_roundw
                      case rel => exact ⟨i + 1, s', by omega, by first | rfl | go_num, HN', hs.drop⟩
                      case measure => simp [intOf]; omega
                    · have hbt : bt i = false := by rw [← HBT.out]; exact decide_eq_false hb
                      have d1 : bits .and .u64 (n / 2 ^ i) 1 = 0 := by rw [HBV.out]; omega
                      rw [hbt] at hr
                      have HRD : Hid (s.read (i : Int) 0 = ([], false, 0, s')) := hr
                      clear hr hb hbt
                      go_upto_region 34 with (first
                        | (go_at_call 60; refine (wo_read hs HEV.out HRD).mono ?_; clear hs c2; rintro r w ⟨D, me, ce, hme, rfl, hs⟩; obtain rfl : me = 0 := hme.out.symm))
                      go_wp2
                      go_roundw
                      case rel => exact ⟨i + 1, s', by omega, by first | rfl | go_num, HN', hs.drop⟩
                      case measure => simp [intOf]; omega
                  · obtain rfl : i = m := by omega
                    go_wp2_with (first
                      | (go_at_call 46; refine (awake16 (hT.grew hs.below)).mono ?_; rintro r w' ⟨rfl, hg⟩; replace hs := hs.grew hg; clear hg))
                    go_ret
                    exact ⟨rfl, St.front (L := []) hs⟩
end Go.Proofs.YtiafdlofcjbllaaGreatDoor
