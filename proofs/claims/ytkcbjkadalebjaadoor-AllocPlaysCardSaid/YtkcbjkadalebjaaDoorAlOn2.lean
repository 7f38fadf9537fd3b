/-
  AllocOnce, the walk.
-/
import Derived.Test.YtkcbjkadalebjaaDoorAlOn
set_option maxRecDepth 100000
namespace Go.Proofs.YtkcbjkadalebjaaDoor
open Go Go.RowKit
attribute [local irreducible] wpList Calls Code.wp
def bsV (l : List Bool) : List Value := l.map Value.bool
theorem Rd.any {w0 : World} {a : Addr} {v : Value} (h : Rd w0 [] a v) : ∀ L, Rd w0 L a v
  | [] => h
  | _ :: L => (Rd.any h L).tail
theorem bsV_get {l : List Bool} {k : Nat} {b : Bool} (h : l[k]? = some b) : (bsV l)[k]? = some (.bool b) := by simp [bsV, h]
theorem bsV_len (l : List Bool) : (bsV l).length = l.length := by simp [bsV]
theorem bsV_app (l : List Bool) (b : Bool) : bsV l ++ [Value.bool b] = bsV (l ++ [b]) := by simp [bsV]
theorem bsV_set (l : List Bool) (k : Nat) (b : Bool) : (bsV l).set k (.bool b) = bsV (l.set k b) := by simp [bsV, List.map_set]
theorem elemB : ElemOk Tryd.prog 28 4 1 1 := ElemOk.of Tryd.underlying28 (z := .bool false) (by kernel_rfl) rfl (by decide)
theorem size_bool : (Tryd.prog.info? 4).map (·.size) = some 1 := by kernel_rfl
theorem and_ffff (z : Int) : bits .and .i64 z 65535 = ((z % 65536).toNat : Nat) := by
  show IntKind.i64.wrap ((BitVec.ofInt 64 z &&& BitVec.ofInt 64 65535).toNat : Int) = _
  rw [BitVec.toNat_and, show (BitVec.ofInt 64 65535).toNat = 2 ^ 16 - 1 by decide, Nat.and_two_pow_sub_one_eq_mod, BitVec.toNat_ofInt, IntKind.wrap_i64]
  omega
theorem giveV_err {s : Nat} {cs : List ACell} (h : idxS 0 cs = []) : ∃ e : Int, (e = 6 ∨ e = 7) ∧ giveV s cs = ((0, 0), e, cs) := by
  rw [giveV_none h]
  split
  · exact ⟨6, .inl rfl, rfl⟩
  · exact ⟨7, .inr rfl, rfl⟩
attribute [local irreducible] idxS addS okN memS remS errN insS delS nextS stA gnA stV atA hsV mergeA giveV delA newA bsV
set_option maxHeartbeats 2000000 in
theorem aonce_c {w0 : World} (hT : Tab w0) (z1 z2 : Int) {va : Value} {xs : List OpA} (hva : RowsArg c4h (fun _ => True) w0 va xs) : Calls Tryd.prog 3 #[.int .i64 z1, .int .i64 z2, va] w0 (LawPost w0) := by
  obtain ⟨A, ca, rfl, hnc, hcm, hra, _⟩ := hva
  unfold maxLen at hcm
  have hs := St.start w0
  obtain ⟨n, hn, hn1, hn2⟩ : ∃ n : Nat, ((z1 % 256).toNat : Int) % 20 + 1 = (n : Int) ∧ 1 ≤ n ∧ n ≤ 20 := ⟨(((z1 % 256).toNat : Int) % 20 + 1).toNat, by omega, by omega, by omega⟩
  obtain ⟨t, ht, ht1, ht2⟩ : ∃ t : Nat, ((z2 % 256).toNat : Int) % 5 + 1 = (t : Int) ∧ 1 ≤ t ∧ t ≤ 5 := ⟨(((z2 % 256).toNat : Int) % 5 + 1).toNat, by omega, by omega, by omega⟩
  have hand1 := and_ff z1
  have hand2 := and_ff z2
  have hr1 : (z1 % 256).toNat < 256 := by omega
  have hr2 : (z2 % 256).toNat < 256 := by omega
  generalize (z1 % 256).toNat = r1 at *
  generalize (z2 % 256).toNat = r2 at *
  go_enter Tryd.func3, Tryd.ntmps3
  go_wp2_with (first
    | (go_at_call 8; refine (anew_c hs (n := n) (top := (t : Int)) (by omega) (by omega) (by omega) (by omega)).mono ?_; clear hs; rintro e w' ⟨D, rfl, hs⟩))
  replace hs := (hs.own_nil 30 2).rot
  replace hs := (hs.own_nil 4 1).dn2
  have hz1 : hsV [] = [] := by unfold hsV; rfl
  have hz2 : bsV [] = [] := by unfold bsV; rfl
  clear hn ht hand1 hand2 hr1 hr2
  go_loopw [9, 10, 11] (fun av gv cv wr => ∃ (k m : Nat) (B G : Option Addr) (capB capG : Nat) (cs : List ACell) (all : List Hdl) (gone : List Bool), k ≤ xs.length ∧ k ≤ 120 ∧ m ≤ k ∧ av = .slice B m capB ∧ gv = .slice G m capG ∧ cv = .int .i64 (k : Nat) ∧ OnI n cs all gone ∧ all.length = m ∧
    St w0 [AlB D (t : Int) cs, own B m capB 30 2 (hsV all), own G m capG 4 1 (bsV gone)] wr) (fun _ _ cv _ => xs.length - (intOf cv).toNat)
  case atStart => exact ⟨0, 0, none, none, 0, 0, newA n, [], [], Nat.zero_le _, Nat.zero_le _, Nat.le_refl _, rfl, rfl, rfl, onI_start n, rfl, by rw [hz1, hz2]; exact hs⟩
  case round =>
    clear hs hz1 hz2
    obtain ⟨k, m, B, G, capB, capG, cs, all, gone, hk, hk2, hmk, rfl, rfl, rfl, HI, hm, hs⟩ := hrel
    have HM := Lib.hid hm
    have HMG : Hid (gone.length = m) := by rw [Hid, HI.same, hm]
    have hok := hs.alopen.1
    clear hm
    by_cases hlt : k < xs.length ∧ k < 120
    · obtain ⟨hkx, hk120⟩ := hlt
      obtain ⟨o, ho⟩ : ∃ o, xs[k]? = some o := ⟨_, List.getElem?_eq_getElem hkx⟩
      have hcell := fun j x hx => hra.get (rows_get (C := 4) (encX := c4h) (fun _ => rfl) ho j x hx)
      obtain ⟨b, off, rfl, hc0⟩ := hcell 0 (.int .i64 o.k) rfl
      obtain ⟨b', off', e1, hc1⟩ := hcell 1 (.int .i64 o.h) rfl
      injection e1 with e1
      injection e1 with e1 e2
      subst e1; subst e2
      replace hc0 := (hc0.any [AlB D (t : Int) cs, own B m capB 30 2 (hsV all), own G m capG 4 1 (bsV gone)]) _ hs
      replace hc1 := (hc1.any [AlB D (t : Int) cs, own B m capB 30 2 (hsV all), own G m capG 4 1 (bsV gone)]) _ hs
      simp only [Nat.add_zero] at hc0
      rw [← Nat.add_assoc] at hc1
      obtain ⟨ok, oh, _⟩ := o
      simp only at hc0 hc1
      clear hcell ho
      by_cases hkind : ok < 2
      · cases hF : idxS 0 cs with
        | nil =>
          obtain ⟨e, he, hgv⟩ := giveV_err (s := 1) hF
          have HG := Lib.hid hgv
          have he2 : e ≠ 0 := by rcases he with rfl | rfl <;> decide
          clear hgv hF he
          go_wp2_with (first
            | (go_at_call 9; refine (create_c hT hs HG).mono ?_; clear hs hc0 hc1; rintro e w' ⟨rfl, hs⟩)
            | (refine wpl_alloc zeroH hs ?_; clear hs; intro g7 w3 hs; replace hs : St w0 (blk g7 (h2 (0, 0)).toArray 30 :: _) w3 := hs)
            | (refine wpl_store_agg (ad := ⟨g7, 0, none⟩) (v := hv (0, 0)) rfl rfl (sizeH _) hs WrA.slotH ?_; clear hs; intro w4 hs; replace hs := hs.drop))
          go_roundw
          case rel => first | exact ⟨k + 1, m, B, G, capB, capG, cs, all, gone, by omega, by omega, by omega, rfl, rfl, by go_num, HI, HM.out, hs⟩ | ((repeat apply Exists.intro); refine ⟨?_, rfl⟩; exact ⟨k + 1, m, B, G, capB, capG, cs, all, gone, by omega, by omega, by omega, rfl, rfl, by go_num, HI, HM.out, hs⟩)
          case measure => simp [intOf] <;> omega
        | cons i l =>
          have hgb := hok.gen0 i (idx_head hF).1
          have hgt := hok.free i (idx_head hF).1 (idx_head hF).2
          obtain ⟨hin, fresh, HI2⟩ := HI.create hF hgb.1
          have hgv := giveV_some (s := 1) hF
          obtain ⟨g, hg⟩ : ∃ g, gnA cs i + 1 = g := ⟨_, rfl⟩
          rw [hg] at fresh HI2 hgv
          have hg1 : 1 ≤ g := by omega
          have hg2 : g ≤ (t : Int) := by omega
          have HG := Lib.hid hgv
          have HFr := Lib.hid fresh
          have HX : Hid (hsV all ++ h2 ((i : Int), g) = hsV (all ++ [((i : Int), g)])) := by rw [Hid, hsV_append]
          have HY : Hid (bsV gone ++ [Value.bool false] = bsV (gone ++ [false])) := by rw [Hid, bsV_app]
          clear hgv hF fresh HI hgb hgt hg hok
          go_wp2_with (first
            | (go_at_call 9; refine (create_c hT hs HG).mono ?_; clear hs hc0 hc1; rintro e w' ⟨rfl, hs⟩)
            | (refine wpl_alloc zeroH hs ?_; clear hs; intro g7 w3 hs; replace hs : St w0 (blk g7 (h2 (0, 0)).toArray 30 :: _) w3 := hs)
            | (refine wpl_store_agg (ad := ⟨g7, 0, none⟩) (v := hv ((i : Int), g)) rfl rfl (sizeH _) hs WrA.slotH ?_; clear hs; intro w4 hs))
          generalize cs.set i (1, g) = cs' at *
          go_loopw [14] (fun cv wr => ∃ q : Nat, q ≤ m ∧ cv = .int .i64 (q : Nat) ∧ St w0 [blk g7 (h2 ((i : Int), g)).toArray 30, AlB D (t : Int) cs', own B m capB 30 2 (hsV all), own G m capG 4 1 (bsV gone)] wr) (fun cv _ => m - (intOf cv).toNat)
          case atStart => exact ⟨0, Nat.zero_le _, rfl, hs⟩
          case round =>
            clear hs
            obtain ⟨q, hq, rfl, hs⟩ := hrel
            obtain ⟨f0, f1⟩ := hRd hs
            simp only at f0 f1
            by_cases hqm : q < m
            · obtain ⟨gB, rfl⟩ := hs.up2.own_at (by omega)
              obtain ⟨⟨i', g'⟩, hh⟩ : ∃ h, all[q]? = some h := ⟨_, List.getElem?_eq_getElem (by rw [HM.out]; exact hqm)⟩
              have hne := HFr.out q _ hh
              have b0 := hsV_at (w0 := w0) (B := gB) (n := m) (cap := capB) (L := _) hh 0 _ rfl _ hs.up2
              have b1 := hsV_at (w0 := w0) (B := gB) (n := m) (cap := capB) (L := _) hh 1 _ rfl _ hs.up2
              simp only [Nat.add_zero] at b0
              clear hh
              go_wp2
              by_cases hii : i' = (i : Int)
              · subst hii
                have hgg : ¬ g' = g := fun h => hne (by rw [h])
                have c1 : (g' == g) = false := by simpa using hgg
                clear hne
                refine wp_region_grow (by kernel_rfl) (by kernel_rfl) fun hne2 => ?_
                have g0 := fun p : GW _ => p.grew.cell f0
                have g1 := fun p : GW _ => p.grew.cell f1
                have g2 := fun p : GW _ => p.grew.cell b0
                have g3 := fun p : GW _ => p.grew.cell b1
                repeat (go_big_quiet_step (fail))
                refine wpQuiet_nil ?_
                clear hne2 g0 g1 g2 g3 f0 f1 b0 b1
                intro u hu
                replace hs := hs.grew hu
                clear hu
                go_wp2
                go_roundw
                case rel => first | exact ⟨q + 1, by omega, by go_num, hs⟩ | ((repeat apply Exists.intro); refine ⟨?_, rfl⟩; exact ⟨q + 1, by omega, by go_num, hs⟩)
                case measure => simp [intOf] <;> omega
              · have c1 : (i' == (i : Int)) = false := by simpa using hii
                clear hne
                refine wp_region_grow (by kernel_rfl) (by kernel_rfl) fun hne2 => ?_
                have g0 := fun p : GW _ => p.grew.cell f0
                have g1 := fun p : GW _ => p.grew.cell f1
                have g2 := fun p : GW _ => p.grew.cell b0
                have g3 := fun p : GW _ => p.grew.cell b1
                repeat (go_big_quiet_step (fail))
                refine wpQuiet_nil ?_
                clear hne2 g0 g1 g2 g3 f0 f1 b0 b1
                intro u hu
                replace hs := hs.grew hu
                clear hu
                go_wp2
                go_roundw
                case rel => first | exact ⟨q + 1, by omega, by go_num, hs⟩ | ((repeat apply Exists.intro); refine ⟨?_, rfl⟩; exact ⟨q + 1, by omega, by go_num, hs⟩)
                case measure => simp [intOf] <;> omega
            · obtain rfl : q = m := by omega
              clear hq
              go_wp2_with (first
                | (refine wpl_load_agg (cs := h2 ((i : Int), g)) (b := g7) (o := 0) rfl aggH (sizeH _) hs ?hh ?_; case hh => exact fun j x hx => Rd.blk (by simpa using hx))
                | (refine wpl_build1 (v := hv ((i : Int), g)) elemH (by decide) rfl rfl hs ?_; clear hs f0 f1; intro gb w2 hs; replace hs : St w0 (blk gb (h2 ((i : Int), g)).toArray 30 :: _) w2 := hs)
                | (refine wpl_append (B := some ⟨gb, 0, none⟩) (m := 1) (news := h2 ((i : Int), g)) elemH rfl rfl hs (Ent.skip (Ent.skip (Ent.skip (Ent.refl _)))) RdS.blk rfl (h2_one _) (by unfold maxLen; omega) (by omega) ?_; clear hs; intro B' capB' w3 hs; rw [HX.out] at hs; replace hs := hs.rot.drop)
                | (refine wpl_build1 (v := .bool false) elemB (by decide) rfl rfl hs ?_; clear hs; intro gc w2 hs; replace hs : St w0 (blk gc #[.bool false] 4 :: _) w2 := hs)
                | (refine wpl_append (B := some ⟨gc, 0, none⟩) (m := 1) (news := [.bool false]) elemB rfl rfl hs (Ent.skip (Ent.skip (Ent.skip (Ent.skip (Ent.refl _))))) RdS.blk rfl (by simp [Value.oneCell']) (by unfold maxLen; omega) (by omega) ?_; clear hs; intro G' capG' w3 hs; rw [HY.out] at hs; replace hs := hs.rot.drop.up3.up2.rot.up3.drop))
              go_roundw
              case rel => first | exact ⟨k + 1, q + 1, B', G', capB', capG', cs', all ++ [((i : Int), g)], gone ++ [false], by omega, by omega, by omega, rfl, rfl, by go_num, HI2, by rw [List.length_append, HM.out]; rfl, hs⟩ | ((repeat apply Exists.intro); refine ⟨?_, rfl⟩; exact ⟨k + 1, q + 1, B', G', capB', capG', cs', all ++ [((i : Int), g)], gone ++ [false], by omega, by omega, by omega, rfl, rfl, by go_num, HI2, by rw [List.length_append, HM.out]; rfl, hs⟩)
              case measure => simp [intOf] <;> omega
      · by_cases hm0 : m = 0
        · go_wp2
          go_roundw
          case rel => first | exact ⟨k + 1, m, B, G, capB, capG, cs, all, gone, by omega, by omega, by omega, rfl, rfl, by go_num, HI, HM.out, hs⟩ | ((repeat apply Exists.intro); refine ⟨?_, rfl⟩; exact ⟨k + 1, m, B, G, capB, capG, cs, all, gone, by omega, by omega, by omega, rfl, rfl, by go_num, HI, HM.out, hs⟩)
          case measure => simp [intOf] <;> omega
        · obtain ⟨gB, rfl⟩ := hs.rot.own_at (by omega)
          obtain ⟨gG, rfl⟩ := hs.up2.own_at (by omega)
          have hand := and_ffff oh
          have hr : (oh % 65536).toNat < 65536 := by omega
          generalize (oh % 65536).toNat = r at hand hr
          obtain ⟨q, hq⟩ : ∃ q, r % m = q := ⟨_, rfl⟩
          have hqm : q < m := by rw [← hq]; exact Nat.mod_lt _ (by omega)
          have hrm : (r : Int) % (m : Int) = (q : Int) := by rw [← hq]; simp
          have hrt : Int.tmod (r : Int) (m : Int) = (q : Int) := by rw [Int.tmod_eq_emod_of_nonneg (by omega)]; exact hrm
          obtain ⟨⟨i, g⟩, hh⟩ : ∃ h, all[q]? = some h := ⟨_, List.getElem?_eq_getElem (by rw [HM.out]; exact hqm)⟩
          obtain ⟨bq, hb⟩ : ∃ b, gone[q]? = some b := ⟨_, List.getElem?_eq_getElem (by rw [HMG.out]; exact hqm)⟩
          have hld : ∀ X Y, ∀ j x, (h2 (i, g))[j]? = some x → Rd w0 [X, own (some ⟨gB, 0, none⟩) m capB 30 2 (hsV all), Y] ⟨gB, q * 2 + j, none⟩ x := fun X Y j x hx => (hsV_at hh j x hx).tail
          have hgl : q < (bsV gone).length := by rw [bsV_len, HMG.out]; exact hqm
          have hsG : Hid ((bsV gone).set q (.bool true) = bsV (gone.set q true)) := bsV_set _ _ _
          have c0 := Rd.own (bsV_get hb) _ hs.up2
          cases bq with
          | true =>
            obtain ⟨hd, hset⟩ := HI.del_gone (top := (t : Int)) hh hb
            have HDel := Lib.hid hd
            have HSet : Hid ((bsV gone).set q (.bool true) = bsV gone) := by rw [Hid, hsG.out, hset]
            clear hd hset hh hb hq hsG
            go_wp2_with (first
              | (refine wpl_load_agg (cs := h2 (i, g)) (b := gB) (o := q * 2) rfl aggH (sizeH _) hs ?hh ?_; case hh => exact hld _ _)
              | (go_at_call 10; refine (delete_c hs HDel).mono ?_; clear hs c0 hc0 hc1; rintro e w' ⟨rfl, hs⟩)
              | (refine wpl_store (ad := ⟨gG, q, none⟩) (v := .bool true) rfl rfl rfl size_bool hs.up2 (Wr.own hgl) ?_; clear hs; intro w3 hs; rw [HSet.out] at hs; replace hs := hs.dn2))
            go_roundw
            case rel => first | exact ⟨k + 1, m, _, _, capB, capG, cs, all, gone, by omega, by omega, by omega, rfl, rfl, by go_num, HI, HM.out, hs⟩ | ((repeat apply Exists.intro); refine ⟨?_, rfl⟩; exact ⟨k + 1, m, _, _, capB, capG, cs, all, gone, by omega, by omega, by omega, rfl, rfl, by go_num, HI, HM.out, hs⟩)
            case measure => simp [intOf] <;> omega
          | false =>
            obtain ⟨cs', hd, HI2⟩ := HI.del_live (top := (t : Int)) hh hb
            have HDel := Lib.hid hd
            have HSet := hsG
            clear hd hh hb hq hsG HI
            go_wp2_with (first
              | (refine wpl_load_agg (cs := h2 (i, g)) (b := gB) (o := q * 2) rfl aggH (sizeH _) hs ?hh ?_; case hh => exact hld _ _)
              | (go_at_call 10; refine (delete_c hs HDel).mono ?_; clear hs c0 hc0 hc1; rintro e w' ⟨rfl, hs⟩)
              | (refine wpl_store (ad := ⟨gG, q, none⟩) (v := .bool true) rfl rfl rfl size_bool hs.up2 (Wr.own hgl) ?_; clear hs; intro w3 hs; rw [HSet.out] at hs; replace hs := hs.dn2))
            go_roundw
            case rel => first | exact ⟨k + 1, m, _, _, capB, capG, cs', all, gone.set q true, by omega, by omega, by omega, rfl, rfl, by go_num, HI2, HM.out, hs⟩ | ((repeat apply Exists.intro); refine ⟨?_, rfl⟩; exact ⟨k + 1, m, _, _, capB, capG, cs', all, gone.set q true, by omega, by omega, by omega, rfl, rfl, by go_num, HI2, HM.out, hs⟩)
            case measure => simp [intOf] <;> omega
    · by_cases h3 : k < xs.length
      · have h4 : ¬ k < 120 := fun h => hlt ⟨h3, h⟩
        clear hlt
        go_wp2
        try clear h3
        try clear h4
        go_loopw [17] (fun cv wr => ∃ q : Nat, q ≤ m ∧ cv = .int .i64 (q : Nat) ∧ St w0 [AlB D (t : Int) cs, own B m capB 30 2 (hsV all), own G m capG 4 1 (bsV gone)] wr) (fun cv _ => m - (intOf cv).toNat)
        case atStart => exact ⟨0, Nat.zero_le _, rfl, hs⟩
        case round =>
          clear hs
          obtain ⟨q, hq, rfl, hs⟩ := hrel
          by_cases hqm : q < m
          · obtain ⟨gB, rfl⟩ := hs.rot.own_at (by omega)
            obtain ⟨gG, rfl⟩ := hs.up2.own_at (by omega)
            obtain ⟨⟨i, g⟩, hh⟩ : ∃ h, all[q]? = some h := ⟨_, List.getElem?_eq_getElem (by rw [HM.out]; exact hqm)⟩
            obtain ⟨bq, hb⟩ : ∃ b, gone[q]? = some b := ⟨_, List.getElem?_eq_getElem (by rw [HMG.out]; exact hqm)⟩
            have hst := HI.state hh hb
            have b0 := hsV_at (w0 := w0) (B := gB) (n := m) (cap := capB) (L := _) hh 0 _ rfl _ hs.rot
            have b1 := hsV_at (w0 := w0) (B := gB) (n := m) (cap := capB) (L := _) hh 1 _ rfl _ hs.rot
            have c0 := Rd.own (bsV_get hb) _ hs.up2
            simp only [Nat.add_zero] at b0
            cases bq with
            | true =>
              have HS : Hid (stV cs (i, g) = 0) := hst
              clear hst hh hb
              go_wp2
              refine wp_region_grow (by kernel_rfl) (by kernel_rfl) fun hne2 => ?_
              have g0 := fun p : GW _ => p.grew.cell b0
              have g1 := fun p : GW _ => p.grew.cell b1
              have g2 := fun p : GW _ => p.grew.cell c0
              repeat (go_big_quiet_step ((first
                | (go_at_call 11; exact in_grew (state_c (hs.grew (GW.grew _)) HS)))))
              refine wpQuiet_nil ?_
              clear hne2 g0 g1 g2 b0 b1 c0
              intro u hu
              replace hs := hs.grew hu
              clear hu
              go_wp2
              go_roundw
              case rel => first | exact ⟨q + 1, by omega, by go_num, hs⟩ | ((repeat apply Exists.intro); refine ⟨?_, rfl⟩; exact ⟨q + 1, by omega, by go_num, hs⟩)
              case measure => simp [intOf] <;> omega
            | false =>
              have HS : Hid (stV cs (i, g) = 1) := hst
              clear hst hh hb
              go_wp2
              refine wp_region_grow (by kernel_rfl) (by kernel_rfl) fun hne2 => ?_
              have g0 := fun p : GW _ => p.grew.cell b0
              have g1 := fun p : GW _ => p.grew.cell b1
              have g2 := fun p : GW _ => p.grew.cell c0
              repeat (go_big_quiet_step ((first
                | (go_at_call 11; exact in_grew (state_c (hs.grew (GW.grew _)) HS)))))
              refine wpQuiet_nil ?_
              clear hne2 g0 g1 g2 b0 b1 c0
              intro u hu
              replace hs := hs.grew hu
              clear hu
              go_wp2
              go_roundw
              case rel => first | exact ⟨q + 1, by omega, by go_num, hs⟩ | ((repeat apply Exists.intro); refine ⟨?_, rfl⟩; exact ⟨q + 1, by omega, by go_num, hs⟩)
              case measure => simp [intOf] <;> omega
          · go_wp2_with (first
              | (go_at_call 12; refine (awake5 (hT.grew hs.below)).mono ?_; rintro e w' ⟨rfl, hg⟩; replace hs := hs.grew hg; clear hg))
            go_ret
            exact ⟨rfl, hs.drop.drop.drop⟩
      · clear hlt
        go_wp2
        try clear h3
        try clear h4
        go_loopw [17] (fun cv wr => ∃ q : Nat, q ≤ m ∧ cv = .int .i64 (q : Nat) ∧ St w0 [AlB D (t : Int) cs, own B m capB 30 2 (hsV all), own G m capG 4 1 (bsV gone)] wr) (fun cv _ => m - (intOf cv).toNat)
        case atStart => exact ⟨0, Nat.zero_le _, rfl, hs⟩
        case round =>
          clear hs
          obtain ⟨q, hq, rfl, hs⟩ := hrel
          by_cases hqm : q < m
          · obtain ⟨gB, rfl⟩ := hs.rot.own_at (by omega)
            obtain ⟨gG, rfl⟩ := hs.up2.own_at (by omega)
            obtain ⟨⟨i, g⟩, hh⟩ : ∃ h, all[q]? = some h := ⟨_, List.getElem?_eq_getElem (by rw [HM.out]; exact hqm)⟩
            obtain ⟨bq, hb⟩ : ∃ b, gone[q]? = some b := ⟨_, List.getElem?_eq_getElem (by rw [HMG.out]; exact hqm)⟩
            have hst := HI.state hh hb
            have b0 := hsV_at (w0 := w0) (B := gB) (n := m) (cap := capB) (L := _) hh 0 _ rfl _ hs.rot
            have b1 := hsV_at (w0 := w0) (B := gB) (n := m) (cap := capB) (L := _) hh 1 _ rfl _ hs.rot
            have c0 := Rd.own (bsV_get hb) _ hs.up2
            simp only [Nat.add_zero] at b0
            cases bq with
            | true =>
              have HS : Hid (stV cs (i, g) = 0) := hst
              clear hst hh hb
              go_wp2
              refine wp_region_grow (by kernel_rfl) (by kernel_rfl) fun hne2 => ?_
              have g0 := fun p : GW _ => p.grew.cell b0
              have g1 := fun p : GW _ => p.grew.cell b1
              have g2 := fun p : GW _ => p.grew.cell c0
              repeat (go_big_quiet_step ((first
                | (go_at_call 11; exact in_grew (state_c (hs.grew (GW.grew _)) HS)))))
              refine wpQuiet_nil ?_
              clear hne2 g0 g1 g2 b0 b1 c0
              intro u hu
              replace hs := hs.grew hu
              clear hu
              go_wp2
              go_roundw
              case rel => first | exact ⟨q + 1, by omega, by go_num, hs⟩ | ((repeat apply Exists.intro); refine ⟨?_, rfl⟩; exact ⟨q + 1, by omega, by go_num, hs⟩)
              case measure => simp [intOf] <;> omega
            | false =>
              have HS : Hid (stV cs (i, g) = 1) := hst
              clear hst hh hb
              go_wp2
              refine wp_region_grow (by kernel_rfl) (by kernel_rfl) fun hne2 => ?_
              have g0 := fun p : GW _ => p.grew.cell b0
              have g1 := fun p : GW _ => p.grew.cell b1
              have g2 := fun p : GW _ => p.grew.cell c0
              repeat (go_big_quiet_step ((first
                | (go_at_call 11; exact in_grew (state_c (hs.grew (GW.grew _)) HS)))))
              refine wpQuiet_nil ?_
              clear hne2 g0 g1 g2 b0 b1 c0
              intro u hu
              replace hs := hs.grew hu
              clear hu
              go_wp2
              go_roundw
              case rel => first | exact ⟨q + 1, by omega, by go_num, hs⟩ | ((repeat apply Exists.intro); refine ⟨?_, rfl⟩; exact ⟨q + 1, by omega, by go_num, hs⟩)
              case measure => simp [intOf] <;> omega
          · go_wp2_with (first
              | (go_at_call 12; refine (awake5 (hT.grew hs.below)).mono ?_; rintro e w' ⟨rfl, hg⟩; replace hs := hs.grew hg; clear hg))
            go_ret
            exact ⟨rfl, hs.drop.drop.drop⟩
end Go.Proofs.YtkcbjkadalebjaaDoor
