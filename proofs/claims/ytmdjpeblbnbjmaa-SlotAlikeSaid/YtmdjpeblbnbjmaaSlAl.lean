/-
  SlotAlike: the walk. (Printed by gen_alike.py.)
-/
import Derived.Test.YtmdjpeblbnbjmaaSlAlC
import Derived.Deep.DeepCutAuto
import Derived.Deep.CutRange
import Derived.Deep.CutBlock
set_option maxRecDepth 100000
namespace Go.Proofs.Ytmdjpeblbnbjmaa
open Go Go.RowKit
theorem zero5o : (Try.prog.info? 72).bind (·.zero) = some (.agg (c5o ⟨0, 0, V3.z⟩).toArray) := by kernel_rfl
theorem agg5o : aggB Try.prog 72 = true := by kernel_rfl
theorem size5o (o : OpS) : (Try.prog.info? 72).map (·.size) = some (c5o o).length := by kernel_rfl
theorem size5ov (o : OpS) : (Try.prog.info? 72).map (·.size) = some (Value.agg (c5o o).toArray).cells.size := by kernel_rfl
theorem WrA.slot5o {w0 : World} {g : Nat} {u v : OpS} {t : TypeId} {L : List As} : WrA w0 (Ytmdjpeblbnbjmaa.blk g (c5o u).toArray t :: L) ⟨g, 0, none⟩ (Value.agg (c5o v).toArray).cells.toList (Ytmdjpeblbnbjmaa.blk g (c5o v).toArray t :: L) := by
  have := WrA.blk (w0 := w0) (g := g) (o := 0) (cs := c5o u) (t := t) (vs := c5o v) (L := L) (by simp [c5o]) (c5o_one v)
  rwa [splice_all (by simp [c5o])] at this
theorem elemSP : ElemOk Try.prog 70 29 1 8 := ElemOk.of Try.underlying70 (z := .pointer none) (by kernel_rfl) rfl (by decide)
theorem buildD3 (a b c : Int) (w : World) : (Instr.build 28 #[(0, .int .i64 a), (1, .int .i64 b), (2, .int .i64 c)]).run Try.prog w = .ok (val3 ⟨a, b, c⟩) w := by kernel_rfl
theorem al_desc {kk v b : Nat} (hk : 1 ≤ kk ∧ kk ≤ 3) (hv : 1 ≤ v ∧ v ≤ 4) (hb : b ≤ 1000) : descE ⟨(kk : Nat), (v : Nat), (b : Nat)⟩ = if v = 4 ∧ kk ≠ 3 then 9 else 0 := by
  unfold descE
  rw [if_pos (by simp only; omega)]
  by_cases h : v = 4 ∧ kk ≠ 3
  · rw [if_pos (by simp only; omega), if_pos h]
  · rw [if_neg (by simp only; omega), if_neg h]
theorem alK_new (k : Int) (a b a' b' : Int) (v v' : Value) (F F' : Option Nat) : AlK (newSl ⟨k, a, b⟩ v F) (newSl ⟨k, a', b'⟩ v' F') := ⟨rfl, rfl, rfl⟩
theorem St.only3 {w0 w : World} {p q r : As} {L : List As} (hs : St w0 (p :: q :: r :: L) w) : St w0 [p, q, r] w := by
  induction L with
  | nil => exact hs
  | cons s L ih => exact ih (St.drop (hs.ent (Ent.pull s [p, q, r] L)))
attribute [local irreducible] wpList Calls Code.wp okI okN pS tS memS getG pG insS delS getV pV tV okVal newSl SlS.put SlS.err SlS.putU SlS.putB descE mkD mkV SlS.take SlS.set SlS.errSet SlS.get SlS.has kdE alS alU alB alE
set_option maxHeartbeats 8000000 in
theorem slalike_c {w0 : World} (a c : Int) {va : Value} {xs : List OpS} (hva : RowsArg c5o Q5o w0 va xs) : Calls Try.prog 7 #[.int .i64 a, .int .i64 c, va] w0 (LawPost w0) := by
  obtain ⟨A, ca, rfl, hnc, hcm, hra, hQ⟩ := hva
  obtain ⟨n, hn⟩ : ∃ n, Hid (xs.length = n) := ⟨_, rfl⟩
  rw [hn.out] at hnc ⊢
  clear hcm hnc
  have HQ := Lib.hid hQ
  clear hQ
  have hs := St.start w0
  have ha := and_255 a
  have hc := and_31 c
  have hal := lo8_lt a
  have hcl := lo5_lt c
  generalize lo8 a = x at *
  generalize lo5 c = z at *
  obtain ⟨k0, hk0⟩ : ∃ k : Nat, k = x % 3 := ⟨_, rfl⟩
  have hk3 : k0 < 3 := by omega
  have hx3 : ((x : Nat) : Int).tmod 3 = (k0 : Nat) := by rw [Int.tmod_eq_emod_of_nonneg (by omega)]; omega
  obtain ⟨b, hb⟩ : ∃ n : Nat, n = z - 10 := ⟨_, rfl⟩
  have hmx : max (((z : Nat) : Int) - 10) 0 = (b : Nat) := by omega
  have hb21 : b ≤ 21 := by omega
  obtain ⟨kk, hke⟩ : ∃ kk : Nat, ((k0 : Nat) : Int) + 1 = (kk : Nat) := ⟨k0 + 1, by omega⟩
  have hkk1 : 1 ≤ kk := by omega
  have hkk3 : kk ≤ 3 := by omega
  obtain ⟨t0, HT0⟩ : ∃ t, Hid (newSl ⟨(kk : Nat), 1, (b : Nat)⟩ (.pointer none) none = t) := ⟨_, rfl⟩
  clear hk0 hb
  go_enter Try.func7, Try.ntmps7
  go_upto_region 5 with (fail)
  clear ha hc hal hcl hx3 hmx hk3 hke
  go_loopw [9, 10] (fun lv vv wr => ∃ (v m cB : Nat) (B : Option Addr) (l : List Cmp), 1 ≤ v ∧ v ≤ 5 ∧ m + 1 ≤ v ∧ lv = .slice B m cB ∧ vv = .int .i64 (v : Nat) ∧ Hid (l.length = m) ∧ Hid (AlI l 0 t0 t0 0) ∧ St w0 [own B m cB 29 1 (rgP l), Sls l] wr) (fun _ vv _ => 5 - (intOf vv).toNat)
  case atStart => exact ⟨1, 0, 0, none, [], Nat.le_refl _, by decide, by decide, rfl, rfl, rfl, AlI.nil _ _, hs.slsNil.own_nil 29 1⟩
  case round =>
    clear hs
    obtain ⟨v, m, cB, B, l, hv1, hv5, hmv, rfl, rfl, hl, HI, hs⟩ := hrel
    by_cases hlt : v ≤ 4
    · have hE := al_desc (b := b) ⟨hkk1, hkk3⟩ ⟨hv1, hlt⟩ (by omega)
      by_cases h9 : v = 4 ∧ kk ≠ 3
      · obtain ⟨rfl, hkk⟩ := h9
        have hkl : kk < 3 := by omega
        rw [if_pos ⟨rfl, hkk⟩] at hE
        have HE := Lib.hid hE
        clear hE
        go_wp2_with (first
          | (refine wpl_buildS (buildD3 _ _ _) rfl ?_)
          | (go_at_call 15; refine (sl_new_no ⟨(kk : Nat), 4, (b : Nat)⟩ HE (by decide)).mono ?_; rintro r w ⟨rfl, hg⟩; replace hs := hs.grew hg; clear hg))
        go_roundw
        case rel => exact ⟨5, m, cB, B, l, by decide, by decide, by omega, rfl, by first | rfl | go_num, hl, HI, hs⟩
        case measure => simp [intOf] <;> omega
      · rw [if_neg h9] at hE
        have HE := Lib.hid hE
        clear hE h9
        go_wp2_with (first
          | (refine wpl_buildS (buildD3 _ _ _) rfl ?_)
          | (go_at_call 15; refine (sl_new hs ⟨(kk : Nat), (v : Nat), (b : Nat)⟩ HE).mono ?_; clear hs; rintro r w ⟨X, pv, F, rfl, hs⟩)
          | (refine wpl_build1 (v := .pointer (some ⟨X, 0, none⟩)) elemSP (by decide) rfl rfl hs ?_; clear hs; intro G w hs)
          | (refine wpl_append (A := B) (n := m) (cap := cB) (xs := rgP l) (m := 1) (news := [.pointer (some ⟨X, 0, none⟩)]) elemSP rfl rfl hs (L' := blk G (Value.pointer (some ⟨X, 0, none⟩)).cells 29 :: SlB X (newSl ⟨(kk : Nat), (v : Nat), (b : Nat)⟩ pv F) :: [Sls l]) (by (repeat first | exact Ent.refl _ | refine Ent.step (by first | exact Ent.refl _ | exact Ent.skip (Ent.refl _) | exact Ent.skip (Ent.skip (Ent.refl _)) | exact Ent.skip (Ent.skip (Ent.skip (Ent.refl _))) | exact Ent.skip (Ent.skip (Ent.skip (Ent.skip (Ent.refl _)))) | exact Ent.skip (Ent.skip (Ent.skip (Ent.skip (Ent.skip (Ent.refl _))))) | exact Ent.skip (Ent.skip (Ent.skip (Ent.skip (Ent.skip (Ent.skip (Ent.refl _)))))) | exact Ent.skip (Ent.skip (Ent.skip (Ent.skip (Ent.skip (Ent.skip (Ent.skip (Ent.refl _))))))) | exact Ent.skip (Ent.skip (Ent.skip (Ent.skip (Ent.skip (Ent.skip (Ent.skip (Ent.skip (Ent.refl _)))))))) | exact Ent.skip (Ent.skip (Ent.skip (Ent.skip (Ent.skip (Ent.skip (Ent.skip (Ent.skip (Ent.skip (Ent.refl _)))))))))) ?_)) RdS.blk rfl (by simp; rfl) (by unfold maxLen; omega) (by omega) ?_; clear hs; intro B3 cap3 w hs))
        have hlN : Hid ((l ++ [(X, newSl ⟨(kk : Nat), (v : Nat), (b : Nat)⟩ pv F)]).length = m + 1) := by rw [Hid, List.length_append, hl.out]; rfl
        have HIN : Hid (AlI (l ++ [(X, newSl ⟨(kk : Nat), (v : Nat), (b : Nat)⟩ pv F)]) 0 t0 t0 0) := HI.out.add (by rw [← HT0.out]; exact alK_new _ _ _ _ _ _ _ _ _)
        have hsN : St w0 [own B3 (m + 1) cap3 29 1 (rgP (l ++ [(X, newSl ⟨(kk : Nat), (v : Nat), (b : Nat)⟩ pv F)])), Sls (l ++ [(X, newSl ⟨(kk : Nat), (v : Nat), (b : Nat)⟩ pv F)])] w := by
          rw [rgP_append]
          exact ((hs.rot.drop).rot.ent (Ent.cons _ (Ent.refl _)) |>.ent (M := SlB X (newSl ⟨(kk : Nat), (v : Nat), (b : Nat)⟩ pv F) :: Sls l :: [own B3 (m + 1) cap3 29 1 (rgP l ++ rgP [(X, newSl ⟨(kk : Nat), (v : Nat), (b : Nat)⟩ pv F)])]) (by (repeat first | exact Ent.refl _ | refine Ent.step (by first | exact Ent.refl _ | exact Ent.skip (Ent.refl _) | exact Ent.skip (Ent.skip (Ent.refl _)) | exact Ent.skip (Ent.skip (Ent.skip (Ent.refl _))) | exact Ent.skip (Ent.skip (Ent.skip (Ent.skip (Ent.refl _)))) | exact Ent.skip (Ent.skip (Ent.skip (Ent.skip (Ent.skip (Ent.refl _))))) | exact Ent.skip (Ent.skip (Ent.skip (Ent.skip (Ent.skip (Ent.skip (Ent.refl _)))))) | exact Ent.skip (Ent.skip (Ent.skip (Ent.skip (Ent.skip (Ent.skip (Ent.skip (Ent.refl _))))))) | exact Ent.skip (Ent.skip (Ent.skip (Ent.skip (Ent.skip (Ent.skip (Ent.skip (Ent.skip (Ent.refl _)))))))) | exact Ent.skip (Ent.skip (Ent.skip (Ent.skip (Ent.skip (Ent.skip (Ent.skip (Ent.skip (Ent.skip (Ent.refl _)))))))))) ?_)) |>.ent Ent.slsAdd).rot
        clear hs
        go_roundw
        case rel => exact ⟨v + 1, m + 1, cap3, B3, _, by omega, by omega, by omega, rfl, by first | rfl | go_num, hlN, HIN, hsN⟩
        case measure => simp [intOf] <;> omega
    · have hm4 : m ≤ 4 := by omega
      clear hv1 hmv
      go_upto_region 13 with (fail)
      go_loopw [13] (fun iv wr => ∃ (i : Nat) (l1 : List Cmp) (t : SlS), i ≤ n ∧ i ≤ 80 ∧ iv = .int .i64 (i : Nat) ∧ Hid (l1.length = m) ∧ Hid (AlI l1 0 t t i) ∧ St w0 [own B m cB 29 1 (rgP l1), Sls l1] wr) (fun iv _ => 80 - (intOf iv).toNat)
      case atStart => exact ⟨0, l, t0, Nat.zero_le _, by decide, rfl, hl, HI, hs⟩
      case round =>
        clear hs hl HI HT0
        obtain ⟨i, l1, t, hi, hi80, rfl, hl1, HI, hs⟩ := hrel
        go_upto_region 13 with (fail)
        go_cut [70] (fun bv wx => ∃ bb : Bool, bv = .bool bb ∧ Hid (bb = decide (i < n ∧ i < 80)) ∧ wr = wx)
        case first =>
          by_cases h1 : i < n
          · by_cases h2 : i < 80
            · go_wp2
              go_meet
              exact ⟨true, congrArg Value.bool (decide_eq_true (by omega)), by simp [Hid, h1, h2], rfl⟩
            · go_wp2
              go_meet
              exact ⟨false, congrArg Value.bool (decide_eq_false (by omega)), by simp [Hid, h1, h2], rfl⟩
          · go_wp2
            go_meet
            exact ⟨false, rfl, by simp [Hid, h1], rfl⟩
        case rest =>
        obtain ⟨bb, rfl, hbb, rfl⟩ := hcut
        cases bb
        case false =>
          go_wp2_with (first
            | (go_at_call 20; refine awake11.mono ?_; rintro r w ⟨rfl, hg⟩; replace hs := hs.grew hg; clear hg))
          go_ret
          exact ⟨rfl, hs.drop.drop⟩
        case true =>
          obtain ⟨hin, hi79⟩ := of_decide_eq_true hbb.out.symm
          clear hbb
          obtain ⟨o, ho⟩ : ∃ o, xs[i]? = some o := ⟨_, List.getElem?_eq_getElem (by rw [hn.out]; exact hin)⟩
          have HWF : (Lit.int .i64 o.i).wf = true := HQ.out o (List.mem_of_getElem? ho)
          have hcell := fun j x hx => hra.get (rows_get (C := 5) (encX := c5o) (fun _ => rfl) ho j x hx)
          obtain ⟨b9, off, rfl, _⟩ := hcell 0 _ rfl
          have hld : ∀ j x, (c5o o)[j]? = some x → Rd w0 [] ⟨b9, off + i * 5 + j, none⟩ x := fun j x hx => by
            obtain ⟨b', o', he, hr⟩ := hcell j x hx
            injection he with he
            injection he with e1 e2
            subst e1; subst e2
            rw [Nat.add_assoc]; exact hr
          clear hcell ho
          obtain ⟨ok, oi, ov⟩ := o
          obtain ⟨x, HX⟩ : ∃ x, Hid (mkV (kk : Nat) ov.a ov.b = x) := ⟨_, rfl⟩
          go_upto_region 16 with (first
            | (refine wpl_load_agg (cs := c5o ⟨ok, oi, ov⟩) (b := b9) (o := off + i * 5) rfl agg5o (size5o _) hs ?hh ?_; case hh => exact fun j x hx => (hld j x hx).tail.tail)
            | (refine wpl_alloc zero5o hs ?_; clear hs; intro g14 w hs)
            | (refine wpl_store_agg (v := .agg (c5o ⟨ok, oi, ov⟩).toArray) rfl rfl (size5ov _) hs WrA.slot5o ?_; clear hs; intro w hs))
          simp only [Act.put, List.setIfInBounds_toArray, List.set_cons_succ, List.set_cons_zero]
          clear hld
          have f3 := (Rd.blk (w0 := w0) (g := g14) (k := 3) (cs := (c5o ⟨ok, oi, ov⟩).toArray) (t := 72) (v := .int .i64 ov.a) rfl) _ hs
          have f4 := (Rd.blk (w0 := w0) (g := g14) (k := 4) (cs := (c5o ⟨ok, oi, ov⟩).toArray) (t := 72) (v := .int .i64 ov.b) rfl) _ hs
          go_upto_region 18 with (first
            | (go_at_call 24; refine (lvalue_c _ _ _ HX).mono ?_; rintro r w ⟨rfl, hg⟩; replace hs := hs.grew hg; clear hg f3 f4)
            | (refine wpl_alloc zero3 hs ?_; clear hs; intro g15 w hs; refine wpl_store_agg (v := val3 x) rfl rfl (size3 _) hs WrA.slot3 ?_; clear hs; intro w hs)
            | (refine wpl_alloc zero3 hs ?_; clear hs; intro g16 w hs))
          simp only [Act.put, List.setIfInBounds_toArray, List.set_cons_succ, List.set_cons_zero]
          replace hs : St w0 [own B m cB 29 1 (rgP l1), blk g14 (c5o ⟨ok, oi, ov⟩).toArray 72, blk g15 (c3 x).toArray 40, Sls l1, blk g16 (c3 V3.z).toArray 40] _ := hs.ent (by (repeat first | exact Ent.refl _ | refine Ent.step (by first | exact Ent.refl _ | exact Ent.skip (Ent.refl _) | exact Ent.skip (Ent.skip (Ent.refl _)) | exact Ent.skip (Ent.skip (Ent.skip (Ent.refl _))) | exact Ent.skip (Ent.skip (Ent.skip (Ent.skip (Ent.refl _)))) | exact Ent.skip (Ent.skip (Ent.skip (Ent.skip (Ent.skip (Ent.refl _))))) | exact Ent.skip (Ent.skip (Ent.skip (Ent.skip (Ent.skip (Ent.skip (Ent.refl _)))))) | exact Ent.skip (Ent.skip (Ent.skip (Ent.skip (Ent.skip (Ent.skip (Ent.skip (Ent.refl _))))))) | exact Ent.skip (Ent.skip (Ent.skip (Ent.skip (Ent.skip (Ent.skip (Ent.skip (Ent.skip (Ent.refl _)))))))) | exact Ent.skip (Ent.skip (Ent.skip (Ent.skip (Ent.skip (Ent.skip (Ent.skip (Ent.skip (Ent.skip (Ent.refl _)))))))))) ?_))
          obtain ⟨t', HT'⟩ : ∃ u, Hid (alS ok oi x t = u) := ⟨_, rfl⟩
          obtain ⟨q, HQQ⟩ : ∃ u, Hid (alU ok oi x t = u) := ⟨_, rfl⟩
          obtain ⟨hb, HHB⟩ : ∃ u, Hid (alB ok oi x t = u) := ⟨_, rfl⟩
          obtain ⟨e, HEE⟩ : ∃ u, Hid (alE ok oi x t = u) := ⟨_, rfl⟩
          have HI1 : Hid (AlI l1 0 t t' i) := HI.out.more
          go_upto_region 21 with (fail)
          go_loopw [17, 18, 19] (fun hv ev kv wr => ∃ (k : Nat) (l2 : List Cmp) (p0 : V3) (hv0 : Bool) (ev0 : Int), k ≤ m ∧ hv = .bool hv0 ∧ ev = .int .i64 ev0 ∧ kv = .int .i64 (k : Nat) ∧ Hid (0 < k → p0 = q ∧ hv0 = hb ∧ ev0 = e) ∧ Hid (l2.length = m) ∧ Hid (AlI l2 k t t' i) ∧ St w0 [own B m cB 29 1 (rgP l2), blk g14 (c5o ⟨ok, oi, ov⟩).toArray 72, blk g15 (c3 x).toArray 40, Sls l2, blk g16 (c3 p0).toArray 40] wr) (fun _ _ kv _ => m - (intOf kv).toNat)
          case atStart => exact ⟨0, l1, V3.z, false, 0, Nat.zero_le _, rfl, rfl, rfl, (by intro h; cases h), hl1, HI1, hs⟩
          case round =>
            clear hs HI HI1 hl1
            obtain ⟨k, l2, p0, hv0, ev0, hk, rfl, rfl, rfl, HK, hl2, HI, hs⟩ := hrel
            by_cases hkm : k < m
            · obtain ⟨y, hy⟩ : ∃ y, l2[k]? = some y := ⟨_, List.getElem?_eq_getElem (by rw [hl2.out]; exact hkm)⟩
              obtain ⟨X, s⟩ := y
              obtain ⟨hak, hev⟩ := HI.out.now hy
              have HC := Lib.hid hy
              have HEV : Hid (s.evs.length < 4611686018427387904) := by rw [Hid]; omega
              obtain ⟨hc1, hc2, hc3, hc4⟩ := hak.call ok oi x
              have HQ1 : Hid (alU ok oi x s = q) := by rw [Hid, hc2]; exact HQQ.out
              have HB1 : Hid (alB ok oi x s = hb) := by rw [Hid, hc3]; exact HHB.out
              have HE1 : Hid (alE ok oi x s = e) := by rw [Hid, hc4]; exact HEE.out
              obtain ⟨s', HS1⟩ : ∃ u, Hid (alS ok oi x s = u) := ⟨_, rfl⟩
              have HA1 : Hid (AlK s' t') := by rw [Hid, ← HS1.out, ← HT'.out]; exact hc1
              have HL1 : Hid (s'.evs.length ≤ s.evs.length + 1) := by rw [Hid, ← HS1.out]; exact alS_le _ _ _ _
              obtain ⟨pv, HPV⟩ : ∃ u, Hid (s.pv = u) := ⟨_, rfl⟩
              have HPV1 : Hid (s'.pv = pv) := by rw [Hid, ← HS1.out, ← HPV.out]; exact alS_pv _ _ _ _
              clear hy hak hev hc1 hc2 hc3 hc4
              obtain ⟨gB, rfl⟩ := hs.own_at (by omega)
              have f0 := fun L => (Rd.blk (w0 := w0) (g := g14) (k := 0) (cs := (c5o ⟨ok, oi, ov⟩).toArray) (t := 72) (L := L) (v := .int .i64 ok) rfl)
              go_upto_region 26 with (first
                | (refine wpl_alloc zero3 hs ?_; clear hs; intro g20 w hs))
              replace hs : St w0 [own (some ⟨gB, 0, none⟩) m cB 29 1 (rgP l2), blk g14 (c5o ⟨ok, oi, ov⟩).toArray 72, blk g15 (c3 x).toArray 40, Sls l2, blk g16 (c3 p0).toArray 40, blk g20 (c3 V3.z).toArray 40] _ := hs.ent (by (repeat first | exact Ent.refl _ | refine Ent.step (by first | exact Ent.refl _ | exact Ent.skip (Ent.refl _) | exact Ent.skip (Ent.skip (Ent.refl _)) | exact Ent.skip (Ent.skip (Ent.skip (Ent.refl _))) | exact Ent.skip (Ent.skip (Ent.skip (Ent.skip (Ent.refl _)))) | exact Ent.skip (Ent.skip (Ent.skip (Ent.skip (Ent.skip (Ent.refl _))))) | exact Ent.skip (Ent.skip (Ent.skip (Ent.skip (Ent.skip (Ent.skip (Ent.refl _)))))) | exact Ent.skip (Ent.skip (Ent.skip (Ent.skip (Ent.skip (Ent.skip (Ent.skip (Ent.refl _))))))) | exact Ent.skip (Ent.skip (Ent.skip (Ent.skip (Ent.skip (Ent.skip (Ent.skip (Ent.skip (Ent.refl _)))))))) | exact Ent.skip (Ent.skip (Ent.skip (Ent.skip (Ent.skip (Ent.skip (Ent.skip (Ent.skip (Ent.skip (Ent.refl _)))))))))) ?_))
              have f0' := f0 _ _ hs.drop
              go_upto_block 6 with (fail)
              clear f0' f0
              go_cut [21, 22] (fun a1 a2 wx => a1 = .bool hb ∧ a2 = .int .i64 e ∧ St w0 [own (some ⟨gB, 0, none⟩) m cB 29 1 (rgP l2), blk g14 (c5o ⟨ok, oi, ov⟩).toArray 72, blk g15 (c3 x).toArray 40, Sls (l2.set k (X, s')), blk g16 (c3 p0).toArray 40, blk g20 (c3 q).toArray 40] wx)
              case first =>
                clear HK HI HL1 HA1 HPV1
                by_cases h0 : ok = 0
                · subst h0
                  rw [(al_0 oi x s).1] at HS1
                  rw [(al_0 oi x s).2.1] at HQ1
                  rw [(al_0 oi x s).2.2.1] at HB1
                  rw [(al_0 oi x s).2.2.2] at HE1
                  have HU : Hid (s.putU oi x = q) := HQ1
                  have HB : Hid (s.putB oi x = hb) := HB1
                  have HE : Hid (s.err oi x = e) := HE1
                  have HS : Hid (s.put oi x = s') := HS1
                  clear HQ1 HB1 HE1 HS1
                  go_upto_region 29 with (fail)
                  refine wp_all_plain (n := 8) [false, false, false, false, false, false, false, true, true, true, true, true, true, true, true] hs.only3 (by kernel_rfl) (by kernel_rfl) (by kernel_rfl) fun hne => ?_
                  have c1 := (Rd.own (w0 := w0) (g := gB) (n := m) (cap := cB) (e := 29) (size := 1) (L := [blk g14 (c5o ⟨0, oi, ov⟩).toArray 72, blk g15 (c3 x).toArray 40]) (rgP_get HC.out)).alln
                  have c2 := ((Rd.blk (w0 := w0) (g := g14) (k := 1) (cs := (c5o ⟨0, oi, ov⟩).toArray) (t := 72) (L := [blk g15 (c3 x).toArray 40]) (v := .int .i64 oi) rfl).tail (p := own (some ⟨gB, 0, none⟩) m cB 29 1 (rgP l2))).alln
                  have c3x := (((Rd.blk (w0 := w0) (g := g15) (k := 0) (cs := (c3 x).toArray) (t := 40) (L := []) (v := .int .i64 x.k) rfl).tail (p := blk g14 (c5o ⟨0, oi, ov⟩).toArray 72)).tail (p := own (some ⟨gB, 0, none⟩) m cB 29 1 (rgP l2))).alln
                  have c4x := (((Rd.blk (w0 := w0) (g := g15) (k := 1) (cs := (c3 x).toArray) (t := 40) (L := []) (v := .int .i64 x.a) rfl).tail (p := blk g14 (c5o ⟨0, oi, ov⟩).toArray 72)).tail (p := own (some ⟨gB, 0, none⟩) m cB 29 1 (rgP l2))).alln
                  have c5x := (((Rd.blk (w0 := w0) (g := g15) (k := 2) (cs := (c3 x).toArray) (t := 40) (L := []) (v := .int .i64 x.b) rfl).tail (p := blk g14 (c5o ⟨0, oi, ov⟩).toArray 72)).tail (p := own (some ⟨gB, 0, none⟩) m cB 29 1 (rgP l2))).alln
                  simp only [pickOps]
                  repeat (go_big_quiet_step (fail))
                  refine wpQuiet_nil ?_
                  clear hne c1 c2 c3x c4x c5x
                  replace hs := hs.drew
                  refine wpAllP_next [7] (by kernel_rfl) (fun c hc => ?_)
                  simp only [List.mem_singleton] at hc
                  subst hc
                  refine ⟨_, rfl, ?_⟩
                  go_wp2_with (first
                    | (go_at_call 18; refine (sls_put (hs.ent (M := Sls l2 :: own (some ⟨gB, 0, none⟩) m cB 29 1 (rgP l2) :: blk g14 (c5o ⟨0, oi, ov⟩).toArray 72 :: blk g15 (c3 x).toArray 40 :: blk g16 (c3 p0).toArray 40 :: blk g20 (c3 V3.z).toArray 40 :: []) (by (repeat first | exact Ent.refl _ | refine Ent.step (by first | exact Ent.refl _ | exact Ent.skip (Ent.refl _) | exact Ent.skip (Ent.skip (Ent.refl _)) | exact Ent.skip (Ent.skip (Ent.skip (Ent.refl _))) | exact Ent.skip (Ent.skip (Ent.skip (Ent.skip (Ent.refl _)))) | exact Ent.skip (Ent.skip (Ent.skip (Ent.skip (Ent.skip (Ent.refl _))))) | exact Ent.skip (Ent.skip (Ent.skip (Ent.skip (Ent.skip (Ent.skip (Ent.refl _)))))) | exact Ent.skip (Ent.skip (Ent.skip (Ent.skip (Ent.skip (Ent.skip (Ent.skip (Ent.refl _))))))) | exact Ent.skip (Ent.skip (Ent.skip (Ent.skip (Ent.skip (Ent.skip (Ent.skip (Ent.skip (Ent.refl _)))))))) | exact Ent.skip (Ent.skip (Ent.skip (Ent.skip (Ent.skip (Ent.skip (Ent.skip (Ent.skip (Ent.skip (Ent.refl _)))))))))) ?_))) HC HEV.out HU HB HE HS).mono ?_; clear hs; rintro r w ⟨rfl, hs⟩))
                  replace hs : St w0 (own (some ⟨gB, 0, none⟩) m cB 29 1 (rgP l2) :: blk g14 (c5o ⟨0, oi, ov⟩).toArray 72 :: blk g15 (c3 x).toArray 40 :: Sls (l2.set k (X, s')) :: blk g16 (c3 p0).toArray 40 :: blk g20 (c3 V3.z).toArray 40 :: []) w := hs.ent (by (repeat first | exact Ent.refl _ | refine Ent.step (by first | exact Ent.refl _ | exact Ent.skip (Ent.refl _) | exact Ent.skip (Ent.skip (Ent.refl _)) | exact Ent.skip (Ent.skip (Ent.skip (Ent.refl _))) | exact Ent.skip (Ent.skip (Ent.skip (Ent.skip (Ent.refl _)))) | exact Ent.skip (Ent.skip (Ent.skip (Ent.skip (Ent.skip (Ent.refl _))))) | exact Ent.skip (Ent.skip (Ent.skip (Ent.skip (Ent.skip (Ent.skip (Ent.refl _)))))) | exact Ent.skip (Ent.skip (Ent.skip (Ent.skip (Ent.skip (Ent.skip (Ent.skip (Ent.refl _))))))) | exact Ent.skip (Ent.skip (Ent.skip (Ent.skip (Ent.skip (Ent.skip (Ent.skip (Ent.skip (Ent.refl _)))))))) | exact Ent.skip (Ent.skip (Ent.skip (Ent.skip (Ent.skip (Ent.skip (Ent.skip (Ent.skip (Ent.skip (Ent.refl _)))))))))) ?_))
                  refine ⟨hs.only3, ?_⟩
                  refine wpAllP_next [8] (by kernel_rfl) (fun c hc => ?_)
                  simp only [List.mem_singleton] at hc
                  subst hc
                  refine ⟨_, rfl, ?_⟩
                  go_wp2
                  refine ⟨hs.only3, ?_⟩
                  refine wpAllP_next [9, 10, 11] (by kernel_rfl) (fun c hc => ?_)
                  simp only [List.mem_cons, List.not_mem_nil, or_false] at hc
                  rcases hc with rfl | rfl | rfl
                  · skip
                    refine ⟨_, rfl, ?_⟩
                    go_wp2
                    refine ⟨hs.only3, ?_⟩
                    refine wpAllP_next [10, 11, 12] (by kernel_rfl) (fun c hc => ?_)
                    simp only [List.mem_cons, List.not_mem_nil, or_false] at hc
                    rcases hc with rfl | rfl | rfl
                    · skip
                      refine ⟨_, rfl, ?_⟩
                      go_wp2
                      refine ⟨hs.only3, ?_⟩
                      refine wpAllP_next [11, 12] (by kernel_rfl) (fun c hc => ?_)
                      simp only [List.mem_cons, List.not_mem_nil, or_false] at hc
                      rcases hc with rfl | rfl
                      · skip
                        refine ⟨_, rfl, ?_⟩
                        go_wp2
                        refine ⟨hs.only3, ?_⟩
                        refine wpAllP_next [12] (by kernel_rfl) (fun c hc => ?_)
                        simp only [List.mem_singleton] at hc
                        subst hc
                        refine ⟨_, rfl, ?_⟩
                        refine wpl_store_agg (v := val3 q) rfl rfl (size3 _) (hs.ent (M := blk g20 (c3 V3.z).toArray 40 :: own (some ⟨gB, 0, none⟩) m cB 29 1 (rgP l2) :: blk g14 (c5o ⟨0, oi, ov⟩).toArray 72 :: blk g15 (c3 x).toArray 40 :: Sls (l2.set k (X, s')) :: blk g16 (c3 p0).toArray 40 :: []) (by (repeat first | exact Ent.refl _ | refine Ent.step (by first | exact Ent.refl _ | exact Ent.skip (Ent.refl _) | exact Ent.skip (Ent.skip (Ent.refl _)) | exact Ent.skip (Ent.skip (Ent.skip (Ent.refl _))) | exact Ent.skip (Ent.skip (Ent.skip (Ent.skip (Ent.refl _)))) | exact Ent.skip (Ent.skip (Ent.skip (Ent.skip (Ent.skip (Ent.refl _))))) | exact Ent.skip (Ent.skip (Ent.skip (Ent.skip (Ent.skip (Ent.skip (Ent.refl _)))))) | exact Ent.skip (Ent.skip (Ent.skip (Ent.skip (Ent.skip (Ent.skip (Ent.skip (Ent.refl _))))))) | exact Ent.skip (Ent.skip (Ent.skip (Ent.skip (Ent.skip (Ent.skip (Ent.skip (Ent.skip (Ent.refl _)))))))) | exact Ent.skip (Ent.skip (Ent.skip (Ent.skip (Ent.skip (Ent.skip (Ent.skip (Ent.skip (Ent.skip (Ent.refl _)))))))))) ?_))) WrA.slot3 ?_
                        clear hs
                        intro w hs
                        replace hs : St w0 (own (some ⟨gB, 0, none⟩) m cB 29 1 (rgP l2) :: blk g14 (c5o ⟨0, oi, ov⟩).toArray 72 :: blk g15 (c3 x).toArray 40 :: Sls (l2.set k (X, s')) :: blk g16 (c3 p0).toArray 40 :: blk g20 (c3 q).toArray 40 :: []) w := hs.ent (by (repeat first | exact Ent.refl _ | refine Ent.step (by first | exact Ent.refl _ | exact Ent.skip (Ent.refl _) | exact Ent.skip (Ent.skip (Ent.refl _)) | exact Ent.skip (Ent.skip (Ent.skip (Ent.refl _))) | exact Ent.skip (Ent.skip (Ent.skip (Ent.skip (Ent.refl _)))) | exact Ent.skip (Ent.skip (Ent.skip (Ent.skip (Ent.skip (Ent.refl _))))) | exact Ent.skip (Ent.skip (Ent.skip (Ent.skip (Ent.skip (Ent.skip (Ent.refl _)))))) | exact Ent.skip (Ent.skip (Ent.skip (Ent.skip (Ent.skip (Ent.skip (Ent.skip (Ent.refl _))))))) | exact Ent.skip (Ent.skip (Ent.skip (Ent.skip (Ent.skip (Ent.skip (Ent.skip (Ent.skip (Ent.refl _)))))))) | exact Ent.skip (Ent.skip (Ent.skip (Ent.skip (Ent.skip (Ent.skip (Ent.skip (Ent.skip (Ent.skip (Ent.refl _)))))))))) ?_))
                        refine wpList_nil ⟨rfl, hs.only3, ?_⟩
                        refine wpAllP_next [13] (by kernel_rfl) (fun c hc => ?_)
                        simp only [List.mem_singleton] at hc
                        subst hc
                        refine ⟨_, rfl, ?_⟩
                        go_wp2
                        refine ⟨hs.only3, ?_⟩
                        refine wpAll_last [14] (by kernel_rfl) (fun c hc => ?_)
                        simp only [List.mem_singleton] at hc
                        subst hc
                        refine ⟨_, rfl, ?_⟩
                        go_wp2
                        go_meet
                        first | exact ⟨rfl, rfl, hs.ent (by (repeat first | exact Ent.refl _ | refine Ent.step (by first | exact Ent.refl _ | exact Ent.skip (Ent.refl _) | exact Ent.skip (Ent.skip (Ent.refl _)) | exact Ent.skip (Ent.skip (Ent.skip (Ent.refl _))) | exact Ent.skip (Ent.skip (Ent.skip (Ent.skip (Ent.refl _)))) | exact Ent.skip (Ent.skip (Ent.skip (Ent.skip (Ent.skip (Ent.refl _))))) | exact Ent.skip (Ent.skip (Ent.skip (Ent.skip (Ent.skip (Ent.skip (Ent.refl _)))))) | exact Ent.skip (Ent.skip (Ent.skip (Ent.skip (Ent.skip (Ent.skip (Ent.skip (Ent.refl _))))))) | exact Ent.skip (Ent.skip (Ent.skip (Ent.skip (Ent.skip (Ent.skip (Ent.skip (Ent.skip (Ent.refl _)))))))) | exact Ent.skip (Ent.skip (Ent.skip (Ent.skip (Ent.skip (Ent.skip (Ent.skip (Ent.skip (Ent.skip (Ent.refl _)))))))))) ?_))⟩ | exact ⟨rfl, rfl, by rw [show l2.set k (X, s') = l2 from by rw [← HS.out]; exact set_same3 HC.out]; exact hs.ent (by (repeat first | exact Ent.refl _ | refine Ent.step (by first | exact Ent.refl _ | exact Ent.skip (Ent.refl _) | exact Ent.skip (Ent.skip (Ent.refl _)) | exact Ent.skip (Ent.skip (Ent.skip (Ent.refl _))) | exact Ent.skip (Ent.skip (Ent.skip (Ent.skip (Ent.refl _)))) | exact Ent.skip (Ent.skip (Ent.skip (Ent.skip (Ent.skip (Ent.refl _))))) | exact Ent.skip (Ent.skip (Ent.skip (Ent.skip (Ent.skip (Ent.skip (Ent.refl _)))))) | exact Ent.skip (Ent.skip (Ent.skip (Ent.skip (Ent.skip (Ent.skip (Ent.skip (Ent.refl _))))))) | exact Ent.skip (Ent.skip (Ent.skip (Ent.skip (Ent.skip (Ent.skip (Ent.skip (Ent.skip (Ent.refl _)))))))) | exact Ent.skip (Ent.skip (Ent.skip (Ent.skip (Ent.skip (Ent.skip (Ent.skip (Ent.skip (Ent.skip (Ent.refl _)))))))))) ?_))⟩
                      · skip
                        refine ⟨_, rfl, ?_⟩
                        refine wpl_store_agg (v := val3 q) rfl rfl (size3 _) (hs.ent (M := blk g20 (c3 V3.z).toArray 40 :: own (some ⟨gB, 0, none⟩) m cB 29 1 (rgP l2) :: blk g14 (c5o ⟨0, oi, ov⟩).toArray 72 :: blk g15 (c3 x).toArray 40 :: Sls (l2.set k (X, s')) :: blk g16 (c3 p0).toArray 40 :: []) (by (repeat first | exact Ent.refl _ | refine Ent.step (by first | exact Ent.refl _ | exact Ent.skip (Ent.refl _) | exact Ent.skip (Ent.skip (Ent.refl _)) | exact Ent.skip (Ent.skip (Ent.skip (Ent.refl _))) | exact Ent.skip (Ent.skip (Ent.skip (Ent.skip (Ent.refl _)))) | exact Ent.skip (Ent.skip (Ent.skip (Ent.skip (Ent.skip (Ent.refl _))))) | exact Ent.skip (Ent.skip (Ent.skip (Ent.skip (Ent.skip (Ent.skip (Ent.refl _)))))) | exact Ent.skip (Ent.skip (Ent.skip (Ent.skip (Ent.skip (Ent.skip (Ent.skip (Ent.refl _))))))) | exact Ent.skip (Ent.skip (Ent.skip (Ent.skip (Ent.skip (Ent.skip (Ent.skip (Ent.skip (Ent.refl _)))))))) | exact Ent.skip (Ent.skip (Ent.skip (Ent.skip (Ent.skip (Ent.skip (Ent.skip (Ent.skip (Ent.skip (Ent.refl _)))))))))) ?_))) WrA.slot3 ?_
                        clear hs
                        intro w hs
                        replace hs : St w0 (own (some ⟨gB, 0, none⟩) m cB 29 1 (rgP l2) :: blk g14 (c5o ⟨0, oi, ov⟩).toArray 72 :: blk g15 (c3 x).toArray 40 :: Sls (l2.set k (X, s')) :: blk g16 (c3 p0).toArray 40 :: blk g20 (c3 q).toArray 40 :: []) w := hs.ent (by (repeat first | exact Ent.refl _ | refine Ent.step (by first | exact Ent.refl _ | exact Ent.skip (Ent.refl _) | exact Ent.skip (Ent.skip (Ent.refl _)) | exact Ent.skip (Ent.skip (Ent.skip (Ent.refl _))) | exact Ent.skip (Ent.skip (Ent.skip (Ent.skip (Ent.refl _)))) | exact Ent.skip (Ent.skip (Ent.skip (Ent.skip (Ent.skip (Ent.refl _))))) | exact Ent.skip (Ent.skip (Ent.skip (Ent.skip (Ent.skip (Ent.skip (Ent.refl _)))))) | exact Ent.skip (Ent.skip (Ent.skip (Ent.skip (Ent.skip (Ent.skip (Ent.skip (Ent.refl _))))))) | exact Ent.skip (Ent.skip (Ent.skip (Ent.skip (Ent.skip (Ent.skip (Ent.skip (Ent.skip (Ent.refl _)))))))) | exact Ent.skip (Ent.skip (Ent.skip (Ent.skip (Ent.skip (Ent.skip (Ent.skip (Ent.skip (Ent.skip (Ent.refl _)))))))))) ?_))
                        refine wpList_nil ⟨rfl, hs.only3, ?_⟩
                        refine wpAllP_next [11, 13] (by kernel_rfl) (fun c hc => ?_)
                        simp only [List.mem_cons, List.not_mem_nil, or_false] at hc
                        rcases hc with rfl | rfl
                        · skip
                          refine ⟨_, rfl, ?_⟩
                          go_wp2
                          refine ⟨hs.only3, ?_⟩
                          refine wpAllP_next [13] (by kernel_rfl) (fun c hc => ?_)
                          simp only [List.mem_singleton] at hc
                          subst hc
                          refine ⟨_, rfl, ?_⟩
                          go_wp2
                          refine ⟨hs.only3, ?_⟩
                          refine wpAll_last [14] (by kernel_rfl) (fun c hc => ?_)
                          simp only [List.mem_singleton] at hc
                          subst hc
                          refine ⟨_, rfl, ?_⟩
                          go_wp2
                          go_meet
                          first | exact ⟨rfl, rfl, hs.ent (by (repeat first | exact Ent.refl _ | refine Ent.step (by first | exact Ent.refl _ | exact Ent.skip (Ent.refl _) | exact Ent.skip (Ent.skip (Ent.refl _)) | exact Ent.skip (Ent.skip (Ent.skip (Ent.refl _))) | exact Ent.skip (Ent.skip (Ent.skip (Ent.skip (Ent.refl _)))) | exact Ent.skip (Ent.skip (Ent.skip (Ent.skip (Ent.skip (Ent.refl _))))) | exact Ent.skip (Ent.skip (Ent.skip (Ent.skip (Ent.skip (Ent.skip (Ent.refl _)))))) | exact Ent.skip (Ent.skip (Ent.skip (Ent.skip (Ent.skip (Ent.skip (Ent.skip (Ent.refl _))))))) | exact Ent.skip (Ent.skip (Ent.skip (Ent.skip (Ent.skip (Ent.skip (Ent.skip (Ent.skip (Ent.refl _)))))))) | exact Ent.skip (Ent.skip (Ent.skip (Ent.skip (Ent.skip (Ent.skip (Ent.skip (Ent.skip (Ent.skip (Ent.refl _)))))))))) ?_))⟩ | exact ⟨rfl, rfl, by rw [show l2.set k (X, s') = l2 from by rw [← HS.out]; exact set_same3 HC.out]; exact hs.ent (by (repeat first | exact Ent.refl _ | refine Ent.step (by first | exact Ent.refl _ | exact Ent.skip (Ent.refl _) | exact Ent.skip (Ent.skip (Ent.refl _)) | exact Ent.skip (Ent.skip (Ent.skip (Ent.refl _))) | exact Ent.skip (Ent.skip (Ent.skip (Ent.skip (Ent.refl _)))) | exact Ent.skip (Ent.skip (Ent.skip (Ent.skip (Ent.skip (Ent.refl _))))) | exact Ent.skip (Ent.skip (Ent.skip (Ent.skip (Ent.skip (Ent.skip (Ent.refl _)))))) | exact Ent.skip (Ent.skip (Ent.skip (Ent.skip (Ent.skip (Ent.skip (Ent.skip (Ent.refl _))))))) | exact Ent.skip (Ent.skip (Ent.skip (Ent.skip (Ent.skip (Ent.skip (Ent.skip (Ent.skip (Ent.refl _)))))))) | exact Ent.skip (Ent.skip (Ent.skip (Ent.skip (Ent.skip (Ent.skip (Ent.skip (Ent.skip (Ent.skip (Ent.refl _)))))))))) ?_))⟩
                        · skip
                          refine ⟨_, rfl, ?_⟩
                          go_wp2
                          refine ⟨hs.only3, ?_⟩
                          refine wpAllP_next [11] (by kernel_rfl) (fun c hc => ?_)
                          simp only [List.mem_singleton] at hc
                          subst hc
                          refine ⟨_, rfl, ?_⟩
                          go_wp2
                          refine ⟨hs.only3, ?_⟩
                          refine wpAll_last [14] (by kernel_rfl) (fun c hc => ?_)
                          simp only [List.mem_singleton] at hc
                          subst hc
                          refine ⟨_, rfl, ?_⟩
                          go_wp2
                          go_meet
                          first | exact ⟨rfl, rfl, hs.ent (by (repeat first | exact Ent.refl _ | refine Ent.step (by first | exact Ent.refl _ | exact Ent.skip (Ent.refl _) | exact Ent.skip (Ent.skip (Ent.refl _)) | exact Ent.skip (Ent.skip (Ent.skip (Ent.refl _))) | exact Ent.skip (Ent.skip (Ent.skip (Ent.skip (Ent.refl _)))) | exact Ent.skip (Ent.skip (Ent.skip (Ent.skip (Ent.skip (Ent.refl _))))) | exact Ent.skip (Ent.skip (Ent.skip (Ent.skip (Ent.skip (Ent.skip (Ent.refl _)))))) | exact Ent.skip (Ent.skip (Ent.skip (Ent.skip (Ent.skip (Ent.skip (Ent.skip (Ent.refl _))))))) | exact Ent.skip (Ent.skip (Ent.skip (Ent.skip (Ent.skip (Ent.skip (Ent.skip (Ent.skip (Ent.refl _)))))))) | exact Ent.skip (Ent.skip (Ent.skip (Ent.skip (Ent.skip (Ent.skip (Ent.skip (Ent.skip (Ent.skip (Ent.refl _)))))))))) ?_))⟩ | exact ⟨rfl, rfl, by rw [show l2.set k (X, s') = l2 from by rw [← HS.out]; exact set_same3 HC.out]; exact hs.ent (by (repeat first | exact Ent.refl _ | refine Ent.step (by first | exact Ent.refl _ | exact Ent.skip (Ent.refl _) | exact Ent.skip (Ent.skip (Ent.refl _)) | exact Ent.skip (Ent.skip (Ent.skip (Ent.refl _))) | exact Ent.skip (Ent.skip (Ent.skip (Ent.skip (Ent.refl _)))) | exact Ent.skip (Ent.skip (Ent.skip (Ent.skip (Ent.skip (Ent.refl _))))) | exact Ent.skip (Ent.skip (Ent.skip (Ent.skip (Ent.skip (Ent.skip (Ent.refl _)))))) | exact Ent.skip (Ent.skip (Ent.skip (Ent.skip (Ent.skip (Ent.skip (Ent.skip (Ent.refl _))))))) | exact Ent.skip (Ent.skip (Ent.skip (Ent.skip (Ent.skip (Ent.skip (Ent.skip (Ent.skip (Ent.refl _)))))))) | exact Ent.skip (Ent.skip (Ent.skip (Ent.skip (Ent.skip (Ent.skip (Ent.skip (Ent.skip (Ent.skip (Ent.refl _)))))))))) ?_))⟩
                    · skip
                      refine ⟨_, rfl, ?_⟩
                      go_wp2
                      refine ⟨hs.only3, ?_⟩
                      refine wpAllP_next [10, 12] (by kernel_rfl) (fun c hc => ?_)
                      simp only [List.mem_cons, List.not_mem_nil, or_false] at hc
                      rcases hc with rfl | rfl
                      · skip
                        refine ⟨_, rfl, ?_⟩
                        go_wp2
                        refine ⟨hs.only3, ?_⟩
                        refine wpAllP_next [12] (by kernel_rfl) (fun c hc => ?_)
                        simp only [List.mem_singleton] at hc
                        subst hc
                        refine ⟨_, rfl, ?_⟩
                        refine wpl_store_agg (v := val3 q) rfl rfl (size3 _) (hs.ent (M := blk g20 (c3 V3.z).toArray 40 :: own (some ⟨gB, 0, none⟩) m cB 29 1 (rgP l2) :: blk g14 (c5o ⟨0, oi, ov⟩).toArray 72 :: blk g15 (c3 x).toArray 40 :: Sls (l2.set k (X, s')) :: blk g16 (c3 p0).toArray 40 :: []) (by (repeat first | exact Ent.refl _ | refine Ent.step (by first | exact Ent.refl _ | exact Ent.skip (Ent.refl _) | exact Ent.skip (Ent.skip (Ent.refl _)) | exact Ent.skip (Ent.skip (Ent.skip (Ent.refl _))) | exact Ent.skip (Ent.skip (Ent.skip (Ent.skip (Ent.refl _)))) | exact Ent.skip (Ent.skip (Ent.skip (Ent.skip (Ent.skip (Ent.refl _))))) | exact Ent.skip (Ent.skip (Ent.skip (Ent.skip (Ent.skip (Ent.skip (Ent.refl _)))))) | exact Ent.skip (Ent.skip (Ent.skip (Ent.skip (Ent.skip (Ent.skip (Ent.skip (Ent.refl _))))))) | exact Ent.skip (Ent.skip (Ent.skip (Ent.skip (Ent.skip (Ent.skip (Ent.skip (Ent.skip (Ent.refl _)))))))) | exact Ent.skip (Ent.skip (Ent.skip (Ent.skip (Ent.skip (Ent.skip (Ent.skip (Ent.skip (Ent.skip (Ent.refl _)))))))))) ?_))) WrA.slot3 ?_
                        clear hs
                        intro w hs
                        replace hs : St w0 (own (some ⟨gB, 0, none⟩) m cB 29 1 (rgP l2) :: blk g14 (c5o ⟨0, oi, ov⟩).toArray 72 :: blk g15 (c3 x).toArray 40 :: Sls (l2.set k (X, s')) :: blk g16 (c3 p0).toArray 40 :: blk g20 (c3 q).toArray 40 :: []) w := hs.ent (by (repeat first | exact Ent.refl _ | refine Ent.step (by first | exact Ent.refl _ | exact Ent.skip (Ent.refl _) | exact Ent.skip (Ent.skip (Ent.refl _)) | exact Ent.skip (Ent.skip (Ent.skip (Ent.refl _))) | exact Ent.skip (Ent.skip (Ent.skip (Ent.skip (Ent.refl _)))) | exact Ent.skip (Ent.skip (Ent.skip (Ent.skip (Ent.skip (Ent.refl _))))) | exact Ent.skip (Ent.skip (Ent.skip (Ent.skip (Ent.skip (Ent.skip (Ent.refl _)))))) | exact Ent.skip (Ent.skip (Ent.skip (Ent.skip (Ent.skip (Ent.skip (Ent.skip (Ent.refl _))))))) | exact Ent.skip (Ent.skip (Ent.skip (Ent.skip (Ent.skip (Ent.skip (Ent.skip (Ent.skip (Ent.refl _)))))))) | exact Ent.skip (Ent.skip (Ent.skip (Ent.skip (Ent.skip (Ent.skip (Ent.skip (Ent.skip (Ent.skip (Ent.refl _)))))))))) ?_))
                        refine wpList_nil ⟨rfl, hs.only3, ?_⟩
                        refine wpAllP_next [13] (by kernel_rfl) (fun c hc => ?_)
                        simp only [List.mem_singleton] at hc
                        subst hc
                        refine ⟨_, rfl, ?_⟩
                        go_wp2
                        refine ⟨hs.only3, ?_⟩
                        refine wpAll_last [14] (by kernel_rfl) (fun c hc => ?_)
                        simp only [List.mem_singleton] at hc
                        subst hc
                        refine ⟨_, rfl, ?_⟩
                        go_wp2
                        go_meet
                        first | exact ⟨rfl, rfl, hs.ent (by (repeat first | exact Ent.refl _ | refine Ent.step (by first | exact Ent.refl _ | exact Ent.skip (Ent.refl _) | exact Ent.skip (Ent.skip (Ent.refl _)) | exact Ent.skip (Ent.skip (Ent.skip (Ent.refl _))) | exact Ent.skip (Ent.skip (Ent.skip (Ent.skip (Ent.refl _)))) | exact Ent.skip (Ent.skip (Ent.skip (Ent.skip (Ent.skip (Ent.refl _))))) | exact Ent.skip (Ent.skip (Ent.skip (Ent.skip (Ent.skip (Ent.skip (Ent.refl _)))))) | exact Ent.skip (Ent.skip (Ent.skip (Ent.skip (Ent.skip (Ent.skip (Ent.skip (Ent.refl _))))))) | exact Ent.skip (Ent.skip (Ent.skip (Ent.skip (Ent.skip (Ent.skip (Ent.skip (Ent.skip (Ent.refl _)))))))) | exact Ent.skip (Ent.skip (Ent.skip (Ent.skip (Ent.skip (Ent.skip (Ent.skip (Ent.skip (Ent.skip (Ent.refl _)))))))))) ?_))⟩ | exact ⟨rfl, rfl, by rw [show l2.set k (X, s') = l2 from by rw [← HS.out]; exact set_same3 HC.out]; exact hs.ent (by (repeat first | exact Ent.refl _ | refine Ent.step (by first | exact Ent.refl _ | exact Ent.skip (Ent.refl _) | exact Ent.skip (Ent.skip (Ent.refl _)) | exact Ent.skip (Ent.skip (Ent.skip (Ent.refl _))) | exact Ent.skip (Ent.skip (Ent.skip (Ent.skip (Ent.refl _)))) | exact Ent.skip (Ent.skip (Ent.skip (Ent.skip (Ent.skip (Ent.refl _))))) | exact Ent.skip (Ent.skip (Ent.skip (Ent.skip (Ent.skip (Ent.skip (Ent.refl _)))))) | exact Ent.skip (Ent.skip (Ent.skip (Ent.skip (Ent.skip (Ent.skip (Ent.skip (Ent.refl _))))))) | exact Ent.skip (Ent.skip (Ent.skip (Ent.skip (Ent.skip (Ent.skip (Ent.skip (Ent.skip (Ent.refl _)))))))) | exact Ent.skip (Ent.skip (Ent.skip (Ent.skip (Ent.skip (Ent.skip (Ent.skip (Ent.skip (Ent.skip (Ent.refl _)))))))))) ?_))⟩
                      · skip
                        refine ⟨_, rfl, ?_⟩
                        refine wpl_store_agg (v := val3 q) rfl rfl (size3 _) (hs.ent (M := blk g20 (c3 V3.z).toArray 40 :: own (some ⟨gB, 0, none⟩) m cB 29 1 (rgP l2) :: blk g14 (c5o ⟨0, oi, ov⟩).toArray 72 :: blk g15 (c3 x).toArray 40 :: Sls (l2.set k (X, s')) :: blk g16 (c3 p0).toArray 40 :: []) (by (repeat first | exact Ent.refl _ | refine Ent.step (by first | exact Ent.refl _ | exact Ent.skip (Ent.refl _) | exact Ent.skip (Ent.skip (Ent.refl _)) | exact Ent.skip (Ent.skip (Ent.skip (Ent.refl _))) | exact Ent.skip (Ent.skip (Ent.skip (Ent.skip (Ent.refl _)))) | exact Ent.skip (Ent.skip (Ent.skip (Ent.skip (Ent.skip (Ent.refl _))))) | exact Ent.skip (Ent.skip (Ent.skip (Ent.skip (Ent.skip (Ent.skip (Ent.refl _)))))) | exact Ent.skip (Ent.skip (Ent.skip (Ent.skip (Ent.skip (Ent.skip (Ent.skip (Ent.refl _))))))) | exact Ent.skip (Ent.skip (Ent.skip (Ent.skip (Ent.skip (Ent.skip (Ent.skip (Ent.skip (Ent.refl _)))))))) | exact Ent.skip (Ent.skip (Ent.skip (Ent.skip (Ent.skip (Ent.skip (Ent.skip (Ent.skip (Ent.skip (Ent.refl _)))))))))) ?_))) WrA.slot3 ?_
                        clear hs
                        intro w hs
                        replace hs : St w0 (own (some ⟨gB, 0, none⟩) m cB 29 1 (rgP l2) :: blk g14 (c5o ⟨0, oi, ov⟩).toArray 72 :: blk g15 (c3 x).toArray 40 :: Sls (l2.set k (X, s')) :: blk g16 (c3 p0).toArray 40 :: blk g20 (c3 q).toArray 40 :: []) w := hs.ent (by (repeat first | exact Ent.refl _ | refine Ent.step (by first | exact Ent.refl _ | exact Ent.skip (Ent.refl _) | exact Ent.skip (Ent.skip (Ent.refl _)) | exact Ent.skip (Ent.skip (Ent.skip (Ent.refl _))) | exact Ent.skip (Ent.skip (Ent.skip (Ent.skip (Ent.refl _)))) | exact Ent.skip (Ent.skip (Ent.skip (Ent.skip (Ent.skip (Ent.refl _))))) | exact Ent.skip (Ent.skip (Ent.skip (Ent.skip (Ent.skip (Ent.skip (Ent.refl _)))))) | exact Ent.skip (Ent.skip (Ent.skip (Ent.skip (Ent.skip (Ent.skip (Ent.skip (Ent.refl _))))))) | exact Ent.skip (Ent.skip (Ent.skip (Ent.skip (Ent.skip (Ent.skip (Ent.skip (Ent.skip (Ent.refl _)))))))) | exact Ent.skip (Ent.skip (Ent.skip (Ent.skip (Ent.skip (Ent.skip (Ent.skip (Ent.skip (Ent.skip (Ent.refl _)))))))))) ?_))
                        refine wpList_nil ⟨rfl, hs.only3, ?_⟩
                        refine wpAllP_next [10] (by kernel_rfl) (fun c hc => ?_)
                        simp only [List.mem_singleton] at hc
                        subst hc
                        refine ⟨_, rfl, ?_⟩
                        go_wp2
                        refine ⟨hs.only3, ?_⟩
                        refine wpAllP_next [13] (by kernel_rfl) (fun c hc => ?_)
                        simp only [List.mem_singleton] at hc
                        subst hc
                        refine ⟨_, rfl, ?_⟩
                        go_wp2
                        refine ⟨hs.only3, ?_⟩
                        refine wpAll_last [14] (by kernel_rfl) (fun c hc => ?_)
                        simp only [List.mem_singleton] at hc
                        subst hc
                        refine ⟨_, rfl, ?_⟩
                        go_wp2
                        go_meet
                        first | exact ⟨rfl, rfl, hs.ent (by (repeat first | exact Ent.refl _ | refine Ent.step (by first | exact Ent.refl _ | exact Ent.skip (Ent.refl _) | exact Ent.skip (Ent.skip (Ent.refl _)) | exact Ent.skip (Ent.skip (Ent.skip (Ent.refl _))) | exact Ent.skip (Ent.skip (Ent.skip (Ent.skip (Ent.refl _)))) | exact Ent.skip (Ent.skip (Ent.skip (Ent.skip (Ent.skip (Ent.refl _))))) | exact Ent.skip (Ent.skip (Ent.skip (Ent.skip (Ent.skip (Ent.skip (Ent.refl _)))))) | exact Ent.skip (Ent.skip (Ent.skip (Ent.skip (Ent.skip (Ent.skip (Ent.skip (Ent.refl _))))))) | exact Ent.skip (Ent.skip (Ent.skip (Ent.skip (Ent.skip (Ent.skip (Ent.skip (Ent.skip (Ent.refl _)))))))) | exact Ent.skip (Ent.skip (Ent.skip (Ent.skip (Ent.skip (Ent.skip (Ent.skip (Ent.skip (Ent.skip (Ent.refl _)))))))))) ?_))⟩ | exact ⟨rfl, rfl, by rw [show l2.set k (X, s') = l2 from by rw [← HS.out]; exact set_same3 HC.out]; exact hs.ent (by (repeat first | exact Ent.refl _ | refine Ent.step (by first | exact Ent.refl _ | exact Ent.skip (Ent.refl _) | exact Ent.skip (Ent.skip (Ent.refl _)) | exact Ent.skip (Ent.skip (Ent.skip (Ent.refl _))) | exact Ent.skip (Ent.skip (Ent.skip (Ent.skip (Ent.refl _)))) | exact Ent.skip (Ent.skip (Ent.skip (Ent.skip (Ent.skip (Ent.refl _))))) | exact Ent.skip (Ent.skip (Ent.skip (Ent.skip (Ent.skip (Ent.skip (Ent.refl _)))))) | exact Ent.skip (Ent.skip (Ent.skip (Ent.skip (Ent.skip (Ent.skip (Ent.skip (Ent.refl _))))))) | exact Ent.skip (Ent.skip (Ent.skip (Ent.skip (Ent.skip (Ent.skip (Ent.skip (Ent.skip (Ent.refl _)))))))) | exact Ent.skip (Ent.skip (Ent.skip (Ent.skip (Ent.skip (Ent.skip (Ent.skip (Ent.skip (Ent.skip (Ent.refl _)))))))))) ?_))⟩
                    · skip
                      refine ⟨_, rfl, ?_⟩
                      refine wpl_store_agg (v := val3 q) rfl rfl (size3 _) (hs.ent (M := blk g20 (c3 V3.z).toArray 40 :: own (some ⟨gB, 0, none⟩) m cB 29 1 (rgP l2) :: blk g14 (c5o ⟨0, oi, ov⟩).toArray 72 :: blk g15 (c3 x).toArray 40 :: Sls (l2.set k (X, s')) :: blk g16 (c3 p0).toArray 40 :: []) (by (repeat first | exact Ent.refl _ | refine Ent.step (by first | exact Ent.refl _ | exact Ent.skip (Ent.refl _) | exact Ent.skip (Ent.skip (Ent.refl _)) | exact Ent.skip (Ent.skip (Ent.skip (Ent.refl _))) | exact Ent.skip (Ent.skip (Ent.skip (Ent.skip (Ent.refl _)))) | exact Ent.skip (Ent.skip (Ent.skip (Ent.skip (Ent.skip (Ent.refl _))))) | exact Ent.skip (Ent.skip (Ent.skip (Ent.skip (Ent.skip (Ent.skip (Ent.refl _)))))) | exact Ent.skip (Ent.skip (Ent.skip (Ent.skip (Ent.skip (Ent.skip (Ent.skip (Ent.refl _))))))) | exact Ent.skip (Ent.skip (Ent.skip (Ent.skip (Ent.skip (Ent.skip (Ent.skip (Ent.skip (Ent.refl _)))))))) | exact Ent.skip (Ent.skip (Ent.skip (Ent.skip (Ent.skip (Ent.skip (Ent.skip (Ent.skip (Ent.skip (Ent.refl _)))))))))) ?_))) WrA.slot3 ?_
                      clear hs
                      intro w hs
                      replace hs : St w0 (own (some ⟨gB, 0, none⟩) m cB 29 1 (rgP l2) :: blk g14 (c5o ⟨0, oi, ov⟩).toArray 72 :: blk g15 (c3 x).toArray 40 :: Sls (l2.set k (X, s')) :: blk g16 (c3 p0).toArray 40 :: blk g20 (c3 q).toArray 40 :: []) w := hs.ent (by (repeat first | exact Ent.refl _ | refine Ent.step (by first | exact Ent.refl _ | exact Ent.skip (Ent.refl _) | exact Ent.skip (Ent.skip (Ent.refl _)) | exact Ent.skip (Ent.skip (Ent.skip (Ent.refl _))) | exact Ent.skip (Ent.skip (Ent.skip (Ent.skip (Ent.refl _)))) | exact Ent.skip (Ent.skip (Ent.skip (Ent.skip (Ent.skip (Ent.refl _))))) | exact Ent.skip (Ent.skip (Ent.skip (Ent.skip (Ent.skip (Ent.skip (Ent.refl _)))))) | exact Ent.skip (Ent.skip (Ent.skip (Ent.skip (Ent.skip (Ent.skip (Ent.skip (Ent.refl _))))))) | exact Ent.skip (Ent.skip (Ent.skip (Ent.skip (Ent.skip (Ent.skip (Ent.skip (Ent.skip (Ent.refl _)))))))) | exact Ent.skip (Ent.skip (Ent.skip (Ent.skip (Ent.skip (Ent.skip (Ent.skip (Ent.skip (Ent.skip (Ent.refl _)))))))))) ?_))
                      refine wpList_nil ⟨rfl, hs.only3, ?_⟩
                      refine wpAllP_next [10, 11] (by kernel_rfl) (fun c hc => ?_)
                      simp only [List.mem_cons, List.not_mem_nil, or_false] at hc
                      rcases hc with rfl | rfl
                      · skip
                        refine ⟨_, rfl, ?_⟩
                        go_wp2
                        refine ⟨hs.only3, ?_⟩
                        refine wpAllP_next [11, 13] (by kernel_rfl) (fun c hc => ?_)
                        simp only [List.mem_cons, List.not_mem_nil, or_false] at hc
                        rcases hc with rfl | rfl
                        · skip
                          refine ⟨_, rfl, ?_⟩
                          go_wp2
                          refine ⟨hs.only3, ?_⟩
                          refine wpAllP_next [13] (by kernel_rfl) (fun c hc => ?_)
                          simp only [List.mem_singleton] at hc
                          subst hc
                          refine ⟨_, rfl, ?_⟩
                          go_wp2
                          refine ⟨hs.only3, ?_⟩
                          refine wpAll_last [14] (by kernel_rfl) (fun c hc => ?_)
                          simp only [List.mem_singleton] at hc
                          subst hc
                          refine ⟨_, rfl, ?_⟩
                          go_wp2
                          go_meet
                          first | exact ⟨rfl, rfl, hs.ent (by (repeat first | exact Ent.refl _ | refine Ent.step (by first | exact Ent.refl _ | exact Ent.skip (Ent.refl _) | exact Ent.skip (Ent.skip (Ent.refl _)) | exact Ent.skip (Ent.skip (Ent.skip (Ent.refl _))) | exact Ent.skip (Ent.skip (Ent.skip (Ent.skip (Ent.refl _)))) | exact Ent.skip (Ent.skip (Ent.skip (Ent.skip (Ent.skip (Ent.refl _))))) | exact Ent.skip (Ent.skip (Ent.skip (Ent.skip (Ent.skip (Ent.skip (Ent.refl _)))))) | exact Ent.skip (Ent.skip (Ent.skip (Ent.skip (Ent.skip (Ent.skip (Ent.skip (Ent.refl _))))))) | exact Ent.skip (Ent.skip (Ent.skip (Ent.skip (Ent.skip (Ent.skip (Ent.skip (Ent.skip (Ent.refl _)))))))) | exact Ent.skip (Ent.skip (Ent.skip (Ent.skip (Ent.skip (Ent.skip (Ent.skip (Ent.skip (Ent.skip (Ent.refl _)))))))))) ?_))⟩ | exact ⟨rfl, rfl, by rw [show l2.set k (X, s') = l2 from by rw [← HS.out]; exact set_same3 HC.out]; exact hs.ent (by (repeat first | exact Ent.refl _ | refine Ent.step (by first | exact Ent.refl _ | exact Ent.skip (Ent.refl _) | exact Ent.skip (Ent.skip (Ent.refl _)) | exact Ent.skip (Ent.skip (Ent.skip (Ent.refl _))) | exact Ent.skip (Ent.skip (Ent.skip (Ent.skip (Ent.refl _)))) | exact Ent.skip (Ent.skip (Ent.skip (Ent.skip (Ent.skip (Ent.refl _))))) | exact Ent.skip (Ent.skip (Ent.skip (Ent.skip (Ent.skip (Ent.skip (Ent.refl _)))))) | exact Ent.skip (Ent.skip (Ent.skip (Ent.skip (Ent.skip (Ent.skip (Ent.skip (Ent.refl _))))))) | exact Ent.skip (Ent.skip (Ent.skip (Ent.skip (Ent.skip (Ent.skip (Ent.skip (Ent.skip (Ent.refl _)))))))) | exact Ent.skip (Ent.skip (Ent.skip (Ent.skip (Ent.skip (Ent.skip (Ent.skip (Ent.skip (Ent.skip (Ent.refl _)))))))))) ?_))⟩
                        · skip
                          refine ⟨_, rfl, ?_⟩
                          go_wp2
                          refine ⟨hs.only3, ?_⟩
                          refine wpAllP_next [11] (by kernel_rfl) (fun c hc => ?_)
                          simp only [List.mem_singleton] at hc
                          subst hc
                          refine ⟨_, rfl, ?_⟩
                          go_wp2
                          refine ⟨hs.only3, ?_⟩
                          refine wpAll_last [14] (by kernel_rfl) (fun c hc => ?_)
                          simp only [List.mem_singleton] at hc
                          subst hc
                          refine ⟨_, rfl, ?_⟩
                          go_wp2
                          go_meet
                          first | exact ⟨rfl, rfl, hs.ent (by (repeat first | exact Ent.refl _ | refine Ent.step (by first | exact Ent.refl _ | exact Ent.skip (Ent.refl _) | exact Ent.skip (Ent.skip (Ent.refl _)) | exact Ent.skip (Ent.skip (Ent.skip (Ent.refl _))) | exact Ent.skip (Ent.skip (Ent.skip (Ent.skip (Ent.refl _)))) | exact Ent.skip (Ent.skip (Ent.skip (Ent.skip (Ent.skip (Ent.refl _))))) | exact Ent.skip (Ent.skip (Ent.skip (Ent.skip (Ent.skip (Ent.skip (Ent.refl _)))))) | exact Ent.skip (Ent.skip (Ent.skip (Ent.skip (Ent.skip (Ent.skip (Ent.skip (Ent.refl _))))))) | exact Ent.skip (Ent.skip (Ent.skip (Ent.skip (Ent.skip (Ent.skip (Ent.skip (Ent.skip (Ent.refl _)))))))) | exact Ent.skip (Ent.skip (Ent.skip (Ent.skip (Ent.skip (Ent.skip (Ent.skip (Ent.skip (Ent.skip (Ent.refl _)))))))))) ?_))⟩ | exact ⟨rfl, rfl, by rw [show l2.set k (X, s') = l2 from by rw [← HS.out]; exact set_same3 HC.out]; exact hs.ent (by (repeat first | exact Ent.refl _ | refine Ent.step (by first | exact Ent.refl _ | exact Ent.skip (Ent.refl _) | exact Ent.skip (Ent.skip (Ent.refl _)) | exact Ent.skip (Ent.skip (Ent.skip (Ent.refl _))) | exact Ent.skip (Ent.skip (Ent.skip (Ent.skip (Ent.refl _)))) | exact Ent.skip (Ent.skip (Ent.skip (Ent.skip (Ent.skip (Ent.refl _))))) | exact Ent.skip (Ent.skip (Ent.skip (Ent.skip (Ent.skip (Ent.skip (Ent.refl _)))))) | exact Ent.skip (Ent.skip (Ent.skip (Ent.skip (Ent.skip (Ent.skip (Ent.skip (Ent.refl _))))))) | exact Ent.skip (Ent.skip (Ent.skip (Ent.skip (Ent.skip (Ent.skip (Ent.skip (Ent.skip (Ent.refl _)))))))) | exact Ent.skip (Ent.skip (Ent.skip (Ent.skip (Ent.skip (Ent.skip (Ent.skip (Ent.skip (Ent.skip (Ent.refl _)))))))))) ?_))⟩
                      · skip
                        refine ⟨_, rfl, ?_⟩
                        go_wp2
                        refine ⟨hs.only3, ?_⟩
                        refine wpAllP_next [10] (by kernel_rfl) (fun c hc => ?_)
                        simp only [List.mem_singleton] at hc
                        subst hc
                        refine ⟨_, rfl, ?_⟩
                        go_wp2
                        refine ⟨hs.only3, ?_⟩
                        refine wpAllP_next [13] (by kernel_rfl) (fun c hc => ?_)
                        simp only [List.mem_singleton] at hc
                        subst hc
                        refine ⟨_, rfl, ?_⟩
                        go_wp2
                        refine ⟨hs.only3, ?_⟩
                        refine wpAll_last [14] (by kernel_rfl) (fun c hc => ?_)
                        simp only [List.mem_singleton] at hc
                        subst hc
                        refine ⟨_, rfl, ?_⟩
                        go_wp2
                        go_meet
                        first | exact ⟨rfl, rfl, hs.ent (by (repeat first | exact Ent.refl _ | refine Ent.step (by first | exact Ent.refl _ | exact Ent.skip (Ent.refl _) | exact Ent.skip (Ent.skip (Ent.refl _)) | exact Ent.skip (Ent.skip (Ent.skip (Ent.refl _))) | exact Ent.skip (Ent.skip (Ent.skip (Ent.skip (Ent.refl _)))) | exact Ent.skip (Ent.skip (Ent.skip (Ent.skip (Ent.skip (Ent.refl _))))) | exact Ent.skip (Ent.skip (Ent.skip (Ent.skip (Ent.skip (Ent.skip (Ent.refl _)))))) | exact Ent.skip (Ent.skip (Ent.skip (Ent.skip (Ent.skip (Ent.skip (Ent.skip (Ent.refl _))))))) | exact Ent.skip (Ent.skip (Ent.skip (Ent.skip (Ent.skip (Ent.skip (Ent.skip (Ent.skip (Ent.refl _)))))))) | exact Ent.skip (Ent.skip (Ent.skip (Ent.skip (Ent.skip (Ent.skip (Ent.skip (Ent.skip (Ent.skip (Ent.refl _)))))))))) ?_))⟩ | exact ⟨rfl, rfl, by rw [show l2.set k (X, s') = l2 from by rw [← HS.out]; exact set_same3 HC.out]; exact hs.ent (by (repeat first | exact Ent.refl _ | refine Ent.step (by first | exact Ent.refl _ | exact Ent.skip (Ent.refl _) | exact Ent.skip (Ent.skip (Ent.refl _)) | exact Ent.skip (Ent.skip (Ent.skip (Ent.refl _))) | exact Ent.skip (Ent.skip (Ent.skip (Ent.skip (Ent.refl _)))) | exact Ent.skip (Ent.skip (Ent.skip (Ent.skip (Ent.skip (Ent.refl _))))) | exact Ent.skip (Ent.skip (Ent.skip (Ent.skip (Ent.skip (Ent.skip (Ent.refl _)))))) | exact Ent.skip (Ent.skip (Ent.skip (Ent.skip (Ent.skip (Ent.skip (Ent.skip (Ent.refl _))))))) | exact Ent.skip (Ent.skip (Ent.skip (Ent.skip (Ent.skip (Ent.skip (Ent.skip (Ent.skip (Ent.refl _)))))))) | exact Ent.skip (Ent.skip (Ent.skip (Ent.skip (Ent.skip (Ent.skip (Ent.skip (Ent.skip (Ent.skip (Ent.refl _)))))))))) ?_))⟩
                  · skip
                    refine ⟨_, rfl, ?_⟩
                    go_wp2
                    refine ⟨hs.only3, ?_⟩
                    refine wpAllP_next [9, 11] (by kernel_rfl) (fun c hc => ?_)
                    simp only [List.mem_cons, List.not_mem_nil, or_false] at hc
                    rcases hc with rfl | rfl
                    · skip
                      refine ⟨_, rfl, ?_⟩
                      go_wp2
                      refine ⟨hs.only3, ?_⟩
                      refine wpAllP_next [11, 12] (by kernel_rfl) (fun c hc => ?_)
                      simp only [List.mem_cons, List.not_mem_nil, or_false] at hc
                      rcases hc with rfl | rfl
                      · skip
                        refine ⟨_, rfl, ?_⟩
                        go_wp2
                        refine ⟨hs.only3, ?_⟩
                        refine wpAllP_next [12] (by kernel_rfl) (fun c hc => ?_)
                        simp only [List.mem_singleton] at hc
                        subst hc
                        refine ⟨_, rfl, ?_⟩
                        refine wpl_store_agg (v := val3 q) rfl rfl (size3 _) (hs.ent (M := blk g20 (c3 V3.z).toArray 40 :: own (some ⟨gB, 0, none⟩) m cB 29 1 (rgP l2) :: blk g14 (c5o ⟨0, oi, ov⟩).toArray 72 :: blk g15 (c3 x).toArray 40 :: Sls (l2.set k (X, s')) :: blk g16 (c3 p0).toArray 40 :: []) (by (repeat first | exact Ent.refl _ | refine Ent.step (by first | exact Ent.refl _ | exact Ent.skip (Ent.refl _) | exact Ent.skip (Ent.skip (Ent.refl _)) | exact Ent.skip (Ent.skip (Ent.skip (Ent.refl _))) | exact Ent.skip (Ent.skip (Ent.skip (Ent.skip (Ent.refl _)))) | exact Ent.skip (Ent.skip (Ent.skip (Ent.skip (Ent.skip (Ent.refl _))))) | exact Ent.skip (Ent.skip (Ent.skip (Ent.skip (Ent.skip (Ent.skip (Ent.refl _)))))) | exact Ent.skip (Ent.skip (Ent.skip (Ent.skip (Ent.skip (Ent.skip (Ent.skip (Ent.refl _))))))) | exact Ent.skip (Ent.skip (Ent.skip (Ent.skip (Ent.skip (Ent.skip (Ent.skip (Ent.skip (Ent.refl _)))))))) | exact Ent.skip (Ent.skip (Ent.skip (Ent.skip (Ent.skip (Ent.skip (Ent.skip (Ent.skip (Ent.skip (Ent.refl _)))))))))) ?_))) WrA.slot3 ?_
                        clear hs
                        intro w hs
                        replace hs : St w0 (own (some ⟨gB, 0, none⟩) m cB 29 1 (rgP l2) :: blk g14 (c5o ⟨0, oi, ov⟩).toArray 72 :: blk g15 (c3 x).toArray 40 :: Sls (l2.set k (X, s')) :: blk g16 (c3 p0).toArray 40 :: blk g20 (c3 q).toArray 40 :: []) w := hs.ent (by (repeat first | exact Ent.refl _ | refine Ent.step (by first | exact Ent.refl _ | exact Ent.skip (Ent.refl _) | exact Ent.skip (Ent.skip (Ent.refl _)) | exact Ent.skip (Ent.skip (Ent.skip (Ent.refl _))) | exact Ent.skip (Ent.skip (Ent.skip (Ent.skip (Ent.refl _)))) | exact Ent.skip (Ent.skip (Ent.skip (Ent.skip (Ent.skip (Ent.refl _))))) | exact Ent.skip (Ent.skip (Ent.skip (Ent.skip (Ent.skip (Ent.skip (Ent.refl _)))))) | exact Ent.skip (Ent.skip (Ent.skip (Ent.skip (Ent.skip (Ent.skip (Ent.skip (Ent.refl _))))))) | exact Ent.skip (Ent.skip (Ent.skip (Ent.skip (Ent.skip (Ent.skip (Ent.skip (Ent.skip (Ent.refl _)))))))) | exact Ent.skip (Ent.skip (Ent.skip (Ent.skip (Ent.skip (Ent.skip (Ent.skip (Ent.skip (Ent.skip (Ent.refl _)))))))))) ?_))
                        refine wpList_nil ⟨rfl, hs.only3, ?_⟩
                        refine wpAllP_next [13] (by kernel_rfl) (fun c hc => ?_)
                        simp only [List.mem_singleton] at hc
                        subst hc
                        refine ⟨_, rfl, ?_⟩
                        go_wp2
                        refine ⟨hs.only3, ?_⟩
                        refine wpAll_last [14] (by kernel_rfl) (fun c hc => ?_)
                        simp only [List.mem_singleton] at hc
                        subst hc
                        refine ⟨_, rfl, ?_⟩
                        go_wp2
                        go_meet
                        first | exact ⟨rfl, rfl, hs.ent (by (repeat first | exact Ent.refl _ | refine Ent.step (by first | exact Ent.refl _ | exact Ent.skip (Ent.refl _) | exact Ent.skip (Ent.skip (Ent.refl _)) | exact Ent.skip (Ent.skip (Ent.skip (Ent.refl _))) | exact Ent.skip (Ent.skip (Ent.skip (Ent.skip (Ent.refl _)))) | exact Ent.skip (Ent.skip (Ent.skip (Ent.skip (Ent.skip (Ent.refl _))))) | exact Ent.skip (Ent.skip (Ent.skip (Ent.skip (Ent.skip (Ent.skip (Ent.refl _)))))) | exact Ent.skip (Ent.skip (Ent.skip (Ent.skip (Ent.skip (Ent.skip (Ent.skip (Ent.refl _))))))) | exact Ent.skip (Ent.skip (Ent.skip (Ent.skip (Ent.skip (Ent.skip (Ent.skip (Ent.skip (Ent.refl _)))))))) | exact Ent.skip (Ent.skip (Ent.skip (Ent.skip (Ent.skip (Ent.skip (Ent.skip (Ent.skip (Ent.skip (Ent.refl _)))))))))) ?_))⟩ | exact ⟨rfl, rfl, by rw [show l2.set k (X, s') = l2 from by rw [← HS.out]; exact set_same3 HC.out]; exact hs.ent (by (repeat first | exact Ent.refl _ | refine Ent.step (by first | exact Ent.refl _ | exact Ent.skip (Ent.refl _) | exact Ent.skip (Ent.skip (Ent.refl _)) | exact Ent.skip (Ent.skip (Ent.skip (Ent.refl _))) | exact Ent.skip (Ent.skip (Ent.skip (Ent.skip (Ent.refl _)))) | exact Ent.skip (Ent.skip (Ent.skip (Ent.skip (Ent.skip (Ent.refl _))))) | exact Ent.skip (Ent.skip (Ent.skip (Ent.skip (Ent.skip (Ent.skip (Ent.refl _)))))) | exact Ent.skip (Ent.skip (Ent.skip (Ent.skip (Ent.skip (Ent.skip (Ent.skip (Ent.refl _))))))) | exact Ent.skip (Ent.skip (Ent.skip (Ent.skip (Ent.skip (Ent.skip (Ent.skip (Ent.skip (Ent.refl _)))))))) | exact Ent.skip (Ent.skip (Ent.skip (Ent.skip (Ent.skip (Ent.skip (Ent.skip (Ent.skip (Ent.skip (Ent.refl _)))))))))) ?_))⟩
                      · skip
                        refine ⟨_, rfl, ?_⟩
                        refine wpl_store_agg (v := val3 q) rfl rfl (size3 _) (hs.ent (M := blk g20 (c3 V3.z).toArray 40 :: own (some ⟨gB, 0, none⟩) m cB 29 1 (rgP l2) :: blk g14 (c5o ⟨0, oi, ov⟩).toArray 72 :: blk g15 (c3 x).toArray 40 :: Sls (l2.set k (X, s')) :: blk g16 (c3 p0).toArray 40 :: []) (by (repeat first | exact Ent.refl _ | refine Ent.step (by first | exact Ent.refl _ | exact Ent.skip (Ent.refl _) | exact Ent.skip (Ent.skip (Ent.refl _)) | exact Ent.skip (Ent.skip (Ent.skip (Ent.refl _))) | exact Ent.skip (Ent.skip (Ent.skip (Ent.skip (Ent.refl _)))) | exact Ent.skip (Ent.skip (Ent.skip (Ent.skip (Ent.skip (Ent.refl _))))) | exact Ent.skip (Ent.skip (Ent.skip (Ent.skip (Ent.skip (Ent.skip (Ent.refl _)))))) | exact Ent.skip (Ent.skip (Ent.skip (Ent.skip (Ent.skip (Ent.skip (Ent.skip (Ent.refl _))))))) | exact Ent.skip (Ent.skip (Ent.skip (Ent.skip (Ent.skip (Ent.skip (Ent.skip (Ent.skip (Ent.refl _)))))))) | exact Ent.skip (Ent.skip (Ent.skip (Ent.skip (Ent.skip (Ent.skip (Ent.skip (Ent.skip (Ent.skip (Ent.refl _)))))))))) ?_))) WrA.slot3 ?_
                        clear hs
                        intro w hs
                        replace hs : St w0 (own (some ⟨gB, 0, none⟩) m cB 29 1 (rgP l2) :: blk g14 (c5o ⟨0, oi, ov⟩).toArray 72 :: blk g15 (c3 x).toArray 40 :: Sls (l2.set k (X, s')) :: blk g16 (c3 p0).toArray 40 :: blk g20 (c3 q).toArray 40 :: []) w := hs.ent (by (repeat first | exact Ent.refl _ | refine Ent.step (by first | exact Ent.refl _ | exact Ent.skip (Ent.refl _) | exact Ent.skip (Ent.skip (Ent.refl _)) | exact Ent.skip (Ent.skip (Ent.skip (Ent.refl _))) | exact Ent.skip (Ent.skip (Ent.skip (Ent.skip (Ent.refl _)))) | exact Ent.skip (Ent.skip (Ent.skip (Ent.skip (Ent.skip (Ent.refl _))))) | exact Ent.skip (Ent.skip (Ent.skip (Ent.skip (Ent.skip (Ent.skip (Ent.refl _)))))) | exact Ent.skip (Ent.skip (Ent.skip (Ent.skip (Ent.skip (Ent.skip (Ent.skip (Ent.refl _))))))) | exact Ent.skip (Ent.skip (Ent.skip (Ent.skip (Ent.skip (Ent.skip (Ent.skip (Ent.skip (Ent.refl _)))))))) | exact Ent.skip (Ent.skip (Ent.skip (Ent.skip (Ent.skip (Ent.skip (Ent.skip (Ent.skip (Ent.skip (Ent.refl _)))))))))) ?_))
                        refine wpList_nil ⟨rfl, hs.only3, ?_⟩
                        refine wpAllP_next [11, 13] (by kernel_rfl) (fun c hc => ?_)
                        simp only [List.mem_cons, List.not_mem_nil, or_false] at hc
                        rcases hc with rfl | rfl
                        · skip
                          refine ⟨_, rfl, ?_⟩
                          go_wp2
                          refine ⟨hs.only3, ?_⟩
                          refine wpAllP_next [13] (by kernel_rfl) (fun c hc => ?_)
                          simp only [List.mem_singleton] at hc
                          subst hc
                          refine ⟨_, rfl, ?_⟩
                          go_wp2
                          refine ⟨hs.only3, ?_⟩
                          refine wpAll_last [14] (by kernel_rfl) (fun c hc => ?_)
                          simp only [List.mem_singleton] at hc
                          subst hc
                          refine ⟨_, rfl, ?_⟩
                          go_wp2
                          go_meet
                          first | exact ⟨rfl, rfl, hs.ent (by (repeat first | exact Ent.refl _ | refine Ent.step (by first | exact Ent.refl _ | exact Ent.skip (Ent.refl _) | exact Ent.skip (Ent.skip (Ent.refl _)) | exact Ent.skip (Ent.skip (Ent.skip (Ent.refl _))) | exact Ent.skip (Ent.skip (Ent.skip (Ent.skip (Ent.refl _)))) | exact Ent.skip (Ent.skip (Ent.skip (Ent.skip (Ent.skip (Ent.refl _))))) | exact Ent.skip (Ent.skip (Ent.skip (Ent.skip (Ent.skip (Ent.skip (Ent.refl _)))))) | exact Ent.skip (Ent.skip (Ent.skip (Ent.skip (Ent.skip (Ent.skip (Ent.skip (Ent.refl _))))))) | exact Ent.skip (Ent.skip (Ent.skip (Ent.skip (Ent.skip (Ent.skip (Ent.skip (Ent.skip (Ent.refl _)))))))) | exact Ent.skip (Ent.skip (Ent.skip (Ent.skip (Ent.skip (Ent.skip (Ent.skip (Ent.skip (Ent.skip (Ent.refl _)))))))))) ?_))⟩ | exact ⟨rfl, rfl, by rw [show l2.set k (X, s') = l2 from by rw [← HS.out]; exact set_same3 HC.out]; exact hs.ent (by (repeat first | exact Ent.refl _ | refine Ent.step (by first | exact Ent.refl _ | exact Ent.skip (Ent.refl _) | exact Ent.skip (Ent.skip (Ent.refl _)) | exact Ent.skip (Ent.skip (Ent.skip (Ent.refl _))) | exact Ent.skip (Ent.skip (Ent.skip (Ent.skip (Ent.refl _)))) | exact Ent.skip (Ent.skip (Ent.skip (Ent.skip (Ent.skip (Ent.refl _))))) | exact Ent.skip (Ent.skip (Ent.skip (Ent.skip (Ent.skip (Ent.skip (Ent.refl _)))))) | exact Ent.skip (Ent.skip (Ent.skip (Ent.skip (Ent.skip (Ent.skip (Ent.skip (Ent.refl _))))))) | exact Ent.skip (Ent.skip (Ent.skip (Ent.skip (Ent.skip (Ent.skip (Ent.skip (Ent.skip (Ent.refl _)))))))) | exact Ent.skip (Ent.skip (Ent.skip (Ent.skip (Ent.skip (Ent.skip (Ent.skip (Ent.skip (Ent.skip (Ent.refl _)))))))))) ?_))⟩
                        · skip
                          refine ⟨_, rfl, ?_⟩
                          go_wp2
                          refine ⟨hs.only3, ?_⟩
                          refine wpAllP_next [11] (by kernel_rfl) (fun c hc => ?_)
                          simp only [List.mem_singleton] at hc
                          subst hc
                          refine ⟨_, rfl, ?_⟩
                          go_wp2
                          refine ⟨hs.only3, ?_⟩
                          refine wpAll_last [14] (by kernel_rfl) (fun c hc => ?_)
                          simp only [List.mem_singleton] at hc
                          subst hc
                          refine ⟨_, rfl, ?_⟩
                          go_wp2
                          go_meet
                          first | exact ⟨rfl, rfl, hs.ent (by (repeat first | exact Ent.refl _ | refine Ent.step (by first | exact Ent.refl _ | exact Ent.skip (Ent.refl _) | exact Ent.skip (Ent.skip (Ent.refl _)) | exact Ent.skip (Ent.skip (Ent.skip (Ent.refl _))) | exact Ent.skip (Ent.skip (Ent.skip (Ent.skip (Ent.refl _)))) | exact Ent.skip (Ent.skip (Ent.skip (Ent.skip (Ent.skip (Ent.refl _))))) | exact Ent.skip (Ent.skip (Ent.skip (Ent.skip (Ent.skip (Ent.skip (Ent.refl _)))))) | exact Ent.skip (Ent.skip (Ent.skip (Ent.skip (Ent.skip (Ent.skip (Ent.skip (Ent.refl _))))))) | exact Ent.skip (Ent.skip (Ent.skip (Ent.skip (Ent.skip (Ent.skip (Ent.skip (Ent.skip (Ent.refl _)))))))) | exact Ent.skip (Ent.skip (Ent.skip (Ent.skip (Ent.skip (Ent.skip (Ent.skip (Ent.skip (Ent.skip (Ent.refl _)))))))))) ?_))⟩ | exact ⟨rfl, rfl, by rw [show l2.set k (X, s') = l2 from by rw [← HS.out]; exact set_same3 HC.out]; exact hs.ent (by (repeat first | exact Ent.refl _ | refine Ent.step (by first | exact Ent.refl _ | exact Ent.skip (Ent.refl _) | exact Ent.skip (Ent.skip (Ent.refl _)) | exact Ent.skip (Ent.skip (Ent.skip (Ent.refl _))) | exact Ent.skip (Ent.skip (Ent.skip (Ent.skip (Ent.refl _)))) | exact Ent.skip (Ent.skip (Ent.skip (Ent.skip (Ent.skip (Ent.refl _))))) | exact Ent.skip (Ent.skip (Ent.skip (Ent.skip (Ent.skip (Ent.skip (Ent.refl _)))))) | exact Ent.skip (Ent.skip (Ent.skip (Ent.skip (Ent.skip (Ent.skip (Ent.skip (Ent.refl _))))))) | exact Ent.skip (Ent.skip (Ent.skip (Ent.skip (Ent.skip (Ent.skip (Ent.skip (Ent.skip (Ent.refl _)))))))) | exact Ent.skip (Ent.skip (Ent.skip (Ent.skip (Ent.skip (Ent.skip (Ent.skip (Ent.skip (Ent.skip (Ent.refl _)))))))))) ?_))⟩
                    · skip
                      refine ⟨_, rfl, ?_⟩
                      go_wp2
                      refine ⟨hs.only3, ?_⟩
                      refine wpAllP_next [9] (by kernel_rfl) (fun c hc => ?_)
                      simp only [List.mem_singleton] at hc
                      subst hc
                      refine ⟨_, rfl, ?_⟩
                      go_wp2
                      refine ⟨hs.only3, ?_⟩
                      refine wpAllP_next [12] (by kernel_rfl) (fun c hc => ?_)
                      simp only [List.mem_singleton] at hc
                      subst hc
                      refine ⟨_, rfl, ?_⟩
                      refine wpl_store_agg (v := val3 q) rfl rfl (size3 _) (hs.ent (M := blk g20 (c3 V3.z).toArray 40 :: own (some ⟨gB, 0, none⟩) m cB 29 1 (rgP l2) :: blk g14 (c5o ⟨0, oi, ov⟩).toArray 72 :: blk g15 (c3 x).toArray 40 :: Sls (l2.set k (X, s')) :: blk g16 (c3 p0).toArray 40 :: []) (by (repeat first | exact Ent.refl _ | refine Ent.step (by first | exact Ent.refl _ | exact Ent.skip (Ent.refl _) | exact Ent.skip (Ent.skip (Ent.refl _)) | exact Ent.skip (Ent.skip (Ent.skip (Ent.refl _))) | exact Ent.skip (Ent.skip (Ent.skip (Ent.skip (Ent.refl _)))) | exact Ent.skip (Ent.skip (Ent.skip (Ent.skip (Ent.skip (Ent.refl _))))) | exact Ent.skip (Ent.skip (Ent.skip (Ent.skip (Ent.skip (Ent.skip (Ent.refl _)))))) | exact Ent.skip (Ent.skip (Ent.skip (Ent.skip (Ent.skip (Ent.skip (Ent.skip (Ent.refl _))))))) | exact Ent.skip (Ent.skip (Ent.skip (Ent.skip (Ent.skip (Ent.skip (Ent.skip (Ent.skip (Ent.refl _)))))))) | exact Ent.skip (Ent.skip (Ent.skip (Ent.skip (Ent.skip (Ent.skip (Ent.skip (Ent.skip (Ent.skip (Ent.refl _)))))))))) ?_))) WrA.slot3 ?_
                      clear hs
                      intro w hs
                      replace hs : St w0 (own (some ⟨gB, 0, none⟩) m cB 29 1 (rgP l2) :: blk g14 (c5o ⟨0, oi, ov⟩).toArray 72 :: blk g15 (c3 x).toArray 40 :: Sls (l2.set k (X, s')) :: blk g16 (c3 p0).toArray 40 :: blk g20 (c3 q).toArray 40 :: []) w := hs.ent (by (repeat first | exact Ent.refl _ | refine Ent.step (by first | exact Ent.refl _ | exact Ent.skip (Ent.refl _) | exact Ent.skip (Ent.skip (Ent.refl _)) | exact Ent.skip (Ent.skip (Ent.skip (Ent.refl _))) | exact Ent.skip (Ent.skip (Ent.skip (Ent.skip (Ent.refl _)))) | exact Ent.skip (Ent.skip (Ent.skip (Ent.skip (Ent.skip (Ent.refl _))))) | exact Ent.skip (Ent.skip (Ent.skip (Ent.skip (Ent.skip (Ent.skip (Ent.refl _)))))) | exact Ent.skip (Ent.skip (Ent.skip (Ent.skip (Ent.skip (Ent.skip (Ent.skip (Ent.refl _))))))) | exact Ent.skip (Ent.skip (Ent.skip (Ent.skip (Ent.skip (Ent.skip (Ent.skip (Ent.skip (Ent.refl _)))))))) | exact Ent.skip (Ent.skip (Ent.skip (Ent.skip (Ent.skip (Ent.skip (Ent.skip (Ent.skip (Ent.skip (Ent.refl _)))))))))) ?_))
                      refine wpList_nil ⟨rfl, hs.only3, ?_⟩
                      refine wpAllP_next [13] (by kernel_rfl) (fun c hc => ?_)
                      simp only [List.mem_singleton] at hc
                      subst hc
                      refine ⟨_, rfl, ?_⟩
                      go_wp2
                      refine ⟨hs.only3, ?_⟩
                      refine wpAll_last [14] (by kernel_rfl) (fun c hc => ?_)
                      simp only [List.mem_singleton] at hc
                      subst hc
                      refine ⟨_, rfl, ?_⟩
                      go_wp2
                      go_meet
                      first | exact ⟨rfl, rfl, hs.ent (by (repeat first | exact Ent.refl _ | refine Ent.step (by first | exact Ent.refl _ | exact Ent.skip (Ent.refl _) | exact Ent.skip (Ent.skip (Ent.refl _)) | exact Ent.skip (Ent.skip (Ent.skip (Ent.refl _))) | exact Ent.skip (Ent.skip (Ent.skip (Ent.skip (Ent.refl _)))) | exact Ent.skip (Ent.skip (Ent.skip (Ent.skip (Ent.skip (Ent.refl _))))) | exact Ent.skip (Ent.skip (Ent.skip (Ent.skip (Ent.skip (Ent.skip (Ent.refl _)))))) | exact Ent.skip (Ent.skip (Ent.skip (Ent.skip (Ent.skip (Ent.skip (Ent.skip (Ent.refl _))))))) | exact Ent.skip (Ent.skip (Ent.skip (Ent.skip (Ent.skip (Ent.skip (Ent.skip (Ent.skip (Ent.refl _)))))))) | exact Ent.skip (Ent.skip (Ent.skip (Ent.skip (Ent.skip (Ent.skip (Ent.skip (Ent.skip (Ent.skip (Ent.refl _)))))))))) ?_))⟩ | exact ⟨rfl, rfl, by rw [show l2.set k (X, s') = l2 from by rw [← HS.out]; exact set_same3 HC.out]; exact hs.ent (by (repeat first | exact Ent.refl _ | refine Ent.step (by first | exact Ent.refl _ | exact Ent.skip (Ent.refl _) | exact Ent.skip (Ent.skip (Ent.refl _)) | exact Ent.skip (Ent.skip (Ent.skip (Ent.refl _))) | exact Ent.skip (Ent.skip (Ent.skip (Ent.skip (Ent.refl _)))) | exact Ent.skip (Ent.skip (Ent.skip (Ent.skip (Ent.skip (Ent.refl _))))) | exact Ent.skip (Ent.skip (Ent.skip (Ent.skip (Ent.skip (Ent.skip (Ent.refl _)))))) | exact Ent.skip (Ent.skip (Ent.skip (Ent.skip (Ent.skip (Ent.skip (Ent.skip (Ent.refl _))))))) | exact Ent.skip (Ent.skip (Ent.skip (Ent.skip (Ent.skip (Ent.skip (Ent.skip (Ent.skip (Ent.refl _)))))))) | exact Ent.skip (Ent.skip (Ent.skip (Ent.skip (Ent.skip (Ent.skip (Ent.skip (Ent.skip (Ent.skip (Ent.refl _)))))))))) ?_))⟩
                  · skip
                    refine ⟨_, rfl, ?_⟩
                    go_wp2
                    refine ⟨hs.only3, ?_⟩
                    refine wpAllP_next [9, 10] (by kernel_rfl) (fun c hc => ?_)
                    simp only [List.mem_cons, List.not_mem_nil, or_false] at hc
                    rcases hc with rfl | rfl
                    · skip
                      refine ⟨_, rfl, ?_⟩
                      go_wp2
                      refine ⟨hs.only3, ?_⟩
                      refine wpAllP_next [10, 12] (by kernel_rfl) (fun c hc => ?_)
                      simp only [List.mem_cons, List.not_mem_nil, or_false] at hc
                      rcases hc with rfl | rfl
                      · skip
                        refine ⟨_, rfl, ?_⟩
                        go_wp2
                        refine ⟨hs.only3, ?_⟩
                        refine wpAllP_next [12] (by kernel_rfl) (fun c hc => ?_)
                        simp only [List.mem_singleton] at hc
                        subst hc
                        refine ⟨_, rfl, ?_⟩
                        refine wpl_store_agg (v := val3 q) rfl rfl (size3 _) (hs.ent (M := blk g20 (c3 V3.z).toArray 40 :: own (some ⟨gB, 0, none⟩) m cB 29 1 (rgP l2) :: blk g14 (c5o ⟨0, oi, ov⟩).toArray 72 :: blk g15 (c3 x).toArray 40 :: Sls (l2.set k (X, s')) :: blk g16 (c3 p0).toArray 40 :: []) (by (repeat first | exact Ent.refl _ | refine Ent.step (by first | exact Ent.refl _ | exact Ent.skip (Ent.refl _) | exact Ent.skip (Ent.skip (Ent.refl _)) | exact Ent.skip (Ent.skip (Ent.skip (Ent.refl _))) | exact Ent.skip (Ent.skip (Ent.skip (Ent.skip (Ent.refl _)))) | exact Ent.skip (Ent.skip (Ent.skip (Ent.skip (Ent.skip (Ent.refl _))))) | exact Ent.skip (Ent.skip (Ent.skip (Ent.skip (Ent.skip (Ent.skip (Ent.refl _)))))) | exact Ent.skip (Ent.skip (Ent.skip (Ent.skip (Ent.skip (Ent.skip (Ent.skip (Ent.refl _))))))) | exact Ent.skip (Ent.skip (Ent.skip (Ent.skip (Ent.skip (Ent.skip (Ent.skip (Ent.skip (Ent.refl _)))))))) | exact Ent.skip (Ent.skip (Ent.skip (Ent.skip (Ent.skip (Ent.skip (Ent.skip (Ent.skip (Ent.skip (Ent.refl _)))))))))) ?_))) WrA.slot3 ?_
                        clear hs
                        intro w hs
                        replace hs : St w0 (own (some ⟨gB, 0, none⟩) m cB 29 1 (rgP l2) :: blk g14 (c5o ⟨0, oi, ov⟩).toArray 72 :: blk g15 (c3 x).toArray 40 :: Sls (l2.set k (X, s')) :: blk g16 (c3 p0).toArray 40 :: blk g20 (c3 q).toArray 40 :: []) w := hs.ent (by (repeat first | exact Ent.refl _ | refine Ent.step (by first | exact Ent.refl _ | exact Ent.skip (Ent.refl _) | exact Ent.skip (Ent.skip (Ent.refl _)) | exact Ent.skip (Ent.skip (Ent.skip (Ent.refl _))) | exact Ent.skip (Ent.skip (Ent.skip (Ent.skip (Ent.refl _)))) | exact Ent.skip (Ent.skip (Ent.skip (Ent.skip (Ent.skip (Ent.refl _))))) | exact Ent.skip (Ent.skip (Ent.skip (Ent.skip (Ent.skip (Ent.skip (Ent.refl _)))))) | exact Ent.skip (Ent.skip (Ent.skip (Ent.skip (Ent.skip (Ent.skip (Ent.skip (Ent.refl _))))))) | exact Ent.skip (Ent.skip (Ent.skip (Ent.skip (Ent.skip (Ent.skip (Ent.skip (Ent.skip (Ent.refl _)))))))) | exact Ent.skip (Ent.skip (Ent.skip (Ent.skip (Ent.skip (Ent.skip (Ent.skip (Ent.skip (Ent.skip (Ent.refl _)))))))))) ?_))
                        refine wpList_nil ⟨rfl, hs.only3, ?_⟩
                        refine wpAllP_next [13] (by kernel_rfl) (fun c hc => ?_)
                        simp only [List.mem_singleton] at hc
                        subst hc
                        refine ⟨_, rfl, ?_⟩
                        go_wp2
                        refine ⟨hs.only3, ?_⟩
                        refine wpAll_last [14] (by kernel_rfl) (fun c hc => ?_)
                        simp only [List.mem_singleton] at hc
                        subst hc
                        refine ⟨_, rfl, ?_⟩
                        go_wp2
                        go_meet
                        first | exact ⟨rfl, rfl, hs.ent (by (repeat first | exact Ent.refl _ | refine Ent.step (by first | exact Ent.refl _ | exact Ent.skip (Ent.refl _) | exact Ent.skip (Ent.skip (Ent.refl _)) | exact Ent.skip (Ent.skip (Ent.skip (Ent.refl _))) | exact Ent.skip (Ent.skip (Ent.skip (Ent.skip (Ent.refl _)))) | exact Ent.skip (Ent.skip (Ent.skip (Ent.skip (Ent.skip (Ent.refl _))))) | exact Ent.skip (Ent.skip (Ent.skip (Ent.skip (Ent.skip (Ent.skip (Ent.refl _)))))) | exact Ent.skip (Ent.skip (Ent.skip (Ent.skip (Ent.skip (Ent.skip (Ent.skip (Ent.refl _))))))) | exact Ent.skip (Ent.skip (Ent.skip (Ent.skip (Ent.skip (Ent.skip (Ent.skip (Ent.skip (Ent.refl _)))))))) | exact Ent.skip (Ent.skip (Ent.skip (Ent.skip (Ent.skip (Ent.skip (Ent.skip (Ent.skip (Ent.skip (Ent.refl _)))))))))) ?_))⟩ | exact ⟨rfl, rfl, by rw [show l2.set k (X, s') = l2 from by rw [← HS.out]; exact set_same3 HC.out]; exact hs.ent (by (repeat first | exact Ent.refl _ | refine Ent.step (by first | exact Ent.refl _ | exact Ent.skip (Ent.refl _) | exact Ent.skip (Ent.skip (Ent.refl _)) | exact Ent.skip (Ent.skip (Ent.skip (Ent.refl _))) | exact Ent.skip (Ent.skip (Ent.skip (Ent.skip (Ent.refl _)))) | exact Ent.skip (Ent.skip (Ent.skip (Ent.skip (Ent.skip (Ent.refl _))))) | exact Ent.skip (Ent.skip (Ent.skip (Ent.skip (Ent.skip (Ent.skip (Ent.refl _)))))) | exact Ent.skip (Ent.skip (Ent.skip (Ent.skip (Ent.skip (Ent.skip (Ent.skip (Ent.refl _))))))) | exact Ent.skip (Ent.skip (Ent.skip (Ent.skip (Ent.skip (Ent.skip (Ent.skip (Ent.skip (Ent.refl _)))))))) | exact Ent.skip (Ent.skip (Ent.skip (Ent.skip (Ent.skip (Ent.skip (Ent.skip (Ent.skip (Ent.skip (Ent.refl _)))))))))) ?_))⟩
                      · skip
                        refine ⟨_, rfl, ?_⟩
                        refine wpl_store_agg (v := val3 q) rfl rfl (size3 _) (hs.ent (M := blk g20 (c3 V3.z).toArray 40 :: own (some ⟨gB, 0, none⟩) m cB 29 1 (rgP l2) :: blk g14 (c5o ⟨0, oi, ov⟩).toArray 72 :: blk g15 (c3 x).toArray 40 :: Sls (l2.set k (X, s')) :: blk g16 (c3 p0).toArray 40 :: []) (by (repeat first | exact Ent.refl _ | refine Ent.step (by first | exact Ent.refl _ | exact Ent.skip (Ent.refl _) | exact Ent.skip (Ent.skip (Ent.refl _)) | exact Ent.skip (Ent.skip (Ent.skip (Ent.refl _))) | exact Ent.skip (Ent.skip (Ent.skip (Ent.skip (Ent.refl _)))) | exact Ent.skip (Ent.skip (Ent.skip (Ent.skip (Ent.skip (Ent.refl _))))) | exact Ent.skip (Ent.skip (Ent.skip (Ent.skip (Ent.skip (Ent.skip (Ent.refl _)))))) | exact Ent.skip (Ent.skip (Ent.skip (Ent.skip (Ent.skip (Ent.skip (Ent.skip (Ent.refl _))))))) | exact Ent.skip (Ent.skip (Ent.skip (Ent.skip (Ent.skip (Ent.skip (Ent.skip (Ent.skip (Ent.refl _)))))))) | exact Ent.skip (Ent.skip (Ent.skip (Ent.skip (Ent.skip (Ent.skip (Ent.skip (Ent.skip (Ent.skip (Ent.refl _)))))))))) ?_))) WrA.slot3 ?_
                        clear hs
                        intro w hs
                        replace hs : St w0 (own (some ⟨gB, 0, none⟩) m cB 29 1 (rgP l2) :: blk g14 (c5o ⟨0, oi, ov⟩).toArray 72 :: blk g15 (c3 x).toArray 40 :: Sls (l2.set k (X, s')) :: blk g16 (c3 p0).toArray 40 :: blk g20 (c3 q).toArray 40 :: []) w := hs.ent (by (repeat first | exact Ent.refl _ | refine Ent.step (by first | exact Ent.refl _ | exact Ent.skip (Ent.refl _) | exact Ent.skip (Ent.skip (Ent.refl _)) | exact Ent.skip (Ent.skip (Ent.skip (Ent.refl _))) | exact Ent.skip (Ent.skip (Ent.skip (Ent.skip (Ent.refl _)))) | exact Ent.skip (Ent.skip (Ent.skip (Ent.skip (Ent.skip (Ent.refl _))))) | exact Ent.skip (Ent.skip (Ent.skip (Ent.skip (Ent.skip (Ent.skip (Ent.refl _)))))) | exact Ent.skip (Ent.skip (Ent.skip (Ent.skip (Ent.skip (Ent.skip (Ent.skip (Ent.refl _))))))) | exact Ent.skip (Ent.skip (Ent.skip (Ent.skip (Ent.skip (Ent.skip (Ent.skip (Ent.skip (Ent.refl _)))))))) | exact Ent.skip (Ent.skip (Ent.skip (Ent.skip (Ent.skip (Ent.skip (Ent.skip (Ent.skip (Ent.skip (Ent.refl _)))))))))) ?_))
                        refine wpList_nil ⟨rfl, hs.only3, ?_⟩
                        refine wpAllP_next [10] (by kernel_rfl) (fun c hc => ?_)
                        simp only [List.mem_singleton] at hc
                        subst hc
                        refine ⟨_, rfl, ?_⟩
                        go_wp2
                        refine ⟨hs.only3, ?_⟩
                        refine wpAllP_next [13] (by kernel_rfl) (fun c hc => ?_)
                        simp only [List.mem_singleton] at hc
                        subst hc
                        refine ⟨_, rfl, ?_⟩
                        go_wp2
                        refine ⟨hs.only3, ?_⟩
                        refine wpAll_last [14] (by kernel_rfl) (fun c hc => ?_)
                        simp only [List.mem_singleton] at hc
                        subst hc
                        refine ⟨_, rfl, ?_⟩
                        go_wp2
                        go_meet
                        first | exact ⟨rfl, rfl, hs.ent (by (repeat first | exact Ent.refl _ | refine Ent.step (by first | exact Ent.refl _ | exact Ent.skip (Ent.refl _) | exact Ent.skip (Ent.skip (Ent.refl _)) | exact Ent.skip (Ent.skip (Ent.skip (Ent.refl _))) | exact Ent.skip (Ent.skip (Ent.skip (Ent.skip (Ent.refl _)))) | exact Ent.skip (Ent.skip (Ent.skip (Ent.skip (Ent.skip (Ent.refl _))))) | exact Ent.skip (Ent.skip (Ent.skip (Ent.skip (Ent.skip (Ent.skip (Ent.refl _)))))) | exact Ent.skip (Ent.skip (Ent.skip (Ent.skip (Ent.skip (Ent.skip (Ent.skip (Ent.refl _))))))) | exact Ent.skip (Ent.skip (Ent.skip (Ent.skip (Ent.skip (Ent.skip (Ent.skip (Ent.skip (Ent.refl _)))))))) | exact Ent.skip (Ent.skip (Ent.skip (Ent.skip (Ent.skip (Ent.skip (Ent.skip (Ent.skip (Ent.skip (Ent.refl _)))))))))) ?_))⟩ | exact ⟨rfl, rfl, by rw [show l2.set k (X, s') = l2 from by rw [← HS.out]; exact set_same3 HC.out]; exact hs.ent (by (repeat first | exact Ent.refl _ | refine Ent.step (by first | exact Ent.refl _ | exact Ent.skip (Ent.refl _) | exact Ent.skip (Ent.skip (Ent.refl _)) | exact Ent.skip (Ent.skip (Ent.skip (Ent.refl _))) | exact Ent.skip (Ent.skip (Ent.skip (Ent.skip (Ent.refl _)))) | exact Ent.skip (Ent.skip (Ent.skip (Ent.skip (Ent.skip (Ent.refl _))))) | exact Ent.skip (Ent.skip (Ent.skip (Ent.skip (Ent.skip (Ent.skip (Ent.refl _)))))) | exact Ent.skip (Ent.skip (Ent.skip (Ent.skip (Ent.skip (Ent.skip (Ent.skip (Ent.refl _))))))) | exact Ent.skip (Ent.skip (Ent.skip (Ent.skip (Ent.skip (Ent.skip (Ent.skip (Ent.skip (Ent.refl _)))))))) | exact Ent.skip (Ent.skip (Ent.skip (Ent.skip (Ent.skip (Ent.skip (Ent.skip (Ent.skip (Ent.skip (Ent.refl _)))))))))) ?_))⟩
                    · skip
                      refine ⟨_, rfl, ?_⟩
                      go_wp2
                      refine ⟨hs.only3, ?_⟩
                      refine wpAllP_next [9] (by kernel_rfl) (fun c hc => ?_)
                      simp only [List.mem_singleton] at hc
                      subst hc
                      refine ⟨_, rfl, ?_⟩
                      go_wp2
                      refine ⟨hs.only3, ?_⟩
                      refine wpAllP_next [12] (by kernel_rfl) (fun c hc => ?_)
                      simp only [List.mem_singleton] at hc
                      subst hc
                      refine ⟨_, rfl, ?_⟩
                      refine wpl_store_agg (v := val3 q) rfl rfl (size3 _) (hs.ent (M := blk g20 (c3 V3.z).toArray 40 :: own (some ⟨gB, 0, none⟩) m cB 29 1 (rgP l2) :: blk g14 (c5o ⟨0, oi, ov⟩).toArray 72 :: blk g15 (c3 x).toArray 40 :: Sls (l2.set k (X, s')) :: blk g16 (c3 p0).toArray 40 :: []) (by (repeat first | exact Ent.refl _ | refine Ent.step (by first | exact Ent.refl _ | exact Ent.skip (Ent.refl _) | exact Ent.skip (Ent.skip (Ent.refl _)) | exact Ent.skip (Ent.skip (Ent.skip (Ent.refl _))) | exact Ent.skip (Ent.skip (Ent.skip (Ent.skip (Ent.refl _)))) | exact Ent.skip (Ent.skip (Ent.skip (Ent.skip (Ent.skip (Ent.refl _))))) | exact Ent.skip (Ent.skip (Ent.skip (Ent.skip (Ent.skip (Ent.skip (Ent.refl _)))))) | exact Ent.skip (Ent.skip (Ent.skip (Ent.skip (Ent.skip (Ent.skip (Ent.skip (Ent.refl _))))))) | exact Ent.skip (Ent.skip (Ent.skip (Ent.skip (Ent.skip (Ent.skip (Ent.skip (Ent.skip (Ent.refl _)))))))) | exact Ent.skip (Ent.skip (Ent.skip (Ent.skip (Ent.skip (Ent.skip (Ent.skip (Ent.skip (Ent.skip (Ent.refl _)))))))))) ?_))) WrA.slot3 ?_
                      clear hs
                      intro w hs
                      replace hs : St w0 (own (some ⟨gB, 0, none⟩) m cB 29 1 (rgP l2) :: blk g14 (c5o ⟨0, oi, ov⟩).toArray 72 :: blk g15 (c3 x).toArray 40 :: Sls (l2.set k (X, s')) :: blk g16 (c3 p0).toArray 40 :: blk g20 (c3 q).toArray 40 :: []) w := hs.ent (by (repeat first | exact Ent.refl _ | refine Ent.step (by first | exact Ent.refl _ | exact Ent.skip (Ent.refl _) | exact Ent.skip (Ent.skip (Ent.refl _)) | exact Ent.skip (Ent.skip (Ent.skip (Ent.refl _))) | exact Ent.skip (Ent.skip (Ent.skip (Ent.skip (Ent.refl _)))) | exact Ent.skip (Ent.skip (Ent.skip (Ent.skip (Ent.skip (Ent.refl _))))) | exact Ent.skip (Ent.skip (Ent.skip (Ent.skip (Ent.skip (Ent.skip (Ent.refl _)))))) | exact Ent.skip (Ent.skip (Ent.skip (Ent.skip (Ent.skip (Ent.skip (Ent.skip (Ent.refl _))))))) | exact Ent.skip (Ent.skip (Ent.skip (Ent.skip (Ent.skip (Ent.skip (Ent.skip (Ent.skip (Ent.refl _)))))))) | exact Ent.skip (Ent.skip (Ent.skip (Ent.skip (Ent.skip (Ent.skip (Ent.skip (Ent.skip (Ent.skip (Ent.refl _)))))))))) ?_))
                      refine wpList_nil ⟨rfl, hs.only3, ?_⟩
                      refine wpAllP_next [13] (by kernel_rfl) (fun c hc => ?_)
                      simp only [List.mem_singleton] at hc
                      subst hc
                      refine ⟨_, rfl, ?_⟩
                      go_wp2
                      refine ⟨hs.only3, ?_⟩
                      refine wpAll_last [14] (by kernel_rfl) (fun c hc => ?_)
                      simp only [List.mem_singleton] at hc
                      subst hc
                      refine ⟨_, rfl, ?_⟩
                      go_wp2
                      go_meet
                      first | exact ⟨rfl, rfl, hs.ent (by (repeat first | exact Ent.refl _ | refine Ent.step (by first | exact Ent.refl _ | exact Ent.skip (Ent.refl _) | exact Ent.skip (Ent.skip (Ent.refl _)) | exact Ent.skip (Ent.skip (Ent.skip (Ent.refl _))) | exact Ent.skip (Ent.skip (Ent.skip (Ent.skip (Ent.refl _)))) | exact Ent.skip (Ent.skip (Ent.skip (Ent.skip (Ent.skip (Ent.refl _))))) | exact Ent.skip (Ent.skip (Ent.skip (Ent.skip (Ent.skip (Ent.skip (Ent.refl _)))))) | exact Ent.skip (Ent.skip (Ent.skip (Ent.skip (Ent.skip (Ent.skip (Ent.skip (Ent.refl _))))))) | exact Ent.skip (Ent.skip (Ent.skip (Ent.skip (Ent.skip (Ent.skip (Ent.skip (Ent.skip (Ent.refl _)))))))) | exact Ent.skip (Ent.skip (Ent.skip (Ent.skip (Ent.skip (Ent.skip (Ent.skip (Ent.skip (Ent.skip (Ent.refl _)))))))))) ?_))⟩ | exact ⟨rfl, rfl, by rw [show l2.set k (X, s') = l2 from by rw [← HS.out]; exact set_same3 HC.out]; exact hs.ent (by (repeat first | exact Ent.refl _ | refine Ent.step (by first | exact Ent.refl _ | exact Ent.skip (Ent.refl _) | exact Ent.skip (Ent.skip (Ent.refl _)) | exact Ent.skip (Ent.skip (Ent.skip (Ent.refl _))) | exact Ent.skip (Ent.skip (Ent.skip (Ent.skip (Ent.refl _)))) | exact Ent.skip (Ent.skip (Ent.skip (Ent.skip (Ent.skip (Ent.refl _))))) | exact Ent.skip (Ent.skip (Ent.skip (Ent.skip (Ent.skip (Ent.skip (Ent.refl _)))))) | exact Ent.skip (Ent.skip (Ent.skip (Ent.skip (Ent.skip (Ent.skip (Ent.skip (Ent.refl _))))))) | exact Ent.skip (Ent.skip (Ent.skip (Ent.skip (Ent.skip (Ent.skip (Ent.skip (Ent.skip (Ent.refl _)))))))) | exact Ent.skip (Ent.skip (Ent.skip (Ent.skip (Ent.skip (Ent.skip (Ent.skip (Ent.skip (Ent.skip (Ent.refl _)))))))))) ?_))⟩
                · by_cases h1 : ok = 1
                  · subst h1
                    rw [(al_1 oi x s).1] at HS1
                    rw [(al_1 oi x s).2.1] at HQ1
                    rw [(al_1 oi x s).2.2.1] at HB1
                    rw [(al_1 oi x s).2.2.2] at HE1
                    have HU : Hid (s.get oi = q) := HQ1
                    have HB : Hid (s.has oi = hb) := HB1
                    have HE : Hid (0 = e) := HE1
                    have HS : Hid (s.take oi = s') := HS1
                    clear HQ1 HB1 HE1 HS1 h0
                    obtain rfl := HE.out
                    go_upto_region 31 with (fail)
                    refine wp_all_plain (n := 6) [false, false, false, false, false, false, true, true, true, true, true, true] hs.only3 (by kernel_rfl) (by kernel_rfl) (by kernel_rfl) fun hne => ?_
                    have c1 := (Rd.own (w0 := w0) (g := gB) (n := m) (cap := cB) (e := 29) (size := 1) (L := [blk g14 (c5o ⟨1, oi, ov⟩).toArray 72, blk g15 (c3 x).toArray 40]) (rgP_get HC.out)).alln
                    have c2 := ((Rd.blk (w0 := w0) (g := g14) (k := 1) (cs := (c5o ⟨1, oi, ov⟩).toArray) (t := 72) (L := [blk g15 (c3 x).toArray 40]) (v := .int .i64 oi) rfl).tail (p := own (some ⟨gB, 0, none⟩) m cB 29 1 (rgP l2))).alln
                    simp only [pickOps]
                    repeat (go_big_quiet_step (fail))
                    refine wpQuiet_nil ?_
                    clear hne c1 c2
                    replace hs := hs.drew
                    refine wpAllP_next [6] (by kernel_rfl) (fun c hc => ?_)
                    simp only [List.mem_singleton] at hc
                    subst hc
                    refine ⟨_, rfl, ?_⟩
                    go_wp2_with (first
                      | (go_at_call 31; refine (sls_take (hs.ent (M := Sls l2 :: own (some ⟨gB, 0, none⟩) m cB 29 1 (rgP l2) :: blk g14 (c5o ⟨1, oi, ov⟩).toArray 72 :: blk g15 (c3 x).toArray 40 :: blk g16 (c3 p0).toArray 40 :: blk g20 (c3 V3.z).toArray 40 :: []) (by (repeat first | exact Ent.refl _ | refine Ent.step (by first | exact Ent.refl _ | exact Ent.skip (Ent.refl _) | exact Ent.skip (Ent.skip (Ent.refl _)) | exact Ent.skip (Ent.skip (Ent.skip (Ent.refl _))) | exact Ent.skip (Ent.skip (Ent.skip (Ent.skip (Ent.refl _)))) | exact Ent.skip (Ent.skip (Ent.skip (Ent.skip (Ent.skip (Ent.refl _))))) | exact Ent.skip (Ent.skip (Ent.skip (Ent.skip (Ent.skip (Ent.skip (Ent.refl _)))))) | exact Ent.skip (Ent.skip (Ent.skip (Ent.skip (Ent.skip (Ent.skip (Ent.skip (Ent.refl _))))))) | exact Ent.skip (Ent.skip (Ent.skip (Ent.skip (Ent.skip (Ent.skip (Ent.skip (Ent.skip (Ent.refl _)))))))) | exact Ent.skip (Ent.skip (Ent.skip (Ent.skip (Ent.skip (Ent.skip (Ent.skip (Ent.skip (Ent.skip (Ent.refl _)))))))))) ?_))) HC HWF HEV.out HU HB HS).mono ?_; clear hs; rintro r w ⟨rfl, hs⟩))
                    replace hs : St w0 (own (some ⟨gB, 0, none⟩) m cB 29 1 (rgP l2) :: blk g14 (c5o ⟨1, oi, ov⟩).toArray 72 :: blk g15 (c3 x).toArray 40 :: Sls (l2.set k (X, s')) :: blk g16 (c3 p0).toArray 40 :: blk g20 (c3 V3.z).toArray 40 :: []) w := hs.ent (by (repeat first | exact Ent.refl _ | refine Ent.step (by first | exact Ent.refl _ | exact Ent.skip (Ent.refl _) | exact Ent.skip (Ent.skip (Ent.refl _)) | exact Ent.skip (Ent.skip (Ent.skip (Ent.refl _))) | exact Ent.skip (Ent.skip (Ent.skip (Ent.skip (Ent.refl _)))) | exact Ent.skip (Ent.skip (Ent.skip (Ent.skip (Ent.skip (Ent.refl _))))) | exact Ent.skip (Ent.skip (Ent.skip (Ent.skip (Ent.skip (Ent.skip (Ent.refl _)))))) | exact Ent.skip (Ent.skip (Ent.skip (Ent.skip (Ent.skip (Ent.skip (Ent.skip (Ent.refl _))))))) | exact Ent.skip (Ent.skip (Ent.skip (Ent.skip (Ent.skip (Ent.skip (Ent.skip (Ent.skip (Ent.refl _)))))))) | exact Ent.skip (Ent.skip (Ent.skip (Ent.skip (Ent.skip (Ent.skip (Ent.skip (Ent.skip (Ent.skip (Ent.refl _)))))))))) ?_))
                    refine ⟨hs.only3, ?_⟩
                    refine wpAllP_next [7] (by kernel_rfl) (fun c hc => ?_)
                    simp only [List.mem_singleton] at hc
                    subst hc
                    refine ⟨_, rfl, ?_⟩
                    go_wp2
                    refine ⟨hs.only3, ?_⟩
                    refine wpAllP_next [8, 9] (by kernel_rfl) (fun c hc => ?_)
                    simp only [List.mem_cons, List.not_mem_nil, or_false] at hc
                    rcases hc with rfl | rfl
                    · skip
                      refine ⟨_, rfl, ?_⟩
                      go_wp2
                      refine ⟨hs.only3, ?_⟩
                      refine wpAllP_next [9, 10] (by kernel_rfl) (fun c hc => ?_)
                      simp only [List.mem_cons, List.not_mem_nil, or_false] at hc
                      rcases hc with rfl | rfl
                      · skip
                        refine ⟨_, rfl, ?_⟩
                        go_wp2
                        refine ⟨hs.only3, ?_⟩
                        refine wpAllP_next [10] (by kernel_rfl) (fun c hc => ?_)
                        simp only [List.mem_singleton] at hc
                        subst hc
                        refine ⟨_, rfl, ?_⟩
                        refine wpl_store_agg (v := val3 q) rfl rfl (size3 _) (hs.ent (M := blk g20 (c3 V3.z).toArray 40 :: own (some ⟨gB, 0, none⟩) m cB 29 1 (rgP l2) :: blk g14 (c5o ⟨1, oi, ov⟩).toArray 72 :: blk g15 (c3 x).toArray 40 :: Sls (l2.set k (X, s')) :: blk g16 (c3 p0).toArray 40 :: []) (by (repeat first | exact Ent.refl _ | refine Ent.step (by first | exact Ent.refl _ | exact Ent.skip (Ent.refl _) | exact Ent.skip (Ent.skip (Ent.refl _)) | exact Ent.skip (Ent.skip (Ent.skip (Ent.refl _))) | exact Ent.skip (Ent.skip (Ent.skip (Ent.skip (Ent.refl _)))) | exact Ent.skip (Ent.skip (Ent.skip (Ent.skip (Ent.skip (Ent.refl _))))) | exact Ent.skip (Ent.skip (Ent.skip (Ent.skip (Ent.skip (Ent.skip (Ent.refl _)))))) | exact Ent.skip (Ent.skip (Ent.skip (Ent.skip (Ent.skip (Ent.skip (Ent.skip (Ent.refl _))))))) | exact Ent.skip (Ent.skip (Ent.skip (Ent.skip (Ent.skip (Ent.skip (Ent.skip (Ent.skip (Ent.refl _)))))))) | exact Ent.skip (Ent.skip (Ent.skip (Ent.skip (Ent.skip (Ent.skip (Ent.skip (Ent.skip (Ent.skip (Ent.refl _)))))))))) ?_))) WrA.slot3 ?_
                        clear hs
                        intro w hs
                        replace hs : St w0 (own (some ⟨gB, 0, none⟩) m cB 29 1 (rgP l2) :: blk g14 (c5o ⟨1, oi, ov⟩).toArray 72 :: blk g15 (c3 x).toArray 40 :: Sls (l2.set k (X, s')) :: blk g16 (c3 p0).toArray 40 :: blk g20 (c3 q).toArray 40 :: []) w := hs.ent (by (repeat first | exact Ent.refl _ | refine Ent.step (by first | exact Ent.refl _ | exact Ent.skip (Ent.refl _) | exact Ent.skip (Ent.skip (Ent.refl _)) | exact Ent.skip (Ent.skip (Ent.skip (Ent.refl _))) | exact Ent.skip (Ent.skip (Ent.skip (Ent.skip (Ent.refl _)))) | exact Ent.skip (Ent.skip (Ent.skip (Ent.skip (Ent.skip (Ent.refl _))))) | exact Ent.skip (Ent.skip (Ent.skip (Ent.skip (Ent.skip (Ent.skip (Ent.refl _)))))) | exact Ent.skip (Ent.skip (Ent.skip (Ent.skip (Ent.skip (Ent.skip (Ent.skip (Ent.refl _))))))) | exact Ent.skip (Ent.skip (Ent.skip (Ent.skip (Ent.skip (Ent.skip (Ent.skip (Ent.skip (Ent.refl _)))))))) | exact Ent.skip (Ent.skip (Ent.skip (Ent.skip (Ent.skip (Ent.skip (Ent.skip (Ent.skip (Ent.skip (Ent.refl _)))))))))) ?_))
                        refine wpList_nil ⟨rfl, hs.only3, ?_⟩
                        refine wpAll_last [11] (by kernel_rfl) (fun c hc => ?_)
                        simp only [List.mem_singleton] at hc
                        subst hc
                        refine ⟨_, rfl, ?_⟩
                        go_wp2
                        go_meet
                        first | exact ⟨rfl, rfl, hs.ent (by (repeat first | exact Ent.refl _ | refine Ent.step (by first | exact Ent.refl _ | exact Ent.skip (Ent.refl _) | exact Ent.skip (Ent.skip (Ent.refl _)) | exact Ent.skip (Ent.skip (Ent.skip (Ent.refl _))) | exact Ent.skip (Ent.skip (Ent.skip (Ent.skip (Ent.refl _)))) | exact Ent.skip (Ent.skip (Ent.skip (Ent.skip (Ent.skip (Ent.refl _))))) | exact Ent.skip (Ent.skip (Ent.skip (Ent.skip (Ent.skip (Ent.skip (Ent.refl _)))))) | exact Ent.skip (Ent.skip (Ent.skip (Ent.skip (Ent.skip (Ent.skip (Ent.skip (Ent.refl _))))))) | exact Ent.skip (Ent.skip (Ent.skip (Ent.skip (Ent.skip (Ent.skip (Ent.skip (Ent.skip (Ent.refl _)))))))) | exact Ent.skip (Ent.skip (Ent.skip (Ent.skip (Ent.skip (Ent.skip (Ent.skip (Ent.skip (Ent.skip (Ent.refl _)))))))))) ?_))⟩ | exact ⟨rfl, rfl, by rw [show l2.set k (X, s') = l2 from by rw [← HS.out]; exact set_same3 HC.out]; exact hs.ent (by (repeat first | exact Ent.refl _ | refine Ent.step (by first | exact Ent.refl _ | exact Ent.skip (Ent.refl _) | exact Ent.skip (Ent.skip (Ent.refl _)) | exact Ent.skip (Ent.skip (Ent.skip (Ent.refl _))) | exact Ent.skip (Ent.skip (Ent.skip (Ent.skip (Ent.refl _)))) | exact Ent.skip (Ent.skip (Ent.skip (Ent.skip (Ent.skip (Ent.refl _))))) | exact Ent.skip (Ent.skip (Ent.skip (Ent.skip (Ent.skip (Ent.skip (Ent.refl _)))))) | exact Ent.skip (Ent.skip (Ent.skip (Ent.skip (Ent.skip (Ent.skip (Ent.skip (Ent.refl _))))))) | exact Ent.skip (Ent.skip (Ent.skip (Ent.skip (Ent.skip (Ent.skip (Ent.skip (Ent.skip (Ent.refl _)))))))) | exact Ent.skip (Ent.skip (Ent.skip (Ent.skip (Ent.skip (Ent.skip (Ent.skip (Ent.skip (Ent.skip (Ent.refl _)))))))))) ?_))⟩
                      · skip
                        refine ⟨_, rfl, ?_⟩
                        refine wpl_store_agg (v := val3 q) rfl rfl (size3 _) (hs.ent (M := blk g20 (c3 V3.z).toArray 40 :: own (some ⟨gB, 0, none⟩) m cB 29 1 (rgP l2) :: blk g14 (c5o ⟨1, oi, ov⟩).toArray 72 :: blk g15 (c3 x).toArray 40 :: Sls (l2.set k (X, s')) :: blk g16 (c3 p0).toArray 40 :: []) (by (repeat first | exact Ent.refl _ | refine Ent.step (by first | exact Ent.refl _ | exact Ent.skip (Ent.refl _) | exact Ent.skip (Ent.skip (Ent.refl _)) | exact Ent.skip (Ent.skip (Ent.skip (Ent.refl _))) | exact Ent.skip (Ent.skip (Ent.skip (Ent.skip (Ent.refl _)))) | exact Ent.skip (Ent.skip (Ent.skip (Ent.skip (Ent.skip (Ent.refl _))))) | exact Ent.skip (Ent.skip (Ent.skip (Ent.skip (Ent.skip (Ent.skip (Ent.refl _)))))) | exact Ent.skip (Ent.skip (Ent.skip (Ent.skip (Ent.skip (Ent.skip (Ent.skip (Ent.refl _))))))) | exact Ent.skip (Ent.skip (Ent.skip (Ent.skip (Ent.skip (Ent.skip (Ent.skip (Ent.skip (Ent.refl _)))))))) | exact Ent.skip (Ent.skip (Ent.skip (Ent.skip (Ent.skip (Ent.skip (Ent.skip (Ent.skip (Ent.skip (Ent.refl _)))))))))) ?_))) WrA.slot3 ?_
                        clear hs
                        intro w hs
                        replace hs : St w0 (own (some ⟨gB, 0, none⟩) m cB 29 1 (rgP l2) :: blk g14 (c5o ⟨1, oi, ov⟩).toArray 72 :: blk g15 (c3 x).toArray 40 :: Sls (l2.set k (X, s')) :: blk g16 (c3 p0).toArray 40 :: blk g20 (c3 q).toArray 40 :: []) w := hs.ent (by (repeat first | exact Ent.refl _ | refine Ent.step (by first | exact Ent.refl _ | exact Ent.skip (Ent.refl _) | exact Ent.skip (Ent.skip (Ent.refl _)) | exact Ent.skip (Ent.skip (Ent.skip (Ent.refl _))) | exact Ent.skip (Ent.skip (Ent.skip (Ent.skip (Ent.refl _)))) | exact Ent.skip (Ent.skip (Ent.skip (Ent.skip (Ent.skip (Ent.refl _))))) | exact Ent.skip (Ent.skip (Ent.skip (Ent.skip (Ent.skip (Ent.skip (Ent.refl _)))))) | exact Ent.skip (Ent.skip (Ent.skip (Ent.skip (Ent.skip (Ent.skip (Ent.skip (Ent.refl _))))))) | exact Ent.skip (Ent.skip (Ent.skip (Ent.skip (Ent.skip (Ent.skip (Ent.skip (Ent.skip (Ent.refl _)))))))) | exact Ent.skip (Ent.skip (Ent.skip (Ent.skip (Ent.skip (Ent.skip (Ent.skip (Ent.skip (Ent.skip (Ent.refl _)))))))))) ?_))
                        refine wpList_nil ⟨rfl, hs.only3, ?_⟩
                        refine wpAllP_next [9] (by kernel_rfl) (fun c hc => ?_)
                        simp only [List.mem_singleton] at hc
                        subst hc
                        refine ⟨_, rfl, ?_⟩
                        go_wp2
                        refine ⟨hs.only3, ?_⟩
                        refine wpAll_last [11] (by kernel_rfl) (fun c hc => ?_)
                        simp only [List.mem_singleton] at hc
                        subst hc
                        refine ⟨_, rfl, ?_⟩
                        go_wp2
                        go_meet
                        first | exact ⟨rfl, rfl, hs.ent (by (repeat first | exact Ent.refl _ | refine Ent.step (by first | exact Ent.refl _ | exact Ent.skip (Ent.refl _) | exact Ent.skip (Ent.skip (Ent.refl _)) | exact Ent.skip (Ent.skip (Ent.skip (Ent.refl _))) | exact Ent.skip (Ent.skip (Ent.skip (Ent.skip (Ent.refl _)))) | exact Ent.skip (Ent.skip (Ent.skip (Ent.skip (Ent.skip (Ent.refl _))))) | exact Ent.skip (Ent.skip (Ent.skip (Ent.skip (Ent.skip (Ent.skip (Ent.refl _)))))) | exact Ent.skip (Ent.skip (Ent.skip (Ent.skip (Ent.skip (Ent.skip (Ent.skip (Ent.refl _))))))) | exact Ent.skip (Ent.skip (Ent.skip (Ent.skip (Ent.skip (Ent.skip (Ent.skip (Ent.skip (Ent.refl _)))))))) | exact Ent.skip (Ent.skip (Ent.skip (Ent.skip (Ent.skip (Ent.skip (Ent.skip (Ent.skip (Ent.skip (Ent.refl _)))))))))) ?_))⟩ | exact ⟨rfl, rfl, by rw [show l2.set k (X, s') = l2 from by rw [← HS.out]; exact set_same3 HC.out]; exact hs.ent (by (repeat first | exact Ent.refl _ | refine Ent.step (by first | exact Ent.refl _ | exact Ent.skip (Ent.refl _) | exact Ent.skip (Ent.skip (Ent.refl _)) | exact Ent.skip (Ent.skip (Ent.skip (Ent.refl _))) | exact Ent.skip (Ent.skip (Ent.skip (Ent.skip (Ent.refl _)))) | exact Ent.skip (Ent.skip (Ent.skip (Ent.skip (Ent.skip (Ent.refl _))))) | exact Ent.skip (Ent.skip (Ent.skip (Ent.skip (Ent.skip (Ent.skip (Ent.refl _)))))) | exact Ent.skip (Ent.skip (Ent.skip (Ent.skip (Ent.skip (Ent.skip (Ent.skip (Ent.refl _))))))) | exact Ent.skip (Ent.skip (Ent.skip (Ent.skip (Ent.skip (Ent.skip (Ent.skip (Ent.skip (Ent.refl _)))))))) | exact Ent.skip (Ent.skip (Ent.skip (Ent.skip (Ent.skip (Ent.skip (Ent.skip (Ent.skip (Ent.skip (Ent.refl _)))))))))) ?_))⟩
                    · skip
                      refine ⟨_, rfl, ?_⟩
                      go_wp2
                      refine ⟨hs.only3, ?_⟩
                      refine wpAllP_next [8] (by kernel_rfl) (fun c hc => ?_)
                      simp only [List.mem_singleton] at hc
                      subst hc
                      refine ⟨_, rfl, ?_⟩
                      go_wp2
                      refine ⟨hs.only3, ?_⟩
                      refine wpAllP_next [10] (by kernel_rfl) (fun c hc => ?_)
                      simp only [List.mem_singleton] at hc
                      subst hc
                      refine ⟨_, rfl, ?_⟩
                      refine wpl_store_agg (v := val3 q) rfl rfl (size3 _) (hs.ent (M := blk g20 (c3 V3.z).toArray 40 :: own (some ⟨gB, 0, none⟩) m cB 29 1 (rgP l2) :: blk g14 (c5o ⟨1, oi, ov⟩).toArray 72 :: blk g15 (c3 x).toArray 40 :: Sls (l2.set k (X, s')) :: blk g16 (c3 p0).toArray 40 :: []) (by (repeat first | exact Ent.refl _ | refine Ent.step (by first | exact Ent.refl _ | exact Ent.skip (Ent.refl _) | exact Ent.skip (Ent.skip (Ent.refl _)) | exact Ent.skip (Ent.skip (Ent.skip (Ent.refl _))) | exact Ent.skip (Ent.skip (Ent.skip (Ent.skip (Ent.refl _)))) | exact Ent.skip (Ent.skip (Ent.skip (Ent.skip (Ent.skip (Ent.refl _))))) | exact Ent.skip (Ent.skip (Ent.skip (Ent.skip (Ent.skip (Ent.skip (Ent.refl _)))))) | exact Ent.skip (Ent.skip (Ent.skip (Ent.skip (Ent.skip (Ent.skip (Ent.skip (Ent.refl _))))))) | exact Ent.skip (Ent.skip (Ent.skip (Ent.skip (Ent.skip (Ent.skip (Ent.skip (Ent.skip (Ent.refl _)))))))) | exact Ent.skip (Ent.skip (Ent.skip (Ent.skip (Ent.skip (Ent.skip (Ent.skip (Ent.skip (Ent.skip (Ent.refl _)))))))))) ?_))) WrA.slot3 ?_
                      clear hs
                      intro w hs
                      replace hs : St w0 (own (some ⟨gB, 0, none⟩) m cB 29 1 (rgP l2) :: blk g14 (c5o ⟨1, oi, ov⟩).toArray 72 :: blk g15 (c3 x).toArray 40 :: Sls (l2.set k (X, s')) :: blk g16 (c3 p0).toArray 40 :: blk g20 (c3 q).toArray 40 :: []) w := hs.ent (by (repeat first | exact Ent.refl _ | refine Ent.step (by first | exact Ent.refl _ | exact Ent.skip (Ent.refl _) | exact Ent.skip (Ent.skip (Ent.refl _)) | exact Ent.skip (Ent.skip (Ent.skip (Ent.refl _))) | exact Ent.skip (Ent.skip (Ent.skip (Ent.skip (Ent.refl _)))) | exact Ent.skip (Ent.skip (Ent.skip (Ent.skip (Ent.skip (Ent.refl _))))) | exact Ent.skip (Ent.skip (Ent.skip (Ent.skip (Ent.skip (Ent.skip (Ent.refl _)))))) | exact Ent.skip (Ent.skip (Ent.skip (Ent.skip (Ent.skip (Ent.skip (Ent.skip (Ent.refl _))))))) | exact Ent.skip (Ent.skip (Ent.skip (Ent.skip (Ent.skip (Ent.skip (Ent.skip (Ent.skip (Ent.refl _)))))))) | exact Ent.skip (Ent.skip (Ent.skip (Ent.skip (Ent.skip (Ent.skip (Ent.skip (Ent.skip (Ent.skip (Ent.refl _)))))))))) ?_))
                      refine wpList_nil ⟨rfl, hs.only3, ?_⟩
                      refine wpAll_last [11] (by kernel_rfl) (fun c hc => ?_)
                      simp only [List.mem_singleton] at hc
                      subst hc
                      refine ⟨_, rfl, ?_⟩
                      go_wp2
                      go_meet
                      first | exact ⟨rfl, rfl, hs.ent (by (repeat first | exact Ent.refl _ | refine Ent.step (by first | exact Ent.refl _ | exact Ent.skip (Ent.refl _) | exact Ent.skip (Ent.skip (Ent.refl _)) | exact Ent.skip (Ent.skip (Ent.skip (Ent.refl _))) | exact Ent.skip (Ent.skip (Ent.skip (Ent.skip (Ent.refl _)))) | exact Ent.skip (Ent.skip (Ent.skip (Ent.skip (Ent.skip (Ent.refl _))))) | exact Ent.skip (Ent.skip (Ent.skip (Ent.skip (Ent.skip (Ent.skip (Ent.refl _)))))) | exact Ent.skip (Ent.skip (Ent.skip (Ent.skip (Ent.skip (Ent.skip (Ent.skip (Ent.refl _))))))) | exact Ent.skip (Ent.skip (Ent.skip (Ent.skip (Ent.skip (Ent.skip (Ent.skip (Ent.skip (Ent.refl _)))))))) | exact Ent.skip (Ent.skip (Ent.skip (Ent.skip (Ent.skip (Ent.skip (Ent.skip (Ent.skip (Ent.skip (Ent.refl _)))))))))) ?_))⟩ | exact ⟨rfl, rfl, by rw [show l2.set k (X, s') = l2 from by rw [← HS.out]; exact set_same3 HC.out]; exact hs.ent (by (repeat first | exact Ent.refl _ | refine Ent.step (by first | exact Ent.refl _ | exact Ent.skip (Ent.refl _) | exact Ent.skip (Ent.skip (Ent.refl _)) | exact Ent.skip (Ent.skip (Ent.skip (Ent.refl _))) | exact Ent.skip (Ent.skip (Ent.skip (Ent.skip (Ent.refl _)))) | exact Ent.skip (Ent.skip (Ent.skip (Ent.skip (Ent.skip (Ent.refl _))))) | exact Ent.skip (Ent.skip (Ent.skip (Ent.skip (Ent.skip (Ent.skip (Ent.refl _)))))) | exact Ent.skip (Ent.skip (Ent.skip (Ent.skip (Ent.skip (Ent.skip (Ent.skip (Ent.refl _))))))) | exact Ent.skip (Ent.skip (Ent.skip (Ent.skip (Ent.skip (Ent.skip (Ent.skip (Ent.skip (Ent.refl _)))))))) | exact Ent.skip (Ent.skip (Ent.skip (Ent.skip (Ent.skip (Ent.skip (Ent.skip (Ent.skip (Ent.skip (Ent.refl _)))))))))) ?_))⟩
                  · by_cases h2 : ok = 2
                    · subst h2
                      rw [(al_2 oi x s).1] at HS1
                      rw [(al_2 oi x s).2.1] at HQ1
                      rw [(al_2 oi x s).2.2.1] at HB1
                      rw [(al_2 oi x s).2.2.2] at HE1
                      have HU : Hid (s.get oi = q) := HQ1
                      have HB : Hid (s.has oi = hb) := HB1
                      have HE : Hid (0 = e) := HE1
                      have HS : Hid (s = s') := HS1
                      clear HQ1 HB1 HE1 HS1 h0 h1
                      obtain rfl := HE.out
                      replace hs : St w0 [own (some ⟨gB, 0, none⟩) m cB 29 1 (rgP l2), blk g14 (c5o ⟨2, oi, ov⟩).toArray 72, Sls l2, blk g15 (c3 x).toArray 40, blk g16 (c3 p0).toArray 40, blk g20 (c3 V3.z).toArray 40] _ := hs.ent (by (repeat first | exact Ent.refl _ | refine Ent.step (by first | exact Ent.refl _ | exact Ent.skip (Ent.refl _) | exact Ent.skip (Ent.skip (Ent.refl _)) | exact Ent.skip (Ent.skip (Ent.skip (Ent.refl _))) | exact Ent.skip (Ent.skip (Ent.skip (Ent.skip (Ent.refl _)))) | exact Ent.skip (Ent.skip (Ent.skip (Ent.skip (Ent.skip (Ent.refl _))))) | exact Ent.skip (Ent.skip (Ent.skip (Ent.skip (Ent.skip (Ent.skip (Ent.refl _)))))) | exact Ent.skip (Ent.skip (Ent.skip (Ent.skip (Ent.skip (Ent.skip (Ent.skip (Ent.refl _))))))) | exact Ent.skip (Ent.skip (Ent.skip (Ent.skip (Ent.skip (Ent.skip (Ent.skip (Ent.skip (Ent.refl _)))))))) | exact Ent.skip (Ent.skip (Ent.skip (Ent.skip (Ent.skip (Ent.skip (Ent.skip (Ent.skip (Ent.skip (Ent.refl _)))))))))) ?_))
                      go_upto_region 33 with (fail)
                      refine wp_all_plain (n := 6) [false, false, false, false, false, false, false, false, false, true, true, true, true, true, true] hs.only3 (by kernel_rfl) (by kernel_rfl) (by kernel_rfl) fun hne => ?_
                      have c1 := (Rd.own (w0 := w0) (g := gB) (n := m) (cap := cB) (e := 29) (size := 1) (L := [blk g14 (c5o ⟨2, oi, ov⟩).toArray 72, Sls l2]) (rgP_get HC.out)).alln
                      have c2 := ((Rd.blk (w0 := w0) (g := g14) (k := 1) (cs := (c5o ⟨2, oi, ov⟩).toArray) (t := 72) (L := [Sls l2]) (v := .int .i64 oi) rfl).tail (p := own (some ⟨gB, 0, none⟩) m cB 29 1 (rgP l2))).alln
                      have c3x := (((Rd.slsp (w0 := w0) (L := []) HC HPV).tail (p := blk g14 (c5o ⟨2, oi, ov⟩).toArray 72)).tail (p := own (some ⟨gB, 0, none⟩) m cB 29 1 (rgP l2))).alln
                      simp only [pickOps]
                      repeat (go_big_quiet_step (fail))
                      refine wpQuiet_nil ?_
                      clear hne c1 c2 c3x
                      replace hs := hs.drew
                      refine wpAllP_next [9] (by kernel_rfl) (fun c hc => ?_)
                      simp only [List.mem_singleton] at hc
                      subst hc
                      refine ⟨_, rfl, ?_⟩
                      refine wpl_inv1 (v := pv) (v1 := .int .i64 oi) rfl rfl (sls_get (hs.ent (M := Sls l2 :: own (some ⟨gB, 0, none⟩) m cB 29 1 (rgP l2) :: blk g14 (c5o ⟨2, oi, ov⟩).toArray 72 :: blk g15 (c3 x).toArray 40 :: blk g16 (c3 p0).toArray 40 :: blk g20 (c3 V3.z).toArray 40 :: []) (by (repeat first | exact Ent.refl _ | refine Ent.step (by first | exact Ent.refl _ | exact Ent.skip (Ent.refl _) | exact Ent.skip (Ent.skip (Ent.refl _)) | exact Ent.skip (Ent.skip (Ent.skip (Ent.refl _))) | exact Ent.skip (Ent.skip (Ent.skip (Ent.skip (Ent.refl _)))) | exact Ent.skip (Ent.skip (Ent.skip (Ent.skip (Ent.skip (Ent.refl _))))) | exact Ent.skip (Ent.skip (Ent.skip (Ent.skip (Ent.skip (Ent.skip (Ent.refl _)))))) | exact Ent.skip (Ent.skip (Ent.skip (Ent.skip (Ent.skip (Ent.skip (Ent.skip (Ent.refl _))))))) | exact Ent.skip (Ent.skip (Ent.skip (Ent.skip (Ent.skip (Ent.skip (Ent.skip (Ent.skip (Ent.refl _)))))))) | exact Ent.skip (Ent.skip (Ent.skip (Ent.skip (Ent.skip (Ent.skip (Ent.skip (Ent.skip (Ent.skip (Ent.refl _)))))))))) ?_))) HC HPV HWF HU HB) ?_
                      rintro r w ⟨rfl, hg⟩
                      replace hs := hs.grew hg
                      clear hg
                      refine wpList_nil ⟨rfl, hs.only3, ?_⟩
                      refine wpAllP_next [10] (by kernel_rfl) (fun c hc => ?_)
                      simp only [List.mem_singleton] at hc
                      subst hc
                      refine ⟨_, rfl, ?_⟩
                      go_wp2
                      refine ⟨hs.only3, ?_⟩
                      refine wpAllP_next [11, 12] (by kernel_rfl) (fun c hc => ?_)
                      simp only [List.mem_cons, List.not_mem_nil, or_false] at hc
                      rcases hc with rfl | rfl
                      · skip
                        refine ⟨_, rfl, ?_⟩
                        go_wp2
                        refine ⟨hs.only3, ?_⟩
                        refine wpAllP_next [12, 13] (by kernel_rfl) (fun c hc => ?_)
                        simp only [List.mem_cons, List.not_mem_nil, or_false] at hc
                        rcases hc with rfl | rfl
                        · skip
                          refine ⟨_, rfl, ?_⟩
                          go_wp2
                          refine ⟨hs.only3, ?_⟩
                          refine wpAllP_next [13] (by kernel_rfl) (fun c hc => ?_)
                          simp only [List.mem_singleton] at hc
                          subst hc
                          refine ⟨_, rfl, ?_⟩
                          refine wpl_store_agg (v := val3 q) rfl rfl (size3 _) (hs.ent (M := blk g20 (c3 V3.z).toArray 40 :: own (some ⟨gB, 0, none⟩) m cB 29 1 (rgP l2) :: blk g14 (c5o ⟨2, oi, ov⟩).toArray 72 :: Sls l2 :: blk g15 (c3 x).toArray 40 :: blk g16 (c3 p0).toArray 40 :: []) (by (repeat first | exact Ent.refl _ | refine Ent.step (by first | exact Ent.refl _ | exact Ent.skip (Ent.refl _) | exact Ent.skip (Ent.skip (Ent.refl _)) | exact Ent.skip (Ent.skip (Ent.skip (Ent.refl _))) | exact Ent.skip (Ent.skip (Ent.skip (Ent.skip (Ent.refl _)))) | exact Ent.skip (Ent.skip (Ent.skip (Ent.skip (Ent.skip (Ent.refl _))))) | exact Ent.skip (Ent.skip (Ent.skip (Ent.skip (Ent.skip (Ent.skip (Ent.refl _)))))) | exact Ent.skip (Ent.skip (Ent.skip (Ent.skip (Ent.skip (Ent.skip (Ent.skip (Ent.refl _))))))) | exact Ent.skip (Ent.skip (Ent.skip (Ent.skip (Ent.skip (Ent.skip (Ent.skip (Ent.skip (Ent.refl _)))))))) | exact Ent.skip (Ent.skip (Ent.skip (Ent.skip (Ent.skip (Ent.skip (Ent.skip (Ent.skip (Ent.skip (Ent.refl _)))))))))) ?_))) WrA.slot3 ?_
                          clear hs
                          intro w hs
                          replace hs : St w0 (own (some ⟨gB, 0, none⟩) m cB 29 1 (rgP l2) :: blk g14 (c5o ⟨2, oi, ov⟩).toArray 72 :: Sls l2 :: blk g15 (c3 x).toArray 40 :: blk g16 (c3 p0).toArray 40 :: blk g20 (c3 q).toArray 40 :: []) w := hs.ent (by (repeat first | exact Ent.refl _ | refine Ent.step (by first | exact Ent.refl _ | exact Ent.skip (Ent.refl _) | exact Ent.skip (Ent.skip (Ent.refl _)) | exact Ent.skip (Ent.skip (Ent.skip (Ent.refl _))) | exact Ent.skip (Ent.skip (Ent.skip (Ent.skip (Ent.refl _)))) | exact Ent.skip (Ent.skip (Ent.skip (Ent.skip (Ent.skip (Ent.refl _))))) | exact Ent.skip (Ent.skip (Ent.skip (Ent.skip (Ent.skip (Ent.skip (Ent.refl _)))))) | exact Ent.skip (Ent.skip (Ent.skip (Ent.skip (Ent.skip (Ent.skip (Ent.skip (Ent.refl _))))))) | exact Ent.skip (Ent.skip (Ent.skip (Ent.skip (Ent.skip (Ent.skip (Ent.skip (Ent.skip (Ent.refl _)))))))) | exact Ent.skip (Ent.skip (Ent.skip (Ent.skip (Ent.skip (Ent.skip (Ent.skip (Ent.skip (Ent.skip (Ent.refl _)))))))))) ?_))
                          refine wpList_nil ⟨rfl, hs.only3, ?_⟩
                          refine wpAll_last [14] (by kernel_rfl) (fun c hc => ?_)
                          simp only [List.mem_singleton] at hc
                          subst hc
                          refine ⟨_, rfl, ?_⟩
                          go_wp2
                          go_meet
                          exact ⟨rfl, rfl, by rw [show l2.set k (X, s') = l2 from by rw [← HS.out]; exact set_same3 HC.out]; exact hs.ent (by (repeat first | exact Ent.refl _ | refine Ent.step (by first | exact Ent.refl _ | exact Ent.skip (Ent.refl _) | exact Ent.skip (Ent.skip (Ent.refl _)) | exact Ent.skip (Ent.skip (Ent.skip (Ent.refl _))) | exact Ent.skip (Ent.skip (Ent.skip (Ent.skip (Ent.refl _)))) | exact Ent.skip (Ent.skip (Ent.skip (Ent.skip (Ent.skip (Ent.refl _))))) | exact Ent.skip (Ent.skip (Ent.skip (Ent.skip (Ent.skip (Ent.skip (Ent.refl _)))))) | exact Ent.skip (Ent.skip (Ent.skip (Ent.skip (Ent.skip (Ent.skip (Ent.skip (Ent.refl _))))))) | exact Ent.skip (Ent.skip (Ent.skip (Ent.skip (Ent.skip (Ent.skip (Ent.skip (Ent.skip (Ent.refl _)))))))) | exact Ent.skip (Ent.skip (Ent.skip (Ent.skip (Ent.skip (Ent.skip (Ent.skip (Ent.skip (Ent.skip (Ent.refl _)))))))))) ?_))⟩
                        · skip
                          refine ⟨_, rfl, ?_⟩
                          refine wpl_store_agg (v := val3 q) rfl rfl (size3 _) (hs.ent (M := blk g20 (c3 V3.z).toArray 40 :: own (some ⟨gB, 0, none⟩) m cB 29 1 (rgP l2) :: blk g14 (c5o ⟨2, oi, ov⟩).toArray 72 :: Sls l2 :: blk g15 (c3 x).toArray 40 :: blk g16 (c3 p0).toArray 40 :: []) (by (repeat first | exact Ent.refl _ | refine Ent.step (by first | exact Ent.refl _ | exact Ent.skip (Ent.refl _) | exact Ent.skip (Ent.skip (Ent.refl _)) | exact Ent.skip (Ent.skip (Ent.skip (Ent.refl _))) | exact Ent.skip (Ent.skip (Ent.skip (Ent.skip (Ent.refl _)))) | exact Ent.skip (Ent.skip (Ent.skip (Ent.skip (Ent.skip (Ent.refl _))))) | exact Ent.skip (Ent.skip (Ent.skip (Ent.skip (Ent.skip (Ent.skip (Ent.refl _)))))) | exact Ent.skip (Ent.skip (Ent.skip (Ent.skip (Ent.skip (Ent.skip (Ent.skip (Ent.refl _))))))) | exact Ent.skip (Ent.skip (Ent.skip (Ent.skip (Ent.skip (Ent.skip (Ent.skip (Ent.skip (Ent.refl _)))))))) | exact Ent.skip (Ent.skip (Ent.skip (Ent.skip (Ent.skip (Ent.skip (Ent.skip (Ent.skip (Ent.skip (Ent.refl _)))))))))) ?_))) WrA.slot3 ?_
                          clear hs
                          intro w hs
                          replace hs : St w0 (own (some ⟨gB, 0, none⟩) m cB 29 1 (rgP l2) :: blk g14 (c5o ⟨2, oi, ov⟩).toArray 72 :: Sls l2 :: blk g15 (c3 x).toArray 40 :: blk g16 (c3 p0).toArray 40 :: blk g20 (c3 q).toArray 40 :: []) w := hs.ent (by (repeat first | exact Ent.refl _ | refine Ent.step (by first | exact Ent.refl _ | exact Ent.skip (Ent.refl _) | exact Ent.skip (Ent.skip (Ent.refl _)) | exact Ent.skip (Ent.skip (Ent.skip (Ent.refl _))) | exact Ent.skip (Ent.skip (Ent.skip (Ent.skip (Ent.refl _)))) | exact Ent.skip (Ent.skip (Ent.skip (Ent.skip (Ent.skip (Ent.refl _))))) | exact Ent.skip (Ent.skip (Ent.skip (Ent.skip (Ent.skip (Ent.skip (Ent.refl _)))))) | exact Ent.skip (Ent.skip (Ent.skip (Ent.skip (Ent.skip (Ent.skip (Ent.skip (Ent.refl _))))))) | exact Ent.skip (Ent.skip (Ent.skip (Ent.skip (Ent.skip (Ent.skip (Ent.skip (Ent.skip (Ent.refl _)))))))) | exact Ent.skip (Ent.skip (Ent.skip (Ent.skip (Ent.skip (Ent.skip (Ent.skip (Ent.skip (Ent.skip (Ent.refl _)))))))))) ?_))
                          refine wpList_nil ⟨rfl, hs.only3, ?_⟩
                          refine wpAllP_next [12] (by kernel_rfl) (fun c hc => ?_)
                          simp only [List.mem_singleton] at hc
                          subst hc
                          refine ⟨_, rfl, ?_⟩
                          go_wp2
                          refine ⟨hs.only3, ?_⟩
                          refine wpAll_last [14] (by kernel_rfl) (fun c hc => ?_)
                          simp only [List.mem_singleton] at hc
                          subst hc
                          refine ⟨_, rfl, ?_⟩
                          go_wp2
                          go_meet
                          exact ⟨rfl, rfl, by rw [show l2.set k (X, s') = l2 from by rw [← HS.out]; exact set_same3 HC.out]; exact hs.ent (by (repeat first | exact Ent.refl _ | refine Ent.step (by first | exact Ent.refl _ | exact Ent.skip (Ent.refl _) | exact Ent.skip (Ent.skip (Ent.refl _)) | exact Ent.skip (Ent.skip (Ent.skip (Ent.refl _))) | exact Ent.skip (Ent.skip (Ent.skip (Ent.skip (Ent.refl _)))) | exact Ent.skip (Ent.skip (Ent.skip (Ent.skip (Ent.skip (Ent.refl _))))) | exact Ent.skip (Ent.skip (Ent.skip (Ent.skip (Ent.skip (Ent.skip (Ent.refl _)))))) | exact Ent.skip (Ent.skip (Ent.skip (Ent.skip (Ent.skip (Ent.skip (Ent.skip (Ent.refl _))))))) | exact Ent.skip (Ent.skip (Ent.skip (Ent.skip (Ent.skip (Ent.skip (Ent.skip (Ent.skip (Ent.refl _)))))))) | exact Ent.skip (Ent.skip (Ent.skip (Ent.skip (Ent.skip (Ent.skip (Ent.skip (Ent.skip (Ent.skip (Ent.refl _)))))))))) ?_))⟩
                      · skip
                        refine ⟨_, rfl, ?_⟩
                        go_wp2
                        refine ⟨hs.only3, ?_⟩
                        refine wpAllP_next [11] (by kernel_rfl) (fun c hc => ?_)
                        simp only [List.mem_singleton] at hc
                        subst hc
                        refine ⟨_, rfl, ?_⟩
                        go_wp2
                        refine ⟨hs.only3, ?_⟩
                        refine wpAllP_next [13] (by kernel_rfl) (fun c hc => ?_)
                        simp only [List.mem_singleton] at hc
                        subst hc
                        refine ⟨_, rfl, ?_⟩
                        refine wpl_store_agg (v := val3 q) rfl rfl (size3 _) (hs.ent (M := blk g20 (c3 V3.z).toArray 40 :: own (some ⟨gB, 0, none⟩) m cB 29 1 (rgP l2) :: blk g14 (c5o ⟨2, oi, ov⟩).toArray 72 :: Sls l2 :: blk g15 (c3 x).toArray 40 :: blk g16 (c3 p0).toArray 40 :: []) (by (repeat first | exact Ent.refl _ | refine Ent.step (by first | exact Ent.refl _ | exact Ent.skip (Ent.refl _) | exact Ent.skip (Ent.skip (Ent.refl _)) | exact Ent.skip (Ent.skip (Ent.skip (Ent.refl _))) | exact Ent.skip (Ent.skip (Ent.skip (Ent.skip (Ent.refl _)))) | exact Ent.skip (Ent.skip (Ent.skip (Ent.skip (Ent.skip (Ent.refl _))))) | exact Ent.skip (Ent.skip (Ent.skip (Ent.skip (Ent.skip (Ent.skip (Ent.refl _)))))) | exact Ent.skip (Ent.skip (Ent.skip (Ent.skip (Ent.skip (Ent.skip (Ent.skip (Ent.refl _))))))) | exact Ent.skip (Ent.skip (Ent.skip (Ent.skip (Ent.skip (Ent.skip (Ent.skip (Ent.skip (Ent.refl _)))))))) | exact Ent.skip (Ent.skip (Ent.skip (Ent.skip (Ent.skip (Ent.skip (Ent.skip (Ent.skip (Ent.skip (Ent.refl _)))))))))) ?_))) WrA.slot3 ?_
                        clear hs
                        intro w hs
                        replace hs : St w0 (own (some ⟨gB, 0, none⟩) m cB 29 1 (rgP l2) :: blk g14 (c5o ⟨2, oi, ov⟩).toArray 72 :: Sls l2 :: blk g15 (c3 x).toArray 40 :: blk g16 (c3 p0).toArray 40 :: blk g20 (c3 q).toArray 40 :: []) w := hs.ent (by (repeat first | exact Ent.refl _ | refine Ent.step (by first | exact Ent.refl _ | exact Ent.skip (Ent.refl _) | exact Ent.skip (Ent.skip (Ent.refl _)) | exact Ent.skip (Ent.skip (Ent.skip (Ent.refl _))) | exact Ent.skip (Ent.skip (Ent.skip (Ent.skip (Ent.refl _)))) | exact Ent.skip (Ent.skip (Ent.skip (Ent.skip (Ent.skip (Ent.refl _))))) | exact Ent.skip (Ent.skip (Ent.skip (Ent.skip (Ent.skip (Ent.skip (Ent.refl _)))))) | exact Ent.skip (Ent.skip (Ent.skip (Ent.skip (Ent.skip (Ent.skip (Ent.skip (Ent.refl _))))))) | exact Ent.skip (Ent.skip (Ent.skip (Ent.skip (Ent.skip (Ent.skip (Ent.skip (Ent.skip (Ent.refl _)))))))) | exact Ent.skip (Ent.skip (Ent.skip (Ent.skip (Ent.skip (Ent.skip (Ent.skip (Ent.skip (Ent.skip (Ent.refl _)))))))))) ?_))
                        refine wpList_nil ⟨rfl, hs.only3, ?_⟩
                        refine wpAll_last [14] (by kernel_rfl) (fun c hc => ?_)
                        simp only [List.mem_singleton] at hc
                        subst hc
                        refine ⟨_, rfl, ?_⟩
                        go_wp2
                        go_meet
                        exact ⟨rfl, rfl, by rw [show l2.set k (X, s') = l2 from by rw [← HS.out]; exact set_same3 HC.out]; exact hs.ent (by (repeat first | exact Ent.refl _ | refine Ent.step (by first | exact Ent.refl _ | exact Ent.skip (Ent.refl _) | exact Ent.skip (Ent.skip (Ent.refl _)) | exact Ent.skip (Ent.skip (Ent.skip (Ent.refl _))) | exact Ent.skip (Ent.skip (Ent.skip (Ent.skip (Ent.refl _)))) | exact Ent.skip (Ent.skip (Ent.skip (Ent.skip (Ent.skip (Ent.refl _))))) | exact Ent.skip (Ent.skip (Ent.skip (Ent.skip (Ent.skip (Ent.skip (Ent.refl _)))))) | exact Ent.skip (Ent.skip (Ent.skip (Ent.skip (Ent.skip (Ent.skip (Ent.skip (Ent.refl _))))))) | exact Ent.skip (Ent.skip (Ent.skip (Ent.skip (Ent.skip (Ent.skip (Ent.skip (Ent.skip (Ent.refl _)))))))) | exact Ent.skip (Ent.skip (Ent.skip (Ent.skip (Ent.skip (Ent.skip (Ent.skip (Ent.skip (Ent.skip (Ent.refl _)))))))))) ?_))⟩
                    · have HU : Hid (V3.z = q) := (al_3 oi x s h0 h1 h2).2.1.symm.trans HQ1.out
                      have HB : Hid (false = hb) := (al_3 oi x s h0 h1 h2).2.2.1.symm.trans HB1.out
                      have HE : Hid (s.errSet oi x = e) := (al_3 oi x s h0 h1 h2).2.2.2.symm.trans HE1.out
                      have HS : Hid (s.set oi x = s') := (al_3 oi x s h0 h1 h2).1.symm.trans HS1.out
                      clear HQ1 HB1 HE1 HS1
                      obtain rfl := HU.out
                      obtain rfl := HB.out
                      go_upto_region 27 with (fail)
                      refine wp_all_plain (n := 2) [false, false, false, false, false, false, false, true, true] hs.only3 (by kernel_rfl) (by kernel_rfl) (by kernel_rfl) fun hne => ?_
                      have c1 := (Rd.own (w0 := w0) (g := gB) (n := m) (cap := cB) (e := 29) (size := 1) (L := [blk g14 (c5o ⟨ok, oi, ov⟩).toArray 72, blk g15 (c3 x).toArray 40]) (rgP_get HC.out)).alln
                      have c2 := ((Rd.blk (w0 := w0) (g := g14) (k := 1) (cs := (c5o ⟨ok, oi, ov⟩).toArray) (t := 72) (L := [blk g15 (c3 x).toArray 40]) (v := .int .i64 oi) rfl).tail (p := own (some ⟨gB, 0, none⟩) m cB 29 1 (rgP l2))).alln
                      have c3x := (((Rd.blk (w0 := w0) (g := g15) (k := 0) (cs := (c3 x).toArray) (t := 40) (L := []) (v := .int .i64 x.k) rfl).tail (p := blk g14 (c5o ⟨ok, oi, ov⟩).toArray 72)).tail (p := own (some ⟨gB, 0, none⟩) m cB 29 1 (rgP l2))).alln
                      have c4x := (((Rd.blk (w0 := w0) (g := g15) (k := 1) (cs := (c3 x).toArray) (t := 40) (L := []) (v := .int .i64 x.a) rfl).tail (p := blk g14 (c5o ⟨ok, oi, ov⟩).toArray 72)).tail (p := own (some ⟨gB, 0, none⟩) m cB 29 1 (rgP l2))).alln
                      have c5x := (((Rd.blk (w0 := w0) (g := g15) (k := 2) (cs := (c3 x).toArray) (t := 40) (L := []) (v := .int .i64 x.b) rfl).tail (p := blk g14 (c5o ⟨ok, oi, ov⟩).toArray 72)).tail (p := own (some ⟨gB, 0, none⟩) m cB 29 1 (rgP l2))).alln
                      simp only [pickOps]
                      repeat (go_big_quiet_step (fail))
                      refine wpQuiet_nil ?_
                      clear hne c1 c2 c3x c4x c5x
                      replace hs := hs.drew
                      refine wpAllP_next [7] (by kernel_rfl) (fun c hc => ?_)
                      simp only [List.mem_singleton] at hc
                      subst hc
                      refine ⟨_, rfl, ?_⟩
                      go_wp2_with (first
                        | (go_at_call 30; refine (sls_set (hs.ent (M := Sls l2 :: own (some ⟨gB, 0, none⟩) m cB 29 1 (rgP l2) :: blk g14 (c5o ⟨ok, oi, ov⟩).toArray 72 :: blk g15 (c3 x).toArray 40 :: blk g16 (c3 p0).toArray 40 :: blk g20 (c3 V3.z).toArray 40 :: []) (by (repeat first | exact Ent.refl _ | refine Ent.step (by first | exact Ent.refl _ | exact Ent.skip (Ent.refl _) | exact Ent.skip (Ent.skip (Ent.refl _)) | exact Ent.skip (Ent.skip (Ent.skip (Ent.refl _))) | exact Ent.skip (Ent.skip (Ent.skip (Ent.skip (Ent.refl _)))) | exact Ent.skip (Ent.skip (Ent.skip (Ent.skip (Ent.skip (Ent.refl _))))) | exact Ent.skip (Ent.skip (Ent.skip (Ent.skip (Ent.skip (Ent.skip (Ent.refl _)))))) | exact Ent.skip (Ent.skip (Ent.skip (Ent.skip (Ent.skip (Ent.skip (Ent.skip (Ent.refl _))))))) | exact Ent.skip (Ent.skip (Ent.skip (Ent.skip (Ent.skip (Ent.skip (Ent.skip (Ent.skip (Ent.refl _)))))))) | exact Ent.skip (Ent.skip (Ent.skip (Ent.skip (Ent.skip (Ent.skip (Ent.skip (Ent.skip (Ent.skip (Ent.refl _)))))))))) ?_))) HC HEV.out HE HS).mono ?_; clear hs; rintro r w ⟨rfl, hs⟩))
                      replace hs : St w0 (own (some ⟨gB, 0, none⟩) m cB 29 1 (rgP l2) :: blk g14 (c5o ⟨ok, oi, ov⟩).toArray 72 :: blk g15 (c3 x).toArray 40 :: Sls (l2.set k (X, s')) :: blk g16 (c3 p0).toArray 40 :: blk g20 (c3 V3.z).toArray 40 :: []) w := hs.ent (by (repeat first | exact Ent.refl _ | refine Ent.step (by first | exact Ent.refl _ | exact Ent.skip (Ent.refl _) | exact Ent.skip (Ent.skip (Ent.refl _)) | exact Ent.skip (Ent.skip (Ent.skip (Ent.refl _))) | exact Ent.skip (Ent.skip (Ent.skip (Ent.skip (Ent.refl _)))) | exact Ent.skip (Ent.skip (Ent.skip (Ent.skip (Ent.skip (Ent.refl _))))) | exact Ent.skip (Ent.skip (Ent.skip (Ent.skip (Ent.skip (Ent.skip (Ent.refl _)))))) | exact Ent.skip (Ent.skip (Ent.skip (Ent.skip (Ent.skip (Ent.skip (Ent.skip (Ent.refl _))))))) | exact Ent.skip (Ent.skip (Ent.skip (Ent.skip (Ent.skip (Ent.skip (Ent.skip (Ent.skip (Ent.refl _)))))))) | exact Ent.skip (Ent.skip (Ent.skip (Ent.skip (Ent.skip (Ent.skip (Ent.skip (Ent.skip (Ent.skip (Ent.refl _)))))))))) ?_))
                      refine ⟨hs.only3, ?_⟩
                      refine wpAll_last [8] (by kernel_rfl) (fun c hc => ?_)
                      simp only [List.mem_singleton] at hc
                      subst hc
                      refine ⟨_, rfl, ?_⟩
                      go_wp2
                      go_meet
                      first | exact ⟨rfl, rfl, hs.ent (by (repeat first | exact Ent.refl _ | refine Ent.step (by first | exact Ent.refl _ | exact Ent.skip (Ent.refl _) | exact Ent.skip (Ent.skip (Ent.refl _)) | exact Ent.skip (Ent.skip (Ent.skip (Ent.refl _))) | exact Ent.skip (Ent.skip (Ent.skip (Ent.skip (Ent.refl _)))) | exact Ent.skip (Ent.skip (Ent.skip (Ent.skip (Ent.skip (Ent.refl _))))) | exact Ent.skip (Ent.skip (Ent.skip (Ent.skip (Ent.skip (Ent.skip (Ent.refl _)))))) | exact Ent.skip (Ent.skip (Ent.skip (Ent.skip (Ent.skip (Ent.skip (Ent.skip (Ent.refl _))))))) | exact Ent.skip (Ent.skip (Ent.skip (Ent.skip (Ent.skip (Ent.skip (Ent.skip (Ent.skip (Ent.refl _)))))))) | exact Ent.skip (Ent.skip (Ent.skip (Ent.skip (Ent.skip (Ent.skip (Ent.skip (Ent.skip (Ent.skip (Ent.refl _)))))))))) ?_))⟩ | exact ⟨rfl, rfl, by rw [show l2.set k (X, s') = l2 from by rw [← HS.out]; exact set_same3 HC.out]; exact hs.ent (by (repeat first | exact Ent.refl _ | refine Ent.step (by first | exact Ent.refl _ | exact Ent.skip (Ent.refl _) | exact Ent.skip (Ent.skip (Ent.refl _)) | exact Ent.skip (Ent.skip (Ent.skip (Ent.refl _))) | exact Ent.skip (Ent.skip (Ent.skip (Ent.skip (Ent.refl _)))) | exact Ent.skip (Ent.skip (Ent.skip (Ent.skip (Ent.skip (Ent.refl _))))) | exact Ent.skip (Ent.skip (Ent.skip (Ent.skip (Ent.skip (Ent.skip (Ent.refl _)))))) | exact Ent.skip (Ent.skip (Ent.skip (Ent.skip (Ent.skip (Ent.skip (Ent.skip (Ent.refl _))))))) | exact Ent.skip (Ent.skip (Ent.skip (Ent.skip (Ent.skip (Ent.skip (Ent.skip (Ent.skip (Ent.refl _)))))))) | exact Ent.skip (Ent.skip (Ent.skip (Ent.skip (Ent.skip (Ent.skip (Ent.skip (Ent.skip (Ent.skip (Ent.refl _)))))))))) ?_))⟩
              case rest =>
              clear hs
              obtain ⟨rfl, rfl, hs⟩ := hcut
              obtain ⟨l3, HL3⟩ : ∃ u, Hid (l2.set k (X, s') = u) := ⟨_, rfl⟩
              have HI3 : Hid (AlI l3 (k + 1) t t' i) := by rw [Hid, ← HL3.out]; exact HI.out.step HC.out HA1.out HL1.out
              have hl3 : Hid (l3.length = m) := by rw [Hid, ← HL3.out, List.length_set]; exact hl2.out
              have hrp : rgP l2 = rgP l3 := by rw [← HL3.out, rgP_set HC.out]
              have HC3 : Hid (l3[k]? = some (X, s')) := by
                have h1 := (List.getElem?_eq_some_iff.1 HC.out).1
                rw [Hid, ← HL3.out, List.getElem?_set, if_pos rfl, if_pos h1]
              rw [HL3.out, hrp] at hs
              clear hrp HEV HQ1 HB1 HE1 HS1 HA1 HL1 HI HL3 hl2
              go_upto_if 143 with (fail)
              by_cases hk0 : k = 0
              · subst hk0
                go_wp2_with (first
                  | (refine wpl_load3 (v := q) (g := g20) rfl (has3_tail (has3_tail (has3_tail (has3_tail (has3_tail (has3_slot (t := 40))))))) agg3 size3n hs ?_)
                  | (refine wpl_store_agg (v := val3 q) rfl rfl (size3 _) (hs.ent (M := blk g16 (c3 p0).toArray 40 :: own (some ⟨gB, 0, none⟩) m cB 29 1 (rgP l3) :: blk g14 (c5o ⟨ok, oi, ov⟩).toArray 72 :: blk g15 (c3 x).toArray 40 :: Sls l3 :: [blk g20 (c3 q).toArray 40]) (by (repeat first | exact Ent.refl _ | refine Ent.step (by first | exact Ent.refl _ | exact Ent.skip (Ent.refl _) | exact Ent.skip (Ent.skip (Ent.refl _)) | exact Ent.skip (Ent.skip (Ent.skip (Ent.refl _))) | exact Ent.skip (Ent.skip (Ent.skip (Ent.skip (Ent.refl _)))) | exact Ent.skip (Ent.skip (Ent.skip (Ent.skip (Ent.skip (Ent.refl _))))) | exact Ent.skip (Ent.skip (Ent.skip (Ent.skip (Ent.skip (Ent.skip (Ent.refl _)))))) | exact Ent.skip (Ent.skip (Ent.skip (Ent.skip (Ent.skip (Ent.skip (Ent.skip (Ent.refl _))))))) | exact Ent.skip (Ent.skip (Ent.skip (Ent.skip (Ent.skip (Ent.skip (Ent.skip (Ent.skip (Ent.refl _)))))))) | exact Ent.skip (Ent.skip (Ent.skip (Ent.skip (Ent.skip (Ent.skip (Ent.skip (Ent.skip (Ent.skip (Ent.refl _)))))))))) ?_))) WrA.slot3 ?_; clear hs; intro w hs))
                have hsN : St w0 [own (some ⟨gB, 0, none⟩) m cB 29 1 (rgP l3), blk g14 (c5o ⟨ok, oi, ov⟩).toArray 72, blk g15 (c3 x).toArray 40, Sls l3, blk g16 (c3 q).toArray 40] w := hs.ent (M := blk g20 (c3 q).toArray 40 :: _) (by (repeat first | exact Ent.refl _ | refine Ent.step (by first | exact Ent.refl _ | exact Ent.skip (Ent.refl _) | exact Ent.skip (Ent.skip (Ent.refl _)) | exact Ent.skip (Ent.skip (Ent.skip (Ent.refl _))) | exact Ent.skip (Ent.skip (Ent.skip (Ent.skip (Ent.refl _)))) | exact Ent.skip (Ent.skip (Ent.skip (Ent.skip (Ent.skip (Ent.refl _))))) | exact Ent.skip (Ent.skip (Ent.skip (Ent.skip (Ent.skip (Ent.skip (Ent.refl _)))))) | exact Ent.skip (Ent.skip (Ent.skip (Ent.skip (Ent.skip (Ent.skip (Ent.skip (Ent.refl _))))))) | exact Ent.skip (Ent.skip (Ent.skip (Ent.skip (Ent.skip (Ent.skip (Ent.skip (Ent.skip (Ent.refl _)))))))) | exact Ent.skip (Ent.skip (Ent.skip (Ent.skip (Ent.skip (Ent.skip (Ent.skip (Ent.skip (Ent.skip (Ent.refl _)))))))))) ?_)) |>.drop
                clear hs
                go_roundw
                case rel => exact ⟨1, l3, q, hb, e, by omega, rfl, rfl, by first | rfl | go_num, fun _ => ⟨rfl, rfl, rfl⟩, hl3, HI3, hsN⟩
                case measure => simp [intOf] <;> omega
              · have hkp : 0 < k := by omega
                obtain ⟨rfl, rfl, rfl⟩ := HK.out hkp
                clear HK hk0
                obtain ⟨y, hy⟩ : ∃ y, l3[0]? = some y := ⟨_, List.getElem?_eq_getElem (by rw [hl3.out]; omega)⟩
                obtain ⟨X0, s0⟩ := y
                have HC0 := Lib.hid hy
                have hA0 := HI3.out.old (show 0 < k + 1 by omega) hy
                have hAk := HI3.out.old (Nat.lt_succ_self k) HC3.out
                obtain ⟨nS, HNS⟩ : ∃ u, Hid (s'.S.length = u) := ⟨_, rfl⟩
                have HN0 : Hid (s0.S.length = nS) := by rw [Hid, ← HNS.out, hA0.S, hAk.S]
                obtain ⟨pv0, HPV0⟩ : ∃ u, Hid (s0.pv = u) := ⟨_, rfl⟩
                clear hy hA0 hAk
                replace hs : St w0 [own (some ⟨gB, 0, none⟩) m cB 29 1 (rgP l3), Sls l3, blk g16 (c3 p0).toArray 40, blk g20 (c3 p0).toArray 40, blk g14 (c5o ⟨ok, oi, ov⟩).toArray 72, blk g15 (c3 x).toArray 40] _ := hs.ent (by (repeat first | exact Ent.refl _ | refine Ent.step (by first | exact Ent.refl _ | exact Ent.skip (Ent.refl _) | exact Ent.skip (Ent.skip (Ent.refl _)) | exact Ent.skip (Ent.skip (Ent.skip (Ent.refl _))) | exact Ent.skip (Ent.skip (Ent.skip (Ent.skip (Ent.refl _)))) | exact Ent.skip (Ent.skip (Ent.skip (Ent.skip (Ent.skip (Ent.refl _))))) | exact Ent.skip (Ent.skip (Ent.skip (Ent.skip (Ent.skip (Ent.skip (Ent.refl _)))))) | exact Ent.skip (Ent.skip (Ent.skip (Ent.skip (Ent.skip (Ent.skip (Ent.skip (Ent.refl _))))))) | exact Ent.skip (Ent.skip (Ent.skip (Ent.skip (Ent.skip (Ent.skip (Ent.skip (Ent.skip (Ent.refl _)))))))) | exact Ent.skip (Ent.skip (Ent.skip (Ent.skip (Ent.skip (Ent.skip (Ent.skip (Ent.skip (Ent.skip (Ent.refl _)))))))))) ?_))
                go_upto_region 36 with (fail)
                refine wp_region_plain [false, false, false, false, false, false, false, false, false, false, false, false, false, false, false, false, false, false, false, false, false, true, false, false, false, false, false, false, true, true, true] hs (by kernel_rfl) (by kernel_rfl) fun hne => ?_
                have c1 := (Rd.own (w0 := w0) (g := gB) (n := m) (cap := cB) (e := 29) (size := 1) (L := (Sls l3 :: blk g16 (c3 p0).toArray 40 :: [blk g20 (c3 p0).toArray 40, blk g14 (c5o ⟨ok, oi, ov⟩).toArray 72, blk g15 (c3 x).toArray 40])) (rgP_get HC3.out)).alln
                have c2 := (Rd.own (w0 := w0) (g := gB) (n := m) (cap := cB) (e := 29) (size := 1) (L := (Sls l3 :: blk g16 (c3 p0).toArray 40 :: [blk g20 (c3 p0).toArray 40, blk g14 (c5o ⟨ok, oi, ov⟩).toArray 72, blk g15 (c3 x).toArray 40])) (rgP_get HC0.out)).alln
                have c3' := ((Rd.slsp (w0 := w0) (L := (blk g16 (c3 p0).toArray 40 :: [blk g20 (c3 p0).toArray 40, blk g14 (c5o ⟨ok, oi, ov⟩).toArray 72, blk g15 (c3 x).toArray 40])) HC3 HPV1).tail (p := own (some ⟨gB, 0, none⟩) m cB 29 1 (rgP l3))).alln
                have c4' := ((Rd.slsp (w0 := w0) (L := (blk g16 (c3 p0).toArray 40 :: [blk g20 (c3 p0).toArray 40, blk g14 (c5o ⟨ok, oi, ov⟩).toArray 72, blk g15 (c3 x).toArray 40])) HC0 HPV0).tail (p := own (some ⟨gB, 0, none⟩) m cB 29 1 (rgP l3))).alln
                have d0 := (((Rd.blk (w0 := w0) (g := g16) (k := 0) (cs := (c3 p0).toArray) (t := 40) (L := [blk g20 (c3 p0).toArray 40, blk g14 (c5o ⟨ok, oi, ov⟩).toArray 72, blk g15 (c3 x).toArray 40]) (v := .int .i64 p0.k) rfl).tail (p := Sls l3)).tail (p := own (some ⟨gB, 0, none⟩) m cB 29 1 (rgP l3))).alln
                have d1 := (((Rd.blk (w0 := w0) (g := g16) (k := 1) (cs := (c3 p0).toArray) (t := 40) (L := [blk g20 (c3 p0).toArray 40, blk g14 (c5o ⟨ok, oi, ov⟩).toArray 72, blk g15 (c3 x).toArray 40]) (v := .int .i64 p0.a) rfl).tail (p := Sls l3)).tail (p := own (some ⟨gB, 0, none⟩) m cB 29 1 (rgP l3))).alln
                have d2 := (((Rd.blk (w0 := w0) (g := g16) (k := 2) (cs := (c3 p0).toArray) (t := 40) (L := [blk g20 (c3 p0).toArray 40, blk g14 (c5o ⟨ok, oi, ov⟩).toArray 72, blk g15 (c3 x).toArray 40]) (v := .int .i64 p0.b) rfl).tail (p := Sls l3)).tail (p := own (some ⟨gB, 0, none⟩) m cB 29 1 (rgP l3))).alln
                have e0 := ((((Rd.blk (w0 := w0) (g := g20) (k := 0) (cs := (c3 p0).toArray) (t := 40) (L := [blk g14 (c5o ⟨ok, oi, ov⟩).toArray 72, blk g15 (c3 x).toArray 40]) (v := .int .i64 p0.k) rfl).tail (p := blk g16 (c3 p0).toArray 40)).tail (p := Sls l3)).tail (p := own (some ⟨gB, 0, none⟩) m cB 29 1 (rgP l3))).alln
                have e1 := ((((Rd.blk (w0 := w0) (g := g20) (k := 1) (cs := (c3 p0).toArray) (t := 40) (L := [blk g14 (c5o ⟨ok, oi, ov⟩).toArray 72, blk g15 (c3 x).toArray 40]) (v := .int .i64 p0.a) rfl).tail (p := blk g16 (c3 p0).toArray 40)).tail (p := Sls l3)).tail (p := own (some ⟨gB, 0, none⟩) m cB 29 1 (rgP l3))).alln
                have e2 := ((((Rd.blk (w0 := w0) (g := g20) (k := 2) (cs := (c3 p0).toArray) (t := 40) (L := [blk g14 (c5o ⟨ok, oi, ov⟩).toArray 72, blk g15 (c3 x).toArray 40]) (v := .int .i64 p0.b) rfl).tail (p := blk g16 (c3 p0).toArray 40)).tail (p := Sls l3)).tail (p := own (some ⟨gB, 0, none⟩) m cB 29 1 (rgP l3))).alln
                simp only [pickOps]
                repeat (go_big_quiet_step (fail))
                refine wpQuiet_nil ?_
                clear hne c1 c2 c3' c4' d0 d1 d2 e0 e1 e2
                simp only [chainIx]
                replace hs := hs.drew
                refine wpChainP_next rfl ?_
                refine wpl_guard rfl ?_
                refine wpl_inv0 (v := pv) rfl (sls_len hs.rot HC3 HPV1 HNS) ?_
                rintro r w ⟨rfl, hg⟩
                replace hs := hs.grew hg
                clear hg
                refine wpList_nil ⟨rfl, hs, ?_⟩
                refine wpChainP_next rfl ?_
                refine wpl_guard rfl ?_
                refine wpl_inv0 (v := pv0) rfl (sls_len hs.rot HC0 HPV0 HN0) ?_
                rintro r w ⟨rfl, hg⟩
                replace hs := hs.grew hg
                clear hg
                refine wpList_nil ⟨rfl, hs, ?_⟩
                refine wpChainP_next rfl ?_
                refine wpl_guard rfl ?_
                go_wp2
                refine wpChain_last rfl ?_
                go_wp2
                have hsN : St w0 [own (some ⟨gB, 0, none⟩) m cB 29 1 (rgP l3), blk g14 (c5o ⟨ok, oi, ov⟩).toArray 72, blk g15 (c3 x).toArray 40, Sls l3, blk g16 (c3 p0).toArray 40] _ := hs.ent (M := blk g20 (c3 p0).toArray 40 :: _) (by (repeat first | exact Ent.refl _ | refine Ent.step (by first | exact Ent.refl _ | exact Ent.skip (Ent.refl _) | exact Ent.skip (Ent.skip (Ent.refl _)) | exact Ent.skip (Ent.skip (Ent.skip (Ent.refl _))) | exact Ent.skip (Ent.skip (Ent.skip (Ent.skip (Ent.refl _)))) | exact Ent.skip (Ent.skip (Ent.skip (Ent.skip (Ent.skip (Ent.refl _))))) | exact Ent.skip (Ent.skip (Ent.skip (Ent.skip (Ent.skip (Ent.skip (Ent.refl _)))))) | exact Ent.skip (Ent.skip (Ent.skip (Ent.skip (Ent.skip (Ent.skip (Ent.skip (Ent.refl _))))))) | exact Ent.skip (Ent.skip (Ent.skip (Ent.skip (Ent.skip (Ent.skip (Ent.skip (Ent.skip (Ent.refl _)))))))) | exact Ent.skip (Ent.skip (Ent.skip (Ent.skip (Ent.skip (Ent.skip (Ent.skip (Ent.skip (Ent.skip (Ent.refl _)))))))))) ?_)) |>.drop
                clear hs
                go_roundw
                case rel => exact ⟨k + 1, l3, p0, hv0, ev0, by omega, rfl, rfl, by first | rfl | go_num, fun _ => ⟨rfl, rfl, rfl⟩, hl3, HI3, hsN⟩
                case measure => simp [intOf] <;> omega
            · obtain rfl : k = m := by omega
              have HIN : Hid (AlI l2 0 t' t' (i + 1)) := HI.out.all (by rw [hl2.out]; exact Nat.le_refl _) t'
              go_wp2
              go_roundw
              case rel => exact ⟨i + 1, l2, t', by omega, by omega, by first | rfl | go_num, hl2, HIN, hs.ent (M := blk g14 (c5o ⟨ok, oi, ov⟩).toArray 72 :: blk g15 (c3 x).toArray 40 :: blk g16 (c3 p0).toArray 40 :: _) (by (repeat first | exact Ent.refl _ | refine Ent.step (by first | exact Ent.refl _ | exact Ent.skip (Ent.refl _) | exact Ent.skip (Ent.skip (Ent.refl _)) | exact Ent.skip (Ent.skip (Ent.skip (Ent.refl _))) | exact Ent.skip (Ent.skip (Ent.skip (Ent.skip (Ent.refl _)))) | exact Ent.skip (Ent.skip (Ent.skip (Ent.skip (Ent.skip (Ent.refl _))))) | exact Ent.skip (Ent.skip (Ent.skip (Ent.skip (Ent.skip (Ent.skip (Ent.refl _)))))) | exact Ent.skip (Ent.skip (Ent.skip (Ent.skip (Ent.skip (Ent.skip (Ent.skip (Ent.refl _))))))) | exact Ent.skip (Ent.skip (Ent.skip (Ent.skip (Ent.skip (Ent.skip (Ent.skip (Ent.skip (Ent.refl _)))))))) | exact Ent.skip (Ent.skip (Ent.skip (Ent.skip (Ent.skip (Ent.skip (Ent.skip (Ent.skip (Ent.skip (Ent.refl _)))))))))) ?_)) |>.drop.drop.drop⟩
              case measure => simp [intOf] <;> omega
end Go.Proofs.Ytmdjpeblbnbjmaa
