/-
  SlotNotes: the walk. (Printed by gen_notes.py.)
-/
import Derived.Test.YtmdjpeblbnbjmaaSlNoL
import Derived.Deep.DeepCutAuto
import Derived.Deep.CutBlock
set_option maxRecDepth 100000
namespace Go.Proofs.Ytmdjpeblbnbjmaa
open Go Go.RowKit
theorem kdE_f : kdE false = 1 := rfl
theorem kdE_t : kdE true = 2 := rfl
attribute [local irreducible] wpList Calls Code.wp okI okN pS tS memS getG pG insS delS getV pV tV okVal newSl SlS.put SlS.err SlS.putU SlS.putB descE mkD mkV SlS.take SlS.set SlS.errSet SlS.get SlS.has kdE
theorem zero5o : (Try.prog.info? 72).bind (·.zero) = some (.agg (c5o ⟨0, 0, V3.z⟩).toArray) := by kernel_rfl
theorem agg5o : aggB Try.prog 72 = true := by kernel_rfl
theorem size5o (o : OpS) : (Try.prog.info? 72).map (·.size) = some (c5o o).length := by kernel_rfl
theorem size5ov (o : OpS) : (Try.prog.info? 72).map (·.size) = some (Value.agg (c5o o).toArray).cells.size := by kernel_rfl
theorem WrA.slot5o {w0 : World} {g : Nat} {u v : OpS} {t : TypeId} {L : List As} : WrA w0 (Ytmdjpeblbnbjmaa.blk g (c5o u).toArray t :: L) ⟨g, 0, none⟩ (Value.agg (c5o v).toArray).cells.toList (Ytmdjpeblbnbjmaa.blk g (c5o v).toArray t :: L) := by
  have := WrA.blk (w0 := w0) (g := g) (o := 0) (cs := c5o u) (t := t) (vs := c5o v) (L := L) (by simp [c5o]) (c5o_one v)
  rwa [splice_all (by simp [c5o])] at this
theorem buildE (a b : Int) (w : World) : (Instr.build 80 #[(0, .int .i64 a), (1, .int .i64 b)]).run Try.prog w = .ok (valE (a, b)) w := by kernel_rfl
def SlS.rdr (s : SlS) : SlS := { s with rds := s.rds ++ [s.evs.length] }
set_option maxHeartbeats 8000000 in
theorem slnotes_c {w0 : World} (a b : Int) {va : Value} {xs : List OpS} (hva : RowsArg c5o Q5o w0 va xs) : Calls Try.prog 9 #[.int .i64 a, .int .i64 b, va] w0 (LawPost w0) := by
  obtain ⟨A, ca, rfl, hnc, hcm, hra, hQ⟩ := hva
  unfold maxLen at hcm
  have hs := St.start w0
  obtain ⟨d, HD⟩ : ∃ d, Hid (mkD a b 0 = d) := ⟨_, rfl⟩
  have hde : descE d = 0 := by rw [← HD.out]; exact mkD_ok a b 0
  obtain ⟨dk, da, db⟩ := d
  obtain ⟨dd, hdd⟩ : ∃ dd : V3, dd = ⟨dk, da, 1000⟩ := ⟨_, rfl⟩
  have hdk : Hid (1 ≤ dk ∧ dk ≤ 3) := by
    unfold descE at hde
    split at hde
    · rename_i h; exact ⟨h.1, h.2.1⟩
    · cases hde
  have HDE : Hid (descE dd = 0) := by
    rw [Hid, hdd]
    unfold descE at hde ⊢
    simp only at hde ⊢
    split at hde
    · rename_i h
      rw [if_pos (by omega)]
      exact hde
    · cases hde
  have HDB : Hid (dd.b = 1000) := by rw [Hid, hdd]
  have HDK : Hid (dd.k = dk) := by rw [Hid, hdd]
  have HDD := Lib.hid hdd
  clear hde hdd
  go_enter Try.func9, Try.ntmps9
  go_upto_region 4 with (first
    | (go_at_call 21; refine (ldesc_c _ _ _ HD).mono ?_; rintro r w ⟨rfl, hg⟩; replace hs := hs.grew hg; clear hg)
    | (refine wpl_alloc zero3D hs ?_; clear hs; intro g7 w hs)
    | (refine wpl_store_agg (v := val3 ⟨dk, da, db⟩) rfl rfl (size3D _) hs WrA.slot3 ?_; clear hs; intro w hs)
    | (refine wpl_store rfl rfl rfl size_int' hs (Wr.c32 (b' := 1000)) ?_; clear hs; intro w hs; rw [← HDD.out] at hs)
    | (refine wpl_load3 (v := dd) rfl (has3_slot (t := 28)) agg3D (size3Dn (v := V3.z)) hs ?_)
    | (go_at_call 15; refine (sl_new hs dd HDE).mono ?_; clear hs; rintro r w ⟨X, v, F, rfl, hs⟩))
  obtain ⟨f, rfl⟩ := newF_some hs.slwf.ok (by rw [HDB.out]; decide)
  have HF := newSl_F dd v f
  obtain ⟨s1, HS1⟩ : ∃ s, Hid ((newSl dd v (some f)).rdr = s) := ⟨_, rfl⟩
  have HR : Hid ((newSl dd v (some f)).F = some f ∧ (newSl dd v (some f)).rds.length < 100 ∧ (newSl dd v (some f)).rds.length = 0) := by unfold newSl; exact ⟨rfl, (show 0 < 100 by decide), rfl⟩
  have HN1 : Hid (NoI s1 dd f v 0 ∧ s1.evs = []) := by rw [Hid, ← HS1.out]; unfold newSl SlS.rdr; exact ⟨⟨rfl, rfl, rfl, rfl, Nat.le_refl _⟩, rfl⟩
  go_upto_region 7 with (first
    | (go_at_call 17; refine (sl_flag_v hs HF).mono ?_; rintro r w ⟨rfl, rfl⟩)
    | (go_at_call 32; refine (sl_reader hs HR.out.1 HR.out.2.1 (n := 0) HR.out.2.2 HS1).mono ?_; clear hs; rintro r w ⟨rfl, hs⟩))
  replace hs : St w0 [SlB X s1, own none 0 0 80 2 (es2 s1.evs), blk g7 (c3 dd).toArray 28] w := by
    rw [HN1.out.2]; exact (hs.own_nil 80 2).rot
  have HEND : Hid (∀ (s : SlS) (k : Nat) (m : Nat) (W : Option Addr) (cW : Nat) (w : World), True) := fun _ _ _ _ _ _ => trivial
  clear HEND
  go_wp2
  go_loopw [12, 13] (fun wv cv wr => ∃ (k m cW : Nat) (W : Option Addr) (s : SlS), (k ≤ xs.length ∧ k ≤ 80) ∧ wv = .slice W m cW ∧ cv = .int .i64 (k : Nat) ∧ Hid (s.evs.length = m) ∧ Hid (NoI s dd f v k) ∧ St w0 [SlB X s, own W m cW 80 2 (es2 s.evs), blk g7 (c3 dd).toArray 28] wr) (fun _ cv _ => xs.length - (intOf cv).toNat)
  case atStart => exact ⟨0, 0, 0, none, s1, ⟨Nat.zero_le _, Nat.zero_le _⟩, rfl, rfl, by rw [Hid, HN1.out.2]; rfl, HN1.out.1, hs⟩
  case round =>
    clear hs HS1 HN1 HR HF
    obtain ⟨k, m, cW, W, s, ⟨hk, hk80⟩, rfl, rfl, hm, hNI, hs⟩ := hrel
    by_cases hlt : k < xs.length ∧ k < 80
    · obtain ⟨h1, h2⟩ := hlt
      obtain ⟨o, ho⟩ : ∃ o, xs[k]? = some o := ⟨_, List.getElem?_eq_getElem h1⟩
      have HWF : (Lit.int .i64 o.i).wf = true := hQ o (List.mem_of_getElem? ho)
      have hcell := fun j x hx => hra.get (rows_get (C := 5) (encX := c5o) (fun _ => rfl) ho j x hx)
      obtain ⟨bb, off, rfl, _⟩ := hcell 0 _ rfl
      have hld : ∀ j x, (c5o o)[j]? = some x → Rd w0 [] ⟨bb, off + k * 5 + j, none⟩ x := fun j x hx => by
        obtain ⟨b', o', he, hr⟩ := hcell j x hx
        injection he with he
        injection he with e1 e2
        subst e1; subst e2
        rw [Nat.add_assoc]; exact hr
      clear hcell ho
      have hmk : m ≤ k := by rw [← hm.out]; exact hNI.out.len
      have HV : Hid (s.pv = v) := hNI.out.pv
      obtain ⟨x, HX⟩ : ∃ x, Hid (mkV dk o.v.a o.v.b = x) := ⟨_, rfl⟩
      have HXO : Hid (okVal x = true ∧ x.k = s.d.k) := ⟨by rw [← HX.out]; exact mkV_ok hdk.out _ _, by rw [← HX.out, mkV_k, hNI.out.d_, HDK.out]⟩
      obtain ⟨u, HU⟩ : ∃ u, Hid (s.get o.i = u) := ⟨_, rfl⟩
      obtain ⟨th, HB⟩ : ∃ u, Hid (s.has o.i = u) := ⟨_, rfl⟩
      have hWf := Lib.hid hs.slwf
      go_upto_region 12 with (first
        | (refine wpl_load_agg (cs := c5o o) (b := bb) (o := off + k * 5) rfl agg5o (size5o o) hs ?hh ?_; case hh => exact fun j x hx => (hld j x hx).tail.tail.tail)
        | (refine wpl_alloc zero5o hs ?_; clear hs; intro g14 w hs)
        | (refine wpl_store_agg (v := .agg (c5o o).toArray) rfl rfl (size5ov o) hs WrA.slot5o ?_; clear hs; intro w hs))
      replace hs : St w0 [SlB X s, blk g14 (c5o o).toArray 72, own W m cW 80 2 (es2 s.evs), blk g7 (c3 dd).toArray 28] _ := hs.ent (by (repeat first | exact Ent.refl _ | refine Ent.step (by first | exact Ent.refl _ | exact Ent.skip (Ent.refl _) | exact Ent.skip (Ent.skip (Ent.refl _)) | exact Ent.skip (Ent.skip (Ent.skip (Ent.refl _))) | exact Ent.skip (Ent.skip (Ent.skip (Ent.skip (Ent.refl _)))) | exact Ent.skip (Ent.skip (Ent.skip (Ent.skip (Ent.skip (Ent.refl _))))) | exact Ent.skip (Ent.skip (Ent.skip (Ent.skip (Ent.skip (Ent.skip (Ent.refl _)))))) | exact Ent.skip (Ent.skip (Ent.skip (Ent.skip (Ent.skip (Ent.skip (Ent.skip (Ent.refl _))))))) | exact Ent.skip (Ent.skip (Ent.skip (Ent.skip (Ent.skip (Ent.skip (Ent.skip (Ent.skip (Ent.refl _)))))))) | exact Ent.skip (Ent.skip (Ent.skip (Ent.skip (Ent.skip (Ent.skip (Ent.skip (Ent.skip (Ent.skip (Ent.refl _)))))))))) ?_))
      simp only [Act.put, List.setIfInBounds_toArray, List.set_cons_succ, List.set_cons_zero]
      have hr0 := fun L => (Rd.blk (w0 := w0) (g := g14) (k := 0) (cs := (c5o o).toArray) (t := 72) (L := L) (v := .int .i64 o.k) rfl)
      have hr1 := fun L => (Rd.blk (w0 := w0) (g := g14) (k := 1) (cs := (c5o o).toArray) (t := 72) (L := L) (v := .int .i64 o.i) rfl)
      have f3 := (Rd.blk (w0 := w0) (g := g14) (k := 3) (cs := (c5o o).toArray) (t := 72) (v := .int .i64 o.v.a) rfl) _ hs.drop
      have f4 := (Rd.blk (w0 := w0) (g := g14) (k := 4) (cs := (c5o o).toArray) (t := 72) (v := .int .i64 o.v.b) rfl) _ hs.drop
      obtain ⟨f7, _, _⟩ := Has3.facts has3_slot hs.drop.drop.drop
      rw [HDK.out] at f7
      go_upto_region 13 with (first
        | (go_at_call 24; refine (lvalue_c _ _ _ HX).mono ?_; rintro r w ⟨rfl, hg⟩; replace hs := hs.grew hg; clear hg f3 f4 f7)
        | (refine wpl_alloc zero3 hs ?_; clear hs; intro g15 w hs)
        | (refine wpl_store_agg (v := val3 x) rfl rfl (size3 _) hs WrA.slot3 ?_; clear hs; intro w hs))
      replace hs : St w0 [SlB X s, blk g14 (c5o o).toArray 72, blk g15 (c3 x).toArray 40, own W m cW 80 2 (es2 s.evs), blk g7 (c3 dd).toArray 28] _ := hs.ent (by (repeat first | exact Ent.refl _ | refine Ent.step (by first | exact Ent.refl _ | exact Ent.skip (Ent.refl _) | exact Ent.skip (Ent.skip (Ent.refl _)) | exact Ent.skip (Ent.skip (Ent.skip (Ent.refl _))) | exact Ent.skip (Ent.skip (Ent.skip (Ent.skip (Ent.refl _)))) | exact Ent.skip (Ent.skip (Ent.skip (Ent.skip (Ent.skip (Ent.refl _))))) | exact Ent.skip (Ent.skip (Ent.skip (Ent.skip (Ent.skip (Ent.skip (Ent.refl _)))))) | exact Ent.skip (Ent.skip (Ent.skip (Ent.skip (Ent.skip (Ent.skip (Ent.skip (Ent.refl _))))))) | exact Ent.skip (Ent.skip (Ent.skip (Ent.skip (Ent.skip (Ent.skip (Ent.skip (Ent.skip (Ent.refl _)))))))) | exact Ent.skip (Ent.skip (Ent.skip (Ent.skip (Ent.skip (Ent.skip (Ent.skip (Ent.skip (Ent.skip (Ent.refl _)))))))))) ?_))
      simp only [Act.put, List.setIfInBounds_toArray, List.set_cons_succ, List.set_cons_zero]
      go_cut [17] (fun q wx => q = .bool th ∧ St w0 [SlB X s, blk g14 (c5o o).toArray 72, blk g15 (c3 x).toArray 40, own W m cW 80 2 (es2 s.evs), blk g7 (c3 dd).toArray 28] wx)
      case first => as_aux_lemma =>
        refine wp_all_plain (n := 7) [false, false, false, false, false, false, true, true, true, true, true, true, true] hs.only2 (by kernel_rfl) (by kernel_rfl) (by kernel_rfl) fun hne => ?_
        have c0 := (Rd.slp_v (w0 := w0) (X := X) (L := [blk g14 (c5o o).toArray 72]) HV).alln
        have c1 := ((hr1 []).tail (p := SlB X s)).alln
        simp only [pickOps]
        repeat (go_big_quiet_step (fail))
        refine wpQuiet_nil ?_
        clear hne c0 c1
        replace hs := hs.drew
        clear hld HXO HX hWf hNI
        refine wpAllP_next [6, 10] (by kernel_rfl) (fun c hc => ?_)
        simp only [List.mem_cons, List.not_mem_nil, or_false] at hc
        rcases hc with rfl | rfl
        · skip
          refine ⟨_, rfl, ?_⟩
          refine wpl_inv1 (v := v) (v1 := .int .i64 o.i) rfl rfl (sl_get hs HV HWF HU HB) ?_
          rintro r w ⟨rfl, hg⟩
          replace hs := hs.grew hg
          clear hg
          refine wpList_nil ⟨rfl, hs.only2, ?_⟩
          refine wpAllP_next [7, 10] (by kernel_rfl) (fun c hc => ?_)
          simp only [List.mem_cons, List.not_mem_nil, or_false] at hc
          rcases hc with rfl | rfl
          · skip
            refine ⟨_, rfl, ?_⟩
            go_wp2
            refine ⟨hs.only2, ?_⟩
            refine wpAllP_next [8, 9, 10] (by kernel_rfl) (fun c hc => ?_)
            simp only [List.mem_cons, List.not_mem_nil, or_false] at hc
            rcases hc with rfl | rfl | rfl
            · skip
              refine ⟨_, rfl, ?_⟩
              go_wp2
              refine ⟨hs.only2, ?_⟩
              refine wpAllP_next [9, 10] (by kernel_rfl) (fun c hc => ?_)
              simp only [List.mem_cons, List.not_mem_nil, or_false] at hc
              rcases hc with rfl | rfl
              · skip
                refine ⟨_, rfl, ?_⟩
                go_wp2
                refine ⟨hs.only2, ?_⟩
                refine wpAllP_next [10] (by kernel_rfl) (fun c hc => ?_)
                simp only [List.mem_singleton] at hc
                subst hc
                refine ⟨_, rfl, ?_⟩
                refine wpl_alloc zero3 hs ?_
                clear hs
                intro g16 w hs
                replace hs : St w0 (blk g16 (c3 V3.z).toArray 40 :: _) w := hs
                replace hs : St w0 (SlB X s :: blk g14 (c5o o).toArray 72 :: blk g15 (c3 x).toArray 40 :: blk g16 (c3 V3.z).toArray 40 :: own W m cW 80 2 (es2 s.evs) :: blk g7 (c3 dd).toArray 28 :: []) w := hs.ent (by (repeat first | exact Ent.refl _ | refine Ent.step (by first | exact Ent.refl _ | exact Ent.skip (Ent.refl _) | exact Ent.skip (Ent.skip (Ent.refl _)) | exact Ent.skip (Ent.skip (Ent.skip (Ent.refl _))) | exact Ent.skip (Ent.skip (Ent.skip (Ent.skip (Ent.refl _)))) | exact Ent.skip (Ent.skip (Ent.skip (Ent.skip (Ent.skip (Ent.refl _))))) | exact Ent.skip (Ent.skip (Ent.skip (Ent.skip (Ent.skip (Ent.skip (Ent.refl _)))))) | exact Ent.skip (Ent.skip (Ent.skip (Ent.skip (Ent.skip (Ent.skip (Ent.skip (Ent.refl _))))))) | exact Ent.skip (Ent.skip (Ent.skip (Ent.skip (Ent.skip (Ent.skip (Ent.skip (Ent.skip (Ent.refl _)))))))) | exact Ent.skip (Ent.skip (Ent.skip (Ent.skip (Ent.skip (Ent.skip (Ent.skip (Ent.skip (Ent.skip (Ent.refl _)))))))))) ?_))
                refine wpList_nil ⟨rfl, hs.only2, ?_⟩
                refine wpAllP_next [11] (by kernel_rfl) (fun c hc => ?_)
                simp only [List.mem_singleton] at hc
                subst hc
                refine ⟨_, rfl, ?_⟩
                refine wpl_store_agg (v := val3 u) rfl rfl (size3 _) (hs.ent (M := blk g16 (c3 V3.z).toArray 40 :: SlB X s :: blk g14 (c5o o).toArray 72 :: blk g15 (c3 x).toArray 40 :: own W m cW 80 2 (es2 s.evs) :: blk g7 (c3 dd).toArray 28 :: []) (by (repeat first | exact Ent.refl _ | refine Ent.step (by first | exact Ent.refl _ | exact Ent.skip (Ent.refl _) | exact Ent.skip (Ent.skip (Ent.refl _)) | exact Ent.skip (Ent.skip (Ent.skip (Ent.refl _))) | exact Ent.skip (Ent.skip (Ent.skip (Ent.skip (Ent.refl _)))) | exact Ent.skip (Ent.skip (Ent.skip (Ent.skip (Ent.skip (Ent.refl _))))) | exact Ent.skip (Ent.skip (Ent.skip (Ent.skip (Ent.skip (Ent.skip (Ent.refl _)))))) | exact Ent.skip (Ent.skip (Ent.skip (Ent.skip (Ent.skip (Ent.skip (Ent.skip (Ent.refl _))))))) | exact Ent.skip (Ent.skip (Ent.skip (Ent.skip (Ent.skip (Ent.skip (Ent.skip (Ent.skip (Ent.refl _)))))))) | exact Ent.skip (Ent.skip (Ent.skip (Ent.skip (Ent.skip (Ent.skip (Ent.skip (Ent.skip (Ent.skip (Ent.refl _)))))))))) ?_))) WrA.slot3 ?_
                clear hs
                intro w hs
                replace hs : St w0 (SlB X s :: blk g14 (c5o o).toArray 72 :: blk g15 (c3 x).toArray 40 :: blk g16 (c3 u).toArray 40 :: own W m cW 80 2 (es2 s.evs) :: blk g7 (c3 dd).toArray 28 :: []) w := hs.ent (by (repeat first | exact Ent.refl _ | refine Ent.step (by first | exact Ent.refl _ | exact Ent.skip (Ent.refl _) | exact Ent.skip (Ent.skip (Ent.refl _)) | exact Ent.skip (Ent.skip (Ent.skip (Ent.refl _))) | exact Ent.skip (Ent.skip (Ent.skip (Ent.skip (Ent.refl _)))) | exact Ent.skip (Ent.skip (Ent.skip (Ent.skip (Ent.skip (Ent.refl _))))) | exact Ent.skip (Ent.skip (Ent.skip (Ent.skip (Ent.skip (Ent.skip (Ent.refl _)))))) | exact Ent.skip (Ent.skip (Ent.skip (Ent.skip (Ent.skip (Ent.skip (Ent.skip (Ent.refl _))))))) | exact Ent.skip (Ent.skip (Ent.skip (Ent.skip (Ent.skip (Ent.skip (Ent.skip (Ent.skip (Ent.refl _)))))))) | exact Ent.skip (Ent.skip (Ent.skip (Ent.skip (Ent.skip (Ent.skip (Ent.skip (Ent.skip (Ent.skip (Ent.refl _)))))))))) ?_))
                refine wpList_nil ⟨rfl, hs.only2, ?_⟩
                refine wpAll_last [12] (by kernel_rfl) (fun c hc => ?_)
                simp only [List.mem_singleton] at hc
                subst hc
                refine ⟨_, rfl, ?_⟩
                go_wp2
                go_meet
                exact ⟨rfl, hs.up3.drop.ent (by (repeat first | exact Ent.refl _ | refine Ent.step (by first | exact Ent.refl _ | exact Ent.skip (Ent.refl _) | exact Ent.skip (Ent.skip (Ent.refl _)) | exact Ent.skip (Ent.skip (Ent.skip (Ent.refl _))) | exact Ent.skip (Ent.skip (Ent.skip (Ent.skip (Ent.refl _)))) | exact Ent.skip (Ent.skip (Ent.skip (Ent.skip (Ent.skip (Ent.refl _))))) | exact Ent.skip (Ent.skip (Ent.skip (Ent.skip (Ent.skip (Ent.skip (Ent.refl _)))))) | exact Ent.skip (Ent.skip (Ent.skip (Ent.skip (Ent.skip (Ent.skip (Ent.skip (Ent.refl _))))))) | exact Ent.skip (Ent.skip (Ent.skip (Ent.skip (Ent.skip (Ent.skip (Ent.skip (Ent.skip (Ent.refl _)))))))) | exact Ent.skip (Ent.skip (Ent.skip (Ent.skip (Ent.skip (Ent.skip (Ent.skip (Ent.skip (Ent.skip (Ent.refl _)))))))))) ?_))⟩
              · skip
                refine ⟨_, rfl, ?_⟩
                refine wpl_alloc zero3 hs ?_
                clear hs
                intro g16 w hs
                replace hs : St w0 (blk g16 (c3 V3.z).toArray 40 :: _) w := hs
                replace hs : St w0 (SlB X s :: blk g14 (c5o o).toArray 72 :: blk g15 (c3 x).toArray 40 :: blk g16 (c3 V3.z).toArray 40 :: own W m cW 80 2 (es2 s.evs) :: blk g7 (c3 dd).toArray 28 :: []) w := hs.ent (by (repeat first | exact Ent.refl _ | refine Ent.step (by first | exact Ent.refl _ | exact Ent.skip (Ent.refl _) | exact Ent.skip (Ent.skip (Ent.refl _)) | exact Ent.skip (Ent.skip (Ent.skip (Ent.refl _))) | exact Ent.skip (Ent.skip (Ent.skip (Ent.skip (Ent.refl _)))) | exact Ent.skip (Ent.skip (Ent.skip (Ent.skip (Ent.skip (Ent.refl _))))) | exact Ent.skip (Ent.skip (Ent.skip (Ent.skip (Ent.skip (Ent.skip (Ent.refl _)))))) | exact Ent.skip (Ent.skip (Ent.skip (Ent.skip (Ent.skip (Ent.skip (Ent.skip (Ent.refl _))))))) | exact Ent.skip (Ent.skip (Ent.skip (Ent.skip (Ent.skip (Ent.skip (Ent.skip (Ent.skip (Ent.refl _)))))))) | exact Ent.skip (Ent.skip (Ent.skip (Ent.skip (Ent.skip (Ent.skip (Ent.skip (Ent.skip (Ent.skip (Ent.refl _)))))))))) ?_))
                refine wpList_nil ⟨rfl, hs.only2, ?_⟩
                refine wpAllP_next [9, 11] (by kernel_rfl) (fun c hc => ?_)
                simp only [List.mem_cons, List.not_mem_nil, or_false] at hc
                rcases hc with rfl | rfl
                · skip
                  refine ⟨_, rfl, ?_⟩
                  go_wp2
                  refine ⟨hs.only2, ?_⟩
                  refine wpAllP_next [11] (by kernel_rfl) (fun c hc => ?_)
                  simp only [List.mem_singleton] at hc
                  subst hc
                  refine ⟨_, rfl, ?_⟩
                  refine wpl_store_agg (v := val3 u) rfl rfl (size3 _) (hs.ent (M := blk g16 (c3 V3.z).toArray 40 :: SlB X s :: blk g14 (c5o o).toArray 72 :: blk g15 (c3 x).toArray 40 :: own W m cW 80 2 (es2 s.evs) :: blk g7 (c3 dd).toArray 28 :: []) (by (repeat first | exact Ent.refl _ | refine Ent.step (by first | exact Ent.refl _ | exact Ent.skip (Ent.refl _) | exact Ent.skip (Ent.skip (Ent.refl _)) | exact Ent.skip (Ent.skip (Ent.skip (Ent.refl _))) | exact Ent.skip (Ent.skip (Ent.skip (Ent.skip (Ent.refl _)))) | exact Ent.skip (Ent.skip (Ent.skip (Ent.skip (Ent.skip (Ent.refl _))))) | exact Ent.skip (Ent.skip (Ent.skip (Ent.skip (Ent.skip (Ent.skip (Ent.refl _)))))) | exact Ent.skip (Ent.skip (Ent.skip (Ent.skip (Ent.skip (Ent.skip (Ent.skip (Ent.refl _))))))) | exact Ent.skip (Ent.skip (Ent.skip (Ent.skip (Ent.skip (Ent.skip (Ent.skip (Ent.skip (Ent.refl _)))))))) | exact Ent.skip (Ent.skip (Ent.skip (Ent.skip (Ent.skip (Ent.skip (Ent.skip (Ent.skip (Ent.skip (Ent.refl _)))))))))) ?_))) WrA.slot3 ?_
                  clear hs
                  intro w hs
                  replace hs : St w0 (SlB X s :: blk g14 (c5o o).toArray 72 :: blk g15 (c3 x).toArray 40 :: blk g16 (c3 u).toArray 40 :: own W m cW 80 2 (es2 s.evs) :: blk g7 (c3 dd).toArray 28 :: []) w := hs.ent (by (repeat first | exact Ent.refl _ | refine Ent.step (by first | exact Ent.refl _ | exact Ent.skip (Ent.refl _) | exact Ent.skip (Ent.skip (Ent.refl _)) | exact Ent.skip (Ent.skip (Ent.skip (Ent.refl _))) | exact Ent.skip (Ent.skip (Ent.skip (Ent.skip (Ent.refl _)))) | exact Ent.skip (Ent.skip (Ent.skip (Ent.skip (Ent.skip (Ent.refl _))))) | exact Ent.skip (Ent.skip (Ent.skip (Ent.skip (Ent.skip (Ent.skip (Ent.refl _)))))) | exact Ent.skip (Ent.skip (Ent.skip (Ent.skip (Ent.skip (Ent.skip (Ent.skip (Ent.refl _))))))) | exact Ent.skip (Ent.skip (Ent.skip (Ent.skip (Ent.skip (Ent.skip (Ent.skip (Ent.skip (Ent.refl _)))))))) | exact Ent.skip (Ent.skip (Ent.skip (Ent.skip (Ent.skip (Ent.skip (Ent.skip (Ent.skip (Ent.skip (Ent.refl _)))))))))) ?_))
                  refine wpList_nil ⟨rfl, hs.only2, ?_⟩
                  refine wpAll_last [12] (by kernel_rfl) (fun c hc => ?_)
                  simp only [List.mem_singleton] at hc
                  subst hc
                  refine ⟨_, rfl, ?_⟩
                  go_wp2
                  go_meet
                  exact ⟨rfl, hs.up3.drop.ent (by (repeat first | exact Ent.refl _ | refine Ent.step (by first | exact Ent.refl _ | exact Ent.skip (Ent.refl _) | exact Ent.skip (Ent.skip (Ent.refl _)) | exact Ent.skip (Ent.skip (Ent.skip (Ent.refl _))) | exact Ent.skip (Ent.skip (Ent.skip (Ent.skip (Ent.refl _)))) | exact Ent.skip (Ent.skip (Ent.skip (Ent.skip (Ent.skip (Ent.refl _))))) | exact Ent.skip (Ent.skip (Ent.skip (Ent.skip (Ent.skip (Ent.skip (Ent.refl _)))))) | exact Ent.skip (Ent.skip (Ent.skip (Ent.skip (Ent.skip (Ent.skip (Ent.skip (Ent.refl _))))))) | exact Ent.skip (Ent.skip (Ent.skip (Ent.skip (Ent.skip (Ent.skip (Ent.skip (Ent.skip (Ent.refl _)))))))) | exact Ent.skip (Ent.skip (Ent.skip (Ent.skip (Ent.skip (Ent.skip (Ent.skip (Ent.skip (Ent.skip (Ent.refl _)))))))))) ?_))⟩
                · skip
                  refine ⟨_, rfl, ?_⟩
                  refine wpl_store_agg (v := val3 u) rfl rfl (size3 _) (hs.ent (M := blk g16 (c3 V3.z).toArray 40 :: SlB X s :: blk g14 (c5o o).toArray 72 :: blk g15 (c3 x).toArray 40 :: own W m cW 80 2 (es2 s.evs) :: blk g7 (c3 dd).toArray 28 :: []) (by (repeat first | exact Ent.refl _ | refine Ent.step (by first | exact Ent.refl _ | exact Ent.skip (Ent.refl _) | exact Ent.skip (Ent.skip (Ent.refl _)) | exact Ent.skip (Ent.skip (Ent.skip (Ent.refl _))) | exact Ent.skip (Ent.skip (Ent.skip (Ent.skip (Ent.refl _)))) | exact Ent.skip (Ent.skip (Ent.skip (Ent.skip (Ent.skip (Ent.refl _))))) | exact Ent.skip (Ent.skip (Ent.skip (Ent.skip (Ent.skip (Ent.skip (Ent.refl _)))))) | exact Ent.skip (Ent.skip (Ent.skip (Ent.skip (Ent.skip (Ent.skip (Ent.skip (Ent.refl _))))))) | exact Ent.skip (Ent.skip (Ent.skip (Ent.skip (Ent.skip (Ent.skip (Ent.skip (Ent.skip (Ent.refl _)))))))) | exact Ent.skip (Ent.skip (Ent.skip (Ent.skip (Ent.skip (Ent.skip (Ent.skip (Ent.skip (Ent.skip (Ent.refl _)))))))))) ?_))) WrA.slot3 ?_
                  clear hs
                  intro w hs
                  replace hs : St w0 (SlB X s :: blk g14 (c5o o).toArray 72 :: blk g15 (c3 x).toArray 40 :: blk g16 (c3 u).toArray 40 :: own W m cW 80 2 (es2 s.evs) :: blk g7 (c3 dd).toArray 28 :: []) w := hs.ent (by (repeat first | exact Ent.refl _ | refine Ent.step (by first | exact Ent.refl _ | exact Ent.skip (Ent.refl _) | exact Ent.skip (Ent.skip (Ent.refl _)) | exact Ent.skip (Ent.skip (Ent.skip (Ent.refl _))) | exact Ent.skip (Ent.skip (Ent.skip (Ent.skip (Ent.refl _)))) | exact Ent.skip (Ent.skip (Ent.skip (Ent.skip (Ent.skip (Ent.refl _))))) | exact Ent.skip (Ent.skip (Ent.skip (Ent.skip (Ent.skip (Ent.skip (Ent.refl _)))))) | exact Ent.skip (Ent.skip (Ent.skip (Ent.skip (Ent.skip (Ent.skip (Ent.skip (Ent.refl _))))))) | exact Ent.skip (Ent.skip (Ent.skip (Ent.skip (Ent.skip (Ent.skip (Ent.skip (Ent.skip (Ent.refl _)))))))) | exact Ent.skip (Ent.skip (Ent.skip (Ent.skip (Ent.skip (Ent.skip (Ent.skip (Ent.skip (Ent.skip (Ent.refl _)))))))))) ?_))
                  refine wpList_nil ⟨rfl, hs.only2, ?_⟩
                  refine wpAllP_next [9] (by kernel_rfl) (fun c hc => ?_)
                  simp only [List.mem_singleton] at hc
                  subst hc
                  refine ⟨_, rfl, ?_⟩
                  go_wp2
                  refine ⟨hs.only2, ?_⟩
                  refine wpAll_last [12] (by kernel_rfl) (fun c hc => ?_)
                  simp only [List.mem_singleton] at hc
                  subst hc
                  refine ⟨_, rfl, ?_⟩
                  go_wp2
                  go_meet
                  exact ⟨rfl, hs.up3.drop.ent (by (repeat first | exact Ent.refl _ | refine Ent.step (by first | exact Ent.refl _ | exact Ent.skip (Ent.refl _) | exact Ent.skip (Ent.skip (Ent.refl _)) | exact Ent.skip (Ent.skip (Ent.skip (Ent.refl _))) | exact Ent.skip (Ent.skip (Ent.skip (Ent.skip (Ent.refl _)))) | exact Ent.skip (Ent.skip (Ent.skip (Ent.skip (Ent.skip (Ent.refl _))))) | exact Ent.skip (Ent.skip (Ent.skip (Ent.skip (Ent.skip (Ent.skip (Ent.refl _)))))) | exact Ent.skip (Ent.skip (Ent.skip (Ent.skip (Ent.skip (Ent.skip (Ent.skip (Ent.refl _))))))) | exact Ent.skip (Ent.skip (Ent.skip (Ent.skip (Ent.skip (Ent.skip (Ent.skip (Ent.skip (Ent.refl _)))))))) | exact Ent.skip (Ent.skip (Ent.skip (Ent.skip (Ent.skip (Ent.skip (Ent.skip (Ent.skip (Ent.skip (Ent.refl _)))))))))) ?_))⟩
            · skip
              refine ⟨_, rfl, ?_⟩
              go_wp2
              refine ⟨hs.only2, ?_⟩
              refine wpAllP_next [8, 10] (by kernel_rfl) (fun c hc => ?_)
              simp only [List.mem_cons, List.not_mem_nil, or_false] at hc
              rcases hc with rfl | rfl
              · skip
                refine ⟨_, rfl, ?_⟩
                go_wp2
                refine ⟨hs.only2, ?_⟩
                refine wpAllP_next [10] (by kernel_rfl) (fun c hc => ?_)
                simp only [List.mem_singleton] at hc
                subst hc
                refine ⟨_, rfl, ?_⟩
                refine wpl_alloc zero3 hs ?_
                clear hs
                intro g16 w hs
                replace hs : St w0 (blk g16 (c3 V3.z).toArray 40 :: _) w := hs
                replace hs : St w0 (SlB X s :: blk g14 (c5o o).toArray 72 :: blk g15 (c3 x).toArray 40 :: blk g16 (c3 V3.z).toArray 40 :: own W m cW 80 2 (es2 s.evs) :: blk g7 (c3 dd).toArray 28 :: []) w := hs.ent (by (repeat first | exact Ent.refl _ | refine Ent.step (by first | exact Ent.refl _ | exact Ent.skip (Ent.refl _) | exact Ent.skip (Ent.skip (Ent.refl _)) | exact Ent.skip (Ent.skip (Ent.skip (Ent.refl _))) | exact Ent.skip (Ent.skip (Ent.skip (Ent.skip (Ent.refl _)))) | exact Ent.skip (Ent.skip (Ent.skip (Ent.skip (Ent.skip (Ent.refl _))))) | exact Ent.skip (Ent.skip (Ent.skip (Ent.skip (Ent.skip (Ent.skip (Ent.refl _)))))) | exact Ent.skip (Ent.skip (Ent.skip (Ent.skip (Ent.skip (Ent.skip (Ent.skip (Ent.refl _))))))) | exact Ent.skip (Ent.skip (Ent.skip (Ent.skip (Ent.skip (Ent.skip (Ent.skip (Ent.skip (Ent.refl _)))))))) | exact Ent.skip (Ent.skip (Ent.skip (Ent.skip (Ent.skip (Ent.skip (Ent.skip (Ent.skip (Ent.skip (Ent.refl _)))))))))) ?_))
                refine wpList_nil ⟨rfl, hs.only2, ?_⟩
                refine wpAllP_next [11] (by kernel_rfl) (fun c hc => ?_)
                simp only [List.mem_singleton] at hc
                subst hc
                refine ⟨_, rfl, ?_⟩
                refine wpl_store_agg (v := val3 u) rfl rfl (size3 _) (hs.ent (M := blk g16 (c3 V3.z).toArray 40 :: SlB X s :: blk g14 (c5o o).toArray 72 :: blk g15 (c3 x).toArray 40 :: own W m cW 80 2 (es2 s.evs) :: blk g7 (c3 dd).toArray 28 :: []) (by (repeat first | exact Ent.refl _ | refine Ent.step (by first | exact Ent.refl _ | exact Ent.skip (Ent.refl _) | exact Ent.skip (Ent.skip (Ent.refl _)) | exact Ent.skip (Ent.skip (Ent.skip (Ent.refl _))) | exact Ent.skip (Ent.skip (Ent.skip (Ent.skip (Ent.refl _)))) | exact Ent.skip (Ent.skip (Ent.skip (Ent.skip (Ent.skip (Ent.refl _))))) | exact Ent.skip (Ent.skip (Ent.skip (Ent.skip (Ent.skip (Ent.skip (Ent.refl _)))))) | exact Ent.skip (Ent.skip (Ent.skip (Ent.skip (Ent.skip (Ent.skip (Ent.skip (Ent.refl _))))))) | exact Ent.skip (Ent.skip (Ent.skip (Ent.skip (Ent.skip (Ent.skip (Ent.skip (Ent.skip (Ent.refl _)))))))) | exact Ent.skip (Ent.skip (Ent.skip (Ent.skip (Ent.skip (Ent.skip (Ent.skip (Ent.skip (Ent.skip (Ent.refl _)))))))))) ?_))) WrA.slot3 ?_
                clear hs
                intro w hs
                replace hs : St w0 (SlB X s :: blk g14 (c5o o).toArray 72 :: blk g15 (c3 x).toArray 40 :: blk g16 (c3 u).toArray 40 :: own W m cW 80 2 (es2 s.evs) :: blk g7 (c3 dd).toArray 28 :: []) w := hs.ent (by (repeat first | exact Ent.refl _ | refine Ent.step (by first | exact Ent.refl _ | exact Ent.skip (Ent.refl _) | exact Ent.skip (Ent.skip (Ent.refl _)) | exact Ent.skip (Ent.skip (Ent.skip (Ent.refl _))) | exact Ent.skip (Ent.skip (Ent.skip (Ent.skip (Ent.refl _)))) | exact Ent.skip (Ent.skip (Ent.skip (Ent.skip (Ent.skip (Ent.refl _))))) | exact Ent.skip (Ent.skip (Ent.skip (Ent.skip (Ent.skip (Ent.skip (Ent.refl _)))))) | exact Ent.skip (Ent.skip (Ent.skip (Ent.skip (Ent.skip (Ent.skip (Ent.skip (Ent.refl _))))))) | exact Ent.skip (Ent.skip (Ent.skip (Ent.skip (Ent.skip (Ent.skip (Ent.skip (Ent.skip (Ent.refl _)))))))) | exact Ent.skip (Ent.skip (Ent.skip (Ent.skip (Ent.skip (Ent.skip (Ent.skip (Ent.skip (Ent.skip (Ent.refl _)))))))))) ?_))
                refine wpList_nil ⟨rfl, hs.only2, ?_⟩
                refine wpAll_last [12] (by kernel_rfl) (fun c hc => ?_)
                simp only [List.mem_singleton] at hc
                subst hc
                refine ⟨_, rfl, ?_⟩
                go_wp2
                go_meet
                exact ⟨rfl, hs.up3.drop.ent (by (repeat first | exact Ent.refl _ | refine Ent.step (by first | exact Ent.refl _ | exact Ent.skip (Ent.refl _) | exact Ent.skip (Ent.skip (Ent.refl _)) | exact Ent.skip (Ent.skip (Ent.skip (Ent.refl _))) | exact Ent.skip (Ent.skip (Ent.skip (Ent.skip (Ent.refl _)))) | exact Ent.skip (Ent.skip (Ent.skip (Ent.skip (Ent.skip (Ent.refl _))))) | exact Ent.skip (Ent.skip (Ent.skip (Ent.skip (Ent.skip (Ent.skip (Ent.refl _)))))) | exact Ent.skip (Ent.skip (Ent.skip (Ent.skip (Ent.skip (Ent.skip (Ent.skip (Ent.refl _))))))) | exact Ent.skip (Ent.skip (Ent.skip (Ent.skip (Ent.skip (Ent.skip (Ent.skip (Ent.skip (Ent.refl _)))))))) | exact Ent.skip (Ent.skip (Ent.skip (Ent.skip (Ent.skip (Ent.skip (Ent.skip (Ent.skip (Ent.skip (Ent.refl _)))))))))) ?_))⟩
              · skip
                refine ⟨_, rfl, ?_⟩
                refine wpl_alloc zero3 hs ?_
                clear hs
                intro g16 w hs
                replace hs : St w0 (blk g16 (c3 V3.z).toArray 40 :: _) w := hs
                replace hs : St w0 (SlB X s :: blk g14 (c5o o).toArray 72 :: blk g15 (c3 x).toArray 40 :: blk g16 (c3 V3.z).toArray 40 :: own W m cW 80 2 (es2 s.evs) :: blk g7 (c3 dd).toArray 28 :: []) w := hs.ent (by (repeat first | exact Ent.refl _ | refine Ent.step (by first | exact Ent.refl _ | exact Ent.skip (Ent.refl _) | exact Ent.skip (Ent.skip (Ent.refl _)) | exact Ent.skip (Ent.skip (Ent.skip (Ent.refl _))) | exact Ent.skip (Ent.skip (Ent.skip (Ent.skip (Ent.refl _)))) | exact Ent.skip (Ent.skip (Ent.skip (Ent.skip (Ent.skip (Ent.refl _))))) | exact Ent.skip (Ent.skip (Ent.skip (Ent.skip (Ent.skip (Ent.skip (Ent.refl _)))))) | exact Ent.skip (Ent.skip (Ent.skip (Ent.skip (Ent.skip (Ent.skip (Ent.skip (Ent.refl _))))))) | exact Ent.skip (Ent.skip (Ent.skip (Ent.skip (Ent.skip (Ent.skip (Ent.skip (Ent.skip (Ent.refl _)))))))) | exact Ent.skip (Ent.skip (Ent.skip (Ent.skip (Ent.skip (Ent.skip (Ent.skip (Ent.skip (Ent.skip (Ent.refl _)))))))))) ?_))
                refine wpList_nil ⟨rfl, hs.only2, ?_⟩
                refine wpAllP_next [8] (by kernel_rfl) (fun c hc => ?_)
                simp only [List.mem_singleton] at hc
                subst hc
                refine ⟨_, rfl, ?_⟩
                go_wp2
                refine ⟨hs.only2, ?_⟩
                refine wpAllP_next [11] (by kernel_rfl) (fun c hc => ?_)
                simp only [List.mem_singleton] at hc
                subst hc
                refine ⟨_, rfl, ?_⟩
                refine wpl_store_agg (v := val3 u) rfl rfl (size3 _) (hs.ent (M := blk g16 (c3 V3.z).toArray 40 :: SlB X s :: blk g14 (c5o o).toArray 72 :: blk g15 (c3 x).toArray 40 :: own W m cW 80 2 (es2 s.evs) :: blk g7 (c3 dd).toArray 28 :: []) (by (repeat first | exact Ent.refl _ | refine Ent.step (by first | exact Ent.refl _ | exact Ent.skip (Ent.refl _) | exact Ent.skip (Ent.skip (Ent.refl _)) | exact Ent.skip (Ent.skip (Ent.skip (Ent.refl _))) | exact Ent.skip (Ent.skip (Ent.skip (Ent.skip (Ent.refl _)))) | exact Ent.skip (Ent.skip (Ent.skip (Ent.skip (Ent.skip (Ent.refl _))))) | exact Ent.skip (Ent.skip (Ent.skip (Ent.skip (Ent.skip (Ent.skip (Ent.refl _)))))) | exact Ent.skip (Ent.skip (Ent.skip (Ent.skip (Ent.skip (Ent.skip (Ent.skip (Ent.refl _))))))) | exact Ent.skip (Ent.skip (Ent.skip (Ent.skip (Ent.skip (Ent.skip (Ent.skip (Ent.skip (Ent.refl _)))))))) | exact Ent.skip (Ent.skip (Ent.skip (Ent.skip (Ent.skip (Ent.skip (Ent.skip (Ent.skip (Ent.skip (Ent.refl _)))))))))) ?_))) WrA.slot3 ?_
                clear hs
                intro w hs
                replace hs : St w0 (SlB X s :: blk g14 (c5o o).toArray 72 :: blk g15 (c3 x).toArray 40 :: blk g16 (c3 u).toArray 40 :: own W m cW 80 2 (es2 s.evs) :: blk g7 (c3 dd).toArray 28 :: []) w := hs.ent (by (repeat first | exact Ent.refl _ | refine Ent.step (by first | exact Ent.refl _ | exact Ent.skip (Ent.refl _) | exact Ent.skip (Ent.skip (Ent.refl _)) | exact Ent.skip (Ent.skip (Ent.skip (Ent.refl _))) | exact Ent.skip (Ent.skip (Ent.skip (Ent.skip (Ent.refl _)))) | exact Ent.skip (Ent.skip (Ent.skip (Ent.skip (Ent.skip (Ent.refl _))))) | exact Ent.skip (Ent.skip (Ent.skip (Ent.skip (Ent.skip (Ent.skip (Ent.refl _)))))) | exact Ent.skip (Ent.skip (Ent.skip (Ent.skip (Ent.skip (Ent.skip (Ent.skip (Ent.refl _))))))) | exact Ent.skip (Ent.skip (Ent.skip (Ent.skip (Ent.skip (Ent.skip (Ent.skip (Ent.skip (Ent.refl _)))))))) | exact Ent.skip (Ent.skip (Ent.skip (Ent.skip (Ent.skip (Ent.skip (Ent.skip (Ent.skip (Ent.skip (Ent.refl _)))))))))) ?_))
                refine wpList_nil ⟨rfl, hs.only2, ?_⟩
                refine wpAll_last [12] (by kernel_rfl) (fun c hc => ?_)
                simp only [List.mem_singleton] at hc
                subst hc
                refine ⟨_, rfl, ?_⟩
                go_wp2
                go_meet
                exact ⟨rfl, hs.up3.drop.ent (by (repeat first | exact Ent.refl _ | refine Ent.step (by first | exact Ent.refl _ | exact Ent.skip (Ent.refl _) | exact Ent.skip (Ent.skip (Ent.refl _)) | exact Ent.skip (Ent.skip (Ent.skip (Ent.refl _))) | exact Ent.skip (Ent.skip (Ent.skip (Ent.skip (Ent.refl _)))) | exact Ent.skip (Ent.skip (Ent.skip (Ent.skip (Ent.skip (Ent.refl _))))) | exact Ent.skip (Ent.skip (Ent.skip (Ent.skip (Ent.skip (Ent.skip (Ent.refl _)))))) | exact Ent.skip (Ent.skip (Ent.skip (Ent.skip (Ent.skip (Ent.skip (Ent.skip (Ent.refl _))))))) | exact Ent.skip (Ent.skip (Ent.skip (Ent.skip (Ent.skip (Ent.skip (Ent.skip (Ent.skip (Ent.refl _)))))))) | exact Ent.skip (Ent.skip (Ent.skip (Ent.skip (Ent.skip (Ent.skip (Ent.skip (Ent.skip (Ent.skip (Ent.refl _)))))))))) ?_))⟩
            · skip
              refine ⟨_, rfl, ?_⟩
              refine wpl_alloc zero3 hs ?_
              clear hs
              intro g16 w hs
              replace hs : St w0 (blk g16 (c3 V3.z).toArray 40 :: _) w := hs
              replace hs : St w0 (SlB X s :: blk g14 (c5o o).toArray 72 :: blk g15 (c3 x).toArray 40 :: blk g16 (c3 V3.z).toArray 40 :: own W m cW 80 2 (es2 s.evs) :: blk g7 (c3 dd).toArray 28 :: []) w := hs.ent (by (repeat first | exact Ent.refl _ | refine Ent.step (by first | exact Ent.refl _ | exact Ent.skip (Ent.refl _) | exact Ent.skip (Ent.skip (Ent.refl _)) | exact Ent.skip (Ent.skip (Ent.skip (Ent.refl _))) | exact Ent.skip (Ent.skip (Ent.skip (Ent.skip (Ent.refl _)))) | exact Ent.skip (Ent.skip (Ent.skip (Ent.skip (Ent.skip (Ent.refl _))))) | exact Ent.skip (Ent.skip (Ent.skip (Ent.skip (Ent.skip (Ent.skip (Ent.refl _)))))) | exact Ent.skip (Ent.skip (Ent.skip (Ent.skip (Ent.skip (Ent.skip (Ent.skip (Ent.refl _))))))) | exact Ent.skip (Ent.skip (Ent.skip (Ent.skip (Ent.skip (Ent.skip (Ent.skip (Ent.skip (Ent.refl _)))))))) | exact Ent.skip (Ent.skip (Ent.skip (Ent.skip (Ent.skip (Ent.skip (Ent.skip (Ent.skip (Ent.skip (Ent.refl _)))))))))) ?_))
              refine wpList_nil ⟨rfl, hs.only2, ?_⟩
              refine wpAllP_next [8, 9] (by kernel_rfl) (fun c hc => ?_)
              simp only [List.mem_cons, List.not_mem_nil, or_false] at hc
              rcases hc with rfl | rfl
              · skip
                refine ⟨_, rfl, ?_⟩
                go_wp2
                refine ⟨hs.only2, ?_⟩
                refine wpAllP_next [9, 11] (by kernel_rfl) (fun c hc => ?_)
                simp only [List.mem_cons, List.not_mem_nil, or_false] at hc
                rcases hc with rfl | rfl
                · skip
                  refine ⟨_, rfl, ?_⟩
                  go_wp2
                  refine ⟨hs.only2, ?_⟩
                  refine wpAllP_next [11] (by kernel_rfl) (fun c hc => ?_)
                  simp only [List.mem_singleton] at hc
                  subst hc
                  refine ⟨_, rfl, ?_⟩
                  refine wpl_store_agg (v := val3 u) rfl rfl (size3 _) (hs.ent (M := blk g16 (c3 V3.z).toArray 40 :: SlB X s :: blk g14 (c5o o).toArray 72 :: blk g15 (c3 x).toArray 40 :: own W m cW 80 2 (es2 s.evs) :: blk g7 (c3 dd).toArray 28 :: []) (by (repeat first | exact Ent.refl _ | refine Ent.step (by first | exact Ent.refl _ | exact Ent.skip (Ent.refl _) | exact Ent.skip (Ent.skip (Ent.refl _)) | exact Ent.skip (Ent.skip (Ent.skip (Ent.refl _))) | exact Ent.skip (Ent.skip (Ent.skip (Ent.skip (Ent.refl _)))) | exact Ent.skip (Ent.skip (Ent.skip (Ent.skip (Ent.skip (Ent.refl _))))) | exact Ent.skip (Ent.skip (Ent.skip (Ent.skip (Ent.skip (Ent.skip (Ent.refl _)))))) | exact Ent.skip (Ent.skip (Ent.skip (Ent.skip (Ent.skip (Ent.skip (Ent.skip (Ent.refl _))))))) | exact Ent.skip (Ent.skip (Ent.skip (Ent.skip (Ent.skip (Ent.skip (Ent.skip (Ent.skip (Ent.refl _)))))))) | exact Ent.skip (Ent.skip (Ent.skip (Ent.skip (Ent.skip (Ent.skip (Ent.skip (Ent.skip (Ent.skip (Ent.refl _)))))))))) ?_))) WrA.slot3 ?_
                  clear hs
                  intro w hs
                  replace hs : St w0 (SlB X s :: blk g14 (c5o o).toArray 72 :: blk g15 (c3 x).toArray 40 :: blk g16 (c3 u).toArray 40 :: own W m cW 80 2 (es2 s.evs) :: blk g7 (c3 dd).toArray 28 :: []) w := hs.ent (by (repeat first | exact Ent.refl _ | refine Ent.step (by first | exact Ent.refl _ | exact Ent.skip (Ent.refl _) | exact Ent.skip (Ent.skip (Ent.refl _)) | exact Ent.skip (Ent.skip (Ent.skip (Ent.refl _))) | exact Ent.skip (Ent.skip (Ent.skip (Ent.skip (Ent.refl _)))) | exact Ent.skip (Ent.skip (Ent.skip (Ent.skip (Ent.skip (Ent.refl _))))) | exact Ent.skip (Ent.skip (Ent.skip (Ent.skip (Ent.skip (Ent.skip (Ent.refl _)))))) | exact Ent.skip (Ent.skip (Ent.skip (Ent.skip (Ent.skip (Ent.skip (Ent.skip (Ent.refl _))))))) | exact Ent.skip (Ent.skip (Ent.skip (Ent.skip (Ent.skip (Ent.skip (Ent.skip (Ent.skip (Ent.refl _)))))))) | exact Ent.skip (Ent.skip (Ent.skip (Ent.skip (Ent.skip (Ent.skip (Ent.skip (Ent.skip (Ent.skip (Ent.refl _)))))))))) ?_))
                  refine wpList_nil ⟨rfl, hs.only2, ?_⟩
                  refine wpAll_last [12] (by kernel_rfl) (fun c hc => ?_)
                  simp only [List.mem_singleton] at hc
                  subst hc
                  refine ⟨_, rfl, ?_⟩
                  go_wp2
                  go_meet
                  exact ⟨rfl, hs.up3.drop.ent (by (repeat first | exact Ent.refl _ | refine Ent.step (by first | exact Ent.refl _ | exact Ent.skip (Ent.refl _) | exact Ent.skip (Ent.skip (Ent.refl _)) | exact Ent.skip (Ent.skip (Ent.skip (Ent.refl _))) | exact Ent.skip (Ent.skip (Ent.skip (Ent.skip (Ent.refl _)))) | exact Ent.skip (Ent.skip (Ent.skip (Ent.skip (Ent.skip (Ent.refl _))))) | exact Ent.skip (Ent.skip (Ent.skip (Ent.skip (Ent.skip (Ent.skip (Ent.refl _)))))) | exact Ent.skip (Ent.skip (Ent.skip (Ent.skip (Ent.skip (Ent.skip (Ent.skip (Ent.refl _))))))) | exact Ent.skip (Ent.skip (Ent.skip (Ent.skip (Ent.skip (Ent.skip (Ent.skip (Ent.skip (Ent.refl _)))))))) | exact Ent.skip (Ent.skip (Ent.skip (Ent.skip (Ent.skip (Ent.skip (Ent.skip (Ent.skip (Ent.skip (Ent.refl _)))))))))) ?_))⟩
                · skip
                  refine ⟨_, rfl, ?_⟩
                  refine wpl_store_agg (v := val3 u) rfl rfl (size3 _) (hs.ent (M := blk g16 (c3 V3.z).toArray 40 :: SlB X s :: blk g14 (c5o o).toArray 72 :: blk g15 (c3 x).toArray 40 :: own W m cW 80 2 (es2 s.evs) :: blk g7 (c3 dd).toArray 28 :: []) (by (repeat first | exact Ent.refl _ | refine Ent.step (by first | exact Ent.refl _ | exact Ent.skip (Ent.refl _) | exact Ent.skip (Ent.skip (Ent.refl _)) | exact Ent.skip (Ent.skip (Ent.skip (Ent.refl _))) | exact Ent.skip (Ent.skip (Ent.skip (Ent.skip (Ent.refl _)))) | exact Ent.skip (Ent.skip (Ent.skip (Ent.skip (Ent.skip (Ent.refl _))))) | exact Ent.skip (Ent.skip (Ent.skip (Ent.skip (Ent.skip (Ent.skip (Ent.refl _)))))) | exact Ent.skip (Ent.skip (Ent.skip (Ent.skip (Ent.skip (Ent.skip (Ent.skip (Ent.refl _))))))) | exact Ent.skip (Ent.skip (Ent.skip (Ent.skip (Ent.skip (Ent.skip (Ent.skip (Ent.skip (Ent.refl _)))))))) | exact Ent.skip (Ent.skip (Ent.skip (Ent.skip (Ent.skip (Ent.skip (Ent.skip (Ent.skip (Ent.skip (Ent.refl _)))))))))) ?_))) WrA.slot3 ?_
                  clear hs
                  intro w hs
                  replace hs : St w0 (SlB X s :: blk g14 (c5o o).toArray 72 :: blk g15 (c3 x).toArray 40 :: blk g16 (c3 u).toArray 40 :: own W m cW 80 2 (es2 s.evs) :: blk g7 (c3 dd).toArray 28 :: []) w := hs.ent (by (repeat first | exact Ent.refl _ | refine Ent.step (by first | exact Ent.refl _ | exact Ent.skip (Ent.refl _) | exact Ent.skip (Ent.skip (Ent.refl _)) | exact Ent.skip (Ent.skip (Ent.skip (Ent.refl _))) | exact Ent.skip (Ent.skip (Ent.skip (Ent.skip (Ent.refl _)))) | exact Ent.skip (Ent.skip (Ent.skip (Ent.skip (Ent.skip (Ent.refl _))))) | exact Ent.skip (Ent.skip (Ent.skip (Ent.skip (Ent.skip (Ent.skip (Ent.refl _)))))) | exact Ent.skip (Ent.skip (Ent.skip (Ent.skip (Ent.skip (Ent.skip (Ent.skip (Ent.refl _))))))) | exact Ent.skip (Ent.skip (Ent.skip (Ent.skip (Ent.skip (Ent.skip (Ent.skip (Ent.skip (Ent.refl _)))))))) | exact Ent.skip (Ent.skip (Ent.skip (Ent.skip (Ent.skip (Ent.skip (Ent.skip (Ent.skip (Ent.skip (Ent.refl _)))))))))) ?_))
                  refine wpList_nil ⟨rfl, hs.only2, ?_⟩
                  refine wpAllP_next [9] (by kernel_rfl) (fun c hc => ?_)
                  simp only [List.mem_singleton] at hc
                  subst hc
                  refine ⟨_, rfl, ?_⟩
                  go_wp2
                  refine ⟨hs.only2, ?_⟩
                  refine wpAll_last [12] (by kernel_rfl) (fun c hc => ?_)
                  simp only [List.mem_singleton] at hc
                  subst hc
                  refine ⟨_, rfl, ?_⟩
                  go_wp2
                  go_meet
                  exact ⟨rfl, hs.up3.drop.ent (by (repeat first | exact Ent.refl _ | refine Ent.step (by first | exact Ent.refl _ | exact Ent.skip (Ent.refl _) | exact Ent.skip (Ent.skip (Ent.refl _)) | exact Ent.skip (Ent.skip (Ent.skip (Ent.refl _))) | exact Ent.skip (Ent.skip (Ent.skip (Ent.skip (Ent.refl _)))) | exact Ent.skip (Ent.skip (Ent.skip (Ent.skip (Ent.skip (Ent.refl _))))) | exact Ent.skip (Ent.skip (Ent.skip (Ent.skip (Ent.skip (Ent.skip (Ent.refl _)))))) | exact Ent.skip (Ent.skip (Ent.skip (Ent.skip (Ent.skip (Ent.skip (Ent.skip (Ent.refl _))))))) | exact Ent.skip (Ent.skip (Ent.skip (Ent.skip (Ent.skip (Ent.skip (Ent.skip (Ent.skip (Ent.refl _)))))))) | exact Ent.skip (Ent.skip (Ent.skip (Ent.skip (Ent.skip (Ent.skip (Ent.skip (Ent.skip (Ent.skip (Ent.refl _)))))))))) ?_))⟩
              · skip
                refine ⟨_, rfl, ?_⟩
                go_wp2
                refine ⟨hs.only2, ?_⟩
                refine wpAllP_next [8] (by kernel_rfl) (fun c hc => ?_)
                simp only [List.mem_singleton] at hc
                subst hc
                refine ⟨_, rfl, ?_⟩
                go_wp2
                refine ⟨hs.only2, ?_⟩
                refine wpAllP_next [11] (by kernel_rfl) (fun c hc => ?_)
                simp only [List.mem_singleton] at hc
                subst hc
                refine ⟨_, rfl, ?_⟩
                refine wpl_store_agg (v := val3 u) rfl rfl (size3 _) (hs.ent (M := blk g16 (c3 V3.z).toArray 40 :: SlB X s :: blk g14 (c5o o).toArray 72 :: blk g15 (c3 x).toArray 40 :: own W m cW 80 2 (es2 s.evs) :: blk g7 (c3 dd).toArray 28 :: []) (by (repeat first | exact Ent.refl _ | refine Ent.step (by first | exact Ent.refl _ | exact Ent.skip (Ent.refl _) | exact Ent.skip (Ent.skip (Ent.refl _)) | exact Ent.skip (Ent.skip (Ent.skip (Ent.refl _))) | exact Ent.skip (Ent.skip (Ent.skip (Ent.skip (Ent.refl _)))) | exact Ent.skip (Ent.skip (Ent.skip (Ent.skip (Ent.skip (Ent.refl _))))) | exact Ent.skip (Ent.skip (Ent.skip (Ent.skip (Ent.skip (Ent.skip (Ent.refl _)))))) | exact Ent.skip (Ent.skip (Ent.skip (Ent.skip (Ent.skip (Ent.skip (Ent.skip (Ent.refl _))))))) | exact Ent.skip (Ent.skip (Ent.skip (Ent.skip (Ent.skip (Ent.skip (Ent.skip (Ent.skip (Ent.refl _)))))))) | exact Ent.skip (Ent.skip (Ent.skip (Ent.skip (Ent.skip (Ent.skip (Ent.skip (Ent.skip (Ent.skip (Ent.refl _)))))))))) ?_))) WrA.slot3 ?_
                clear hs
                intro w hs
                replace hs : St w0 (SlB X s :: blk g14 (c5o o).toArray 72 :: blk g15 (c3 x).toArray 40 :: blk g16 (c3 u).toArray 40 :: own W m cW 80 2 (es2 s.evs) :: blk g7 (c3 dd).toArray 28 :: []) w := hs.ent (by (repeat first | exact Ent.refl _ | refine Ent.step (by first | exact Ent.refl _ | exact Ent.skip (Ent.refl _) | exact Ent.skip (Ent.skip (Ent.refl _)) | exact Ent.skip (Ent.skip (Ent.skip (Ent.refl _))) | exact Ent.skip (Ent.skip (Ent.skip (Ent.skip (Ent.refl _)))) | exact Ent.skip (Ent.skip (Ent.skip (Ent.skip (Ent.skip (Ent.refl _))))) | exact Ent.skip (Ent.skip (Ent.skip (Ent.skip (Ent.skip (Ent.skip (Ent.refl _)))))) | exact Ent.skip (Ent.skip (Ent.skip (Ent.skip (Ent.skip (Ent.skip (Ent.skip (Ent.refl _))))))) | exact Ent.skip (Ent.skip (Ent.skip (Ent.skip (Ent.skip (Ent.skip (Ent.skip (Ent.skip (Ent.refl _)))))))) | exact Ent.skip (Ent.skip (Ent.skip (Ent.skip (Ent.skip (Ent.skip (Ent.skip (Ent.skip (Ent.skip (Ent.refl _)))))))))) ?_))
                refine wpList_nil ⟨rfl, hs.only2, ?_⟩
                refine wpAll_last [12] (by kernel_rfl) (fun c hc => ?_)
                simp only [List.mem_singleton] at hc
                subst hc
                refine ⟨_, rfl, ?_⟩
                go_wp2
                go_meet
                exact ⟨rfl, hs.up3.drop.ent (by (repeat first | exact Ent.refl _ | refine Ent.step (by first | exact Ent.refl _ | exact Ent.skip (Ent.refl _) | exact Ent.skip (Ent.skip (Ent.refl _)) | exact Ent.skip (Ent.skip (Ent.skip (Ent.refl _))) | exact Ent.skip (Ent.skip (Ent.skip (Ent.skip (Ent.refl _)))) | exact Ent.skip (Ent.skip (Ent.skip (Ent.skip (Ent.skip (Ent.refl _))))) | exact Ent.skip (Ent.skip (Ent.skip (Ent.skip (Ent.skip (Ent.skip (Ent.refl _)))))) | exact Ent.skip (Ent.skip (Ent.skip (Ent.skip (Ent.skip (Ent.skip (Ent.skip (Ent.refl _))))))) | exact Ent.skip (Ent.skip (Ent.skip (Ent.skip (Ent.skip (Ent.skip (Ent.skip (Ent.skip (Ent.refl _)))))))) | exact Ent.skip (Ent.skip (Ent.skip (Ent.skip (Ent.skip (Ent.skip (Ent.skip (Ent.skip (Ent.skip (Ent.refl _)))))))))) ?_))⟩
          · skip
            refine ⟨_, rfl, ?_⟩
            refine wpl_alloc zero3 hs ?_
            clear hs
            intro g16 w hs
            replace hs : St w0 (blk g16 (c3 V3.z).toArray 40 :: _) w := hs
            replace hs : St w0 (SlB X s :: blk g14 (c5o o).toArray 72 :: blk g15 (c3 x).toArray 40 :: blk g16 (c3 V3.z).toArray 40 :: own W m cW 80 2 (es2 s.evs) :: blk g7 (c3 dd).toArray 28 :: []) w := hs.ent (by (repeat first | exact Ent.refl _ | refine Ent.step (by first | exact Ent.refl _ | exact Ent.skip (Ent.refl _) | exact Ent.skip (Ent.skip (Ent.refl _)) | exact Ent.skip (Ent.skip (Ent.skip (Ent.refl _))) | exact Ent.skip (Ent.skip (Ent.skip (Ent.skip (Ent.refl _)))) | exact Ent.skip (Ent.skip (Ent.skip (Ent.skip (Ent.skip (Ent.refl _))))) | exact Ent.skip (Ent.skip (Ent.skip (Ent.skip (Ent.skip (Ent.skip (Ent.refl _)))))) | exact Ent.skip (Ent.skip (Ent.skip (Ent.skip (Ent.skip (Ent.skip (Ent.skip (Ent.refl _))))))) | exact Ent.skip (Ent.skip (Ent.skip (Ent.skip (Ent.skip (Ent.skip (Ent.skip (Ent.skip (Ent.refl _)))))))) | exact Ent.skip (Ent.skip (Ent.skip (Ent.skip (Ent.skip (Ent.skip (Ent.skip (Ent.skip (Ent.skip (Ent.refl _)))))))))) ?_))
            refine wpList_nil ⟨rfl, hs.only2, ?_⟩
            refine wpAllP_next [7] (by kernel_rfl) (fun c hc => ?_)
            simp only [List.mem_singleton] at hc
            subst hc
            refine ⟨_, rfl, ?_⟩
            go_wp2
            refine ⟨hs.only2, ?_⟩
            refine wpAllP_next [8, 9] (by kernel_rfl) (fun c hc => ?_)
            simp only [List.mem_cons, List.not_mem_nil, or_false] at hc
            rcases hc with rfl | rfl
            · skip
              refine ⟨_, rfl, ?_⟩
              go_wp2
              refine ⟨hs.only2, ?_⟩
              refine wpAllP_next [9, 11] (by kernel_rfl) (fun c hc => ?_)
              simp only [List.mem_cons, List.not_mem_nil, or_false] at hc
              rcases hc with rfl | rfl
              · skip
                refine ⟨_, rfl, ?_⟩
                go_wp2
                refine ⟨hs.only2, ?_⟩
                refine wpAllP_next [11] (by kernel_rfl) (fun c hc => ?_)
                simp only [List.mem_singleton] at hc
                subst hc
                refine ⟨_, rfl, ?_⟩
                refine wpl_store_agg (v := val3 u) rfl rfl (size3 _) (hs.ent (M := blk g16 (c3 V3.z).toArray 40 :: SlB X s :: blk g14 (c5o o).toArray 72 :: blk g15 (c3 x).toArray 40 :: own W m cW 80 2 (es2 s.evs) :: blk g7 (c3 dd).toArray 28 :: []) (by (repeat first | exact Ent.refl _ | refine Ent.step (by first | exact Ent.refl _ | exact Ent.skip (Ent.refl _) | exact Ent.skip (Ent.skip (Ent.refl _)) | exact Ent.skip (Ent.skip (Ent.skip (Ent.refl _))) | exact Ent.skip (Ent.skip (Ent.skip (Ent.skip (Ent.refl _)))) | exact Ent.skip (Ent.skip (Ent.skip (Ent.skip (Ent.skip (Ent.refl _))))) | exact Ent.skip (Ent.skip (Ent.skip (Ent.skip (Ent.skip (Ent.skip (Ent.refl _)))))) | exact Ent.skip (Ent.skip (Ent.skip (Ent.skip (Ent.skip (Ent.skip (Ent.skip (Ent.refl _))))))) | exact Ent.skip (Ent.skip (Ent.skip (Ent.skip (Ent.skip (Ent.skip (Ent.skip (Ent.skip (Ent.refl _)))))))) | exact Ent.skip (Ent.skip (Ent.skip (Ent.skip (Ent.skip (Ent.skip (Ent.skip (Ent.skip (Ent.skip (Ent.refl _)))))))))) ?_))) WrA.slot3 ?_
                clear hs
                intro w hs
                replace hs : St w0 (SlB X s :: blk g14 (c5o o).toArray 72 :: blk g15 (c3 x).toArray 40 :: blk g16 (c3 u).toArray 40 :: own W m cW 80 2 (es2 s.evs) :: blk g7 (c3 dd).toArray 28 :: []) w := hs.ent (by (repeat first | exact Ent.refl _ | refine Ent.step (by first | exact Ent.refl _ | exact Ent.skip (Ent.refl _) | exact Ent.skip (Ent.skip (Ent.refl _)) | exact Ent.skip (Ent.skip (Ent.skip (Ent.refl _))) | exact Ent.skip (Ent.skip (Ent.skip (Ent.skip (Ent.refl _)))) | exact Ent.skip (Ent.skip (Ent.skip (Ent.skip (Ent.skip (Ent.refl _))))) | exact Ent.skip (Ent.skip (Ent.skip (Ent.skip (Ent.skip (Ent.skip (Ent.refl _)))))) | exact Ent.skip (Ent.skip (Ent.skip (Ent.skip (Ent.skip (Ent.skip (Ent.skip (Ent.refl _))))))) | exact Ent.skip (Ent.skip (Ent.skip (Ent.skip (Ent.skip (Ent.skip (Ent.skip (Ent.skip (Ent.refl _)))))))) | exact Ent.skip (Ent.skip (Ent.skip (Ent.skip (Ent.skip (Ent.skip (Ent.skip (Ent.skip (Ent.skip (Ent.refl _)))))))))) ?_))
                refine wpList_nil ⟨rfl, hs.only2, ?_⟩
                refine wpAll_last [12] (by kernel_rfl) (fun c hc => ?_)
                simp only [List.mem_singleton] at hc
                subst hc
                refine ⟨_, rfl, ?_⟩
                go_wp2
                go_meet
                exact ⟨rfl, hs.up3.drop.ent (by (repeat first | exact Ent.refl _ | refine Ent.step (by first | exact Ent.refl _ | exact Ent.skip (Ent.refl _) | exact Ent.skip (Ent.skip (Ent.refl _)) | exact Ent.skip (Ent.skip (Ent.skip (Ent.refl _))) | exact Ent.skip (Ent.skip (Ent.skip (Ent.skip (Ent.refl _)))) | exact Ent.skip (Ent.skip (Ent.skip (Ent.skip (Ent.skip (Ent.refl _))))) | exact Ent.skip (Ent.skip (Ent.skip (Ent.skip (Ent.skip (Ent.skip (Ent.refl _)))))) | exact Ent.skip (Ent.skip (Ent.skip (Ent.skip (Ent.skip (Ent.skip (Ent.skip (Ent.refl _))))))) | exact Ent.skip (Ent.skip (Ent.skip (Ent.skip (Ent.skip (Ent.skip (Ent.skip (Ent.skip (Ent.refl _)))))))) | exact Ent.skip (Ent.skip (Ent.skip (Ent.skip (Ent.skip (Ent.skip (Ent.skip (Ent.skip (Ent.skip (Ent.refl _)))))))))) ?_))⟩
              · skip
                refine ⟨_, rfl, ?_⟩
                refine wpl_store_agg (v := val3 u) rfl rfl (size3 _) (hs.ent (M := blk g16 (c3 V3.z).toArray 40 :: SlB X s :: blk g14 (c5o o).toArray 72 :: blk g15 (c3 x).toArray 40 :: own W m cW 80 2 (es2 s.evs) :: blk g7 (c3 dd).toArray 28 :: []) (by (repeat first | exact Ent.refl _ | refine Ent.step (by first | exact Ent.refl _ | exact Ent.skip (Ent.refl _) | exact Ent.skip (Ent.skip (Ent.refl _)) | exact Ent.skip (Ent.skip (Ent.skip (Ent.refl _))) | exact Ent.skip (Ent.skip (Ent.skip (Ent.skip (Ent.refl _)))) | exact Ent.skip (Ent.skip (Ent.skip (Ent.skip (Ent.skip (Ent.refl _))))) | exact Ent.skip (Ent.skip (Ent.skip (Ent.skip (Ent.skip (Ent.skip (Ent.refl _)))))) | exact Ent.skip (Ent.skip (Ent.skip (Ent.skip (Ent.skip (Ent.skip (Ent.skip (Ent.refl _))))))) | exact Ent.skip (Ent.skip (Ent.skip (Ent.skip (Ent.skip (Ent.skip (Ent.skip (Ent.skip (Ent.refl _)))))))) | exact Ent.skip (Ent.skip (Ent.skip (Ent.skip (Ent.skip (Ent.skip (Ent.skip (Ent.skip (Ent.skip (Ent.refl _)))))))))) ?_))) WrA.slot3 ?_
                clear hs
                intro w hs
                replace hs : St w0 (SlB X s :: blk g14 (c5o o).toArray 72 :: blk g15 (c3 x).toArray 40 :: blk g16 (c3 u).toArray 40 :: own W m cW 80 2 (es2 s.evs) :: blk g7 (c3 dd).toArray 28 :: []) w := hs.ent (by (repeat first | exact Ent.refl _ | refine Ent.step (by first | exact Ent.refl _ | exact Ent.skip (Ent.refl _) | exact Ent.skip (Ent.skip (Ent.refl _)) | exact Ent.skip (Ent.skip (Ent.skip (Ent.refl _))) | exact Ent.skip (Ent.skip (Ent.skip (Ent.skip (Ent.refl _)))) | exact Ent.skip (Ent.skip (Ent.skip (Ent.skip (Ent.skip (Ent.refl _))))) | exact Ent.skip (Ent.skip (Ent.skip (Ent.skip (Ent.skip (Ent.skip (Ent.refl _)))))) | exact Ent.skip (Ent.skip (Ent.skip (Ent.skip (Ent.skip (Ent.skip (Ent.skip (Ent.refl _))))))) | exact Ent.skip (Ent.skip (Ent.skip (Ent.skip (Ent.skip (Ent.skip (Ent.skip (Ent.skip (Ent.refl _)))))))) | exact Ent.skip (Ent.skip (Ent.skip (Ent.skip (Ent.skip (Ent.skip (Ent.skip (Ent.skip (Ent.skip (Ent.refl _)))))))))) ?_))
                refine wpList_nil ⟨rfl, hs.only2, ?_⟩
                refine wpAllP_next [9] (by kernel_rfl) (fun c hc => ?_)
                simp only [List.mem_singleton] at hc
                subst hc
                refine ⟨_, rfl, ?_⟩
                go_wp2
                refine ⟨hs.only2, ?_⟩
                refine wpAll_last [12] (by kernel_rfl) (fun c hc => ?_)
                simp only [List.mem_singleton] at hc
                subst hc
                refine ⟨_, rfl, ?_⟩
                go_wp2
                go_meet
                exact ⟨rfl, hs.up3.drop.ent (by (repeat first | exact Ent.refl _ | refine Ent.step (by first | exact Ent.refl _ | exact Ent.skip (Ent.refl _) | exact Ent.skip (Ent.skip (Ent.refl _)) | exact Ent.skip (Ent.skip (Ent.skip (Ent.refl _))) | exact Ent.skip (Ent.skip (Ent.skip (Ent.skip (Ent.refl _)))) | exact Ent.skip (Ent.skip (Ent.skip (Ent.skip (Ent.skip (Ent.refl _))))) | exact Ent.skip (Ent.skip (Ent.skip (Ent.skip (Ent.skip (Ent.skip (Ent.refl _)))))) | exact Ent.skip (Ent.skip (Ent.skip (Ent.skip (Ent.skip (Ent.skip (Ent.skip (Ent.refl _))))))) | exact Ent.skip (Ent.skip (Ent.skip (Ent.skip (Ent.skip (Ent.skip (Ent.skip (Ent.skip (Ent.refl _)))))))) | exact Ent.skip (Ent.skip (Ent.skip (Ent.skip (Ent.skip (Ent.skip (Ent.skip (Ent.skip (Ent.skip (Ent.refl _)))))))))) ?_))⟩
            · skip
              refine ⟨_, rfl, ?_⟩
              go_wp2
              refine ⟨hs.only2, ?_⟩
              refine wpAllP_next [8] (by kernel_rfl) (fun c hc => ?_)
              simp only [List.mem_singleton] at hc
              subst hc
              refine ⟨_, rfl, ?_⟩
              go_wp2
              refine ⟨hs.only2, ?_⟩
              refine wpAllP_next [11] (by kernel_rfl) (fun c hc => ?_)
              simp only [List.mem_singleton] at hc
              subst hc
              refine ⟨_, rfl, ?_⟩
              refine wpl_store_agg (v := val3 u) rfl rfl (size3 _) (hs.ent (M := blk g16 (c3 V3.z).toArray 40 :: SlB X s :: blk g14 (c5o o).toArray 72 :: blk g15 (c3 x).toArray 40 :: own W m cW 80 2 (es2 s.evs) :: blk g7 (c3 dd).toArray 28 :: []) (by (repeat first | exact Ent.refl _ | refine Ent.step (by first | exact Ent.refl _ | exact Ent.skip (Ent.refl _) | exact Ent.skip (Ent.skip (Ent.refl _)) | exact Ent.skip (Ent.skip (Ent.skip (Ent.refl _))) | exact Ent.skip (Ent.skip (Ent.skip (Ent.skip (Ent.refl _)))) | exact Ent.skip (Ent.skip (Ent.skip (Ent.skip (Ent.skip (Ent.refl _))))) | exact Ent.skip (Ent.skip (Ent.skip (Ent.skip (Ent.skip (Ent.skip (Ent.refl _)))))) | exact Ent.skip (Ent.skip (Ent.skip (Ent.skip (Ent.skip (Ent.skip (Ent.skip (Ent.refl _))))))) | exact Ent.skip (Ent.skip (Ent.skip (Ent.skip (Ent.skip (Ent.skip (Ent.skip (Ent.skip (Ent.refl _)))))))) | exact Ent.skip (Ent.skip (Ent.skip (Ent.skip (Ent.skip (Ent.skip (Ent.skip (Ent.skip (Ent.skip (Ent.refl _)))))))))) ?_))) WrA.slot3 ?_
              clear hs
              intro w hs
              replace hs : St w0 (SlB X s :: blk g14 (c5o o).toArray 72 :: blk g15 (c3 x).toArray 40 :: blk g16 (c3 u).toArray 40 :: own W m cW 80 2 (es2 s.evs) :: blk g7 (c3 dd).toArray 28 :: []) w := hs.ent (by (repeat first | exact Ent.refl _ | refine Ent.step (by first | exact Ent.refl _ | exact Ent.skip (Ent.refl _) | exact Ent.skip (Ent.skip (Ent.refl _)) | exact Ent.skip (Ent.skip (Ent.skip (Ent.refl _))) | exact Ent.skip (Ent.skip (Ent.skip (Ent.skip (Ent.refl _)))) | exact Ent.skip (Ent.skip (Ent.skip (Ent.skip (Ent.skip (Ent.refl _))))) | exact Ent.skip (Ent.skip (Ent.skip (Ent.skip (Ent.skip (Ent.skip (Ent.refl _)))))) | exact Ent.skip (Ent.skip (Ent.skip (Ent.skip (Ent.skip (Ent.skip (Ent.skip (Ent.refl _))))))) | exact Ent.skip (Ent.skip (Ent.skip (Ent.skip (Ent.skip (Ent.skip (Ent.skip (Ent.skip (Ent.refl _)))))))) | exact Ent.skip (Ent.skip (Ent.skip (Ent.skip (Ent.skip (Ent.skip (Ent.skip (Ent.skip (Ent.skip (Ent.refl _)))))))))) ?_))
              refine wpList_nil ⟨rfl, hs.only2, ?_⟩
              refine wpAll_last [12] (by kernel_rfl) (fun c hc => ?_)
              simp only [List.mem_singleton] at hc
              subst hc
              refine ⟨_, rfl, ?_⟩
              go_wp2
              go_meet
              exact ⟨rfl, hs.up3.drop.ent (by (repeat first | exact Ent.refl _ | refine Ent.step (by first | exact Ent.refl _ | exact Ent.skip (Ent.refl _) | exact Ent.skip (Ent.skip (Ent.refl _)) | exact Ent.skip (Ent.skip (Ent.skip (Ent.refl _))) | exact Ent.skip (Ent.skip (Ent.skip (Ent.skip (Ent.refl _)))) | exact Ent.skip (Ent.skip (Ent.skip (Ent.skip (Ent.skip (Ent.refl _))))) | exact Ent.skip (Ent.skip (Ent.skip (Ent.skip (Ent.skip (Ent.skip (Ent.refl _)))))) | exact Ent.skip (Ent.skip (Ent.skip (Ent.skip (Ent.skip (Ent.skip (Ent.skip (Ent.refl _))))))) | exact Ent.skip (Ent.skip (Ent.skip (Ent.skip (Ent.skip (Ent.skip (Ent.skip (Ent.skip (Ent.refl _)))))))) | exact Ent.skip (Ent.skip (Ent.skip (Ent.skip (Ent.skip (Ent.skip (Ent.skip (Ent.skip (Ent.skip (Ent.refl _)))))))))) ?_))⟩
        · skip
          refine ⟨_, rfl, ?_⟩
          refine wpl_alloc zero3 hs ?_
          clear hs
          intro g16 w hs
          replace hs : St w0 (blk g16 (c3 V3.z).toArray 40 :: _) w := hs
          replace hs : St w0 (SlB X s :: blk g14 (c5o o).toArray 72 :: blk g15 (c3 x).toArray 40 :: blk g16 (c3 V3.z).toArray 40 :: own W m cW 80 2 (es2 s.evs) :: blk g7 (c3 dd).toArray 28 :: []) w := hs.ent (by (repeat first | exact Ent.refl _ | refine Ent.step (by first | exact Ent.refl _ | exact Ent.skip (Ent.refl _) | exact Ent.skip (Ent.skip (Ent.refl _)) | exact Ent.skip (Ent.skip (Ent.skip (Ent.refl _))) | exact Ent.skip (Ent.skip (Ent.skip (Ent.skip (Ent.refl _)))) | exact Ent.skip (Ent.skip (Ent.skip (Ent.skip (Ent.skip (Ent.refl _))))) | exact Ent.skip (Ent.skip (Ent.skip (Ent.skip (Ent.skip (Ent.skip (Ent.refl _)))))) | exact Ent.skip (Ent.skip (Ent.skip (Ent.skip (Ent.skip (Ent.skip (Ent.skip (Ent.refl _))))))) | exact Ent.skip (Ent.skip (Ent.skip (Ent.skip (Ent.skip (Ent.skip (Ent.skip (Ent.skip (Ent.refl _)))))))) | exact Ent.skip (Ent.skip (Ent.skip (Ent.skip (Ent.skip (Ent.skip (Ent.skip (Ent.skip (Ent.skip (Ent.refl _)))))))))) ?_))
          refine wpList_nil ⟨rfl, hs.only2, ?_⟩
          refine wpAllP_next [6] (by kernel_rfl) (fun c hc => ?_)
          simp only [List.mem_singleton] at hc
          subst hc
          refine ⟨_, rfl, ?_⟩
          refine wpl_inv1 (v := v) (v1 := .int .i64 o.i) rfl rfl (sl_get hs HV HWF HU HB) ?_
          rintro r w ⟨rfl, hg⟩
          replace hs := hs.grew hg
          clear hg
          refine wpList_nil ⟨rfl, hs.only2, ?_⟩
          refine wpAllP_next [7] (by kernel_rfl) (fun c hc => ?_)
          simp only [List.mem_singleton] at hc
          subst hc
          refine ⟨_, rfl, ?_⟩
          go_wp2
          refine ⟨hs.only2, ?_⟩
          refine wpAllP_next [8, 9] (by kernel_rfl) (fun c hc => ?_)
          simp only [List.mem_cons, List.not_mem_nil, or_false] at hc
          rcases hc with rfl | rfl
          · skip
            refine ⟨_, rfl, ?_⟩
            go_wp2
            refine ⟨hs.only2, ?_⟩
            refine wpAllP_next [9, 11] (by kernel_rfl) (fun c hc => ?_)
            simp only [List.mem_cons, List.not_mem_nil, or_false] at hc
            rcases hc with rfl | rfl
            · skip
              refine ⟨_, rfl, ?_⟩
              go_wp2
              refine ⟨hs.only2, ?_⟩
              refine wpAllP_next [11] (by kernel_rfl) (fun c hc => ?_)
              simp only [List.mem_singleton] at hc
              subst hc
              refine ⟨_, rfl, ?_⟩
              refine wpl_store_agg (v := val3 u) rfl rfl (size3 _) (hs.ent (M := blk g16 (c3 V3.z).toArray 40 :: SlB X s :: blk g14 (c5o o).toArray 72 :: blk g15 (c3 x).toArray 40 :: own W m cW 80 2 (es2 s.evs) :: blk g7 (c3 dd).toArray 28 :: []) (by (repeat first | exact Ent.refl _ | refine Ent.step (by first | exact Ent.refl _ | exact Ent.skip (Ent.refl _) | exact Ent.skip (Ent.skip (Ent.refl _)) | exact Ent.skip (Ent.skip (Ent.skip (Ent.refl _))) | exact Ent.skip (Ent.skip (Ent.skip (Ent.skip (Ent.refl _)))) | exact Ent.skip (Ent.skip (Ent.skip (Ent.skip (Ent.skip (Ent.refl _))))) | exact Ent.skip (Ent.skip (Ent.skip (Ent.skip (Ent.skip (Ent.skip (Ent.refl _)))))) | exact Ent.skip (Ent.skip (Ent.skip (Ent.skip (Ent.skip (Ent.skip (Ent.skip (Ent.refl _))))))) | exact Ent.skip (Ent.skip (Ent.skip (Ent.skip (Ent.skip (Ent.skip (Ent.skip (Ent.skip (Ent.refl _)))))))) | exact Ent.skip (Ent.skip (Ent.skip (Ent.skip (Ent.skip (Ent.skip (Ent.skip (Ent.skip (Ent.skip (Ent.refl _)))))))))) ?_))) WrA.slot3 ?_
              clear hs
              intro w hs
              replace hs : St w0 (SlB X s :: blk g14 (c5o o).toArray 72 :: blk g15 (c3 x).toArray 40 :: blk g16 (c3 u).toArray 40 :: own W m cW 80 2 (es2 s.evs) :: blk g7 (c3 dd).toArray 28 :: []) w := hs.ent (by (repeat first | exact Ent.refl _ | refine Ent.step (by first | exact Ent.refl _ | exact Ent.skip (Ent.refl _) | exact Ent.skip (Ent.skip (Ent.refl _)) | exact Ent.skip (Ent.skip (Ent.skip (Ent.refl _))) | exact Ent.skip (Ent.skip (Ent.skip (Ent.skip (Ent.refl _)))) | exact Ent.skip (Ent.skip (Ent.skip (Ent.skip (Ent.skip (Ent.refl _))))) | exact Ent.skip (Ent.skip (Ent.skip (Ent.skip (Ent.skip (Ent.skip (Ent.refl _)))))) | exact Ent.skip (Ent.skip (Ent.skip (Ent.skip (Ent.skip (Ent.skip (Ent.skip (Ent.refl _))))))) | exact Ent.skip (Ent.skip (Ent.skip (Ent.skip (Ent.skip (Ent.skip (Ent.skip (Ent.skip (Ent.refl _)))))))) | exact Ent.skip (Ent.skip (Ent.skip (Ent.skip (Ent.skip (Ent.skip (Ent.skip (Ent.skip (Ent.skip (Ent.refl _)))))))))) ?_))
              refine wpList_nil ⟨rfl, hs.only2, ?_⟩
              refine wpAll_last [12] (by kernel_rfl) (fun c hc => ?_)
              simp only [List.mem_singleton] at hc
              subst hc
              refine ⟨_, rfl, ?_⟩
              go_wp2
              go_meet
              exact ⟨rfl, hs.up3.drop.ent (by (repeat first | exact Ent.refl _ | refine Ent.step (by first | exact Ent.refl _ | exact Ent.skip (Ent.refl _) | exact Ent.skip (Ent.skip (Ent.refl _)) | exact Ent.skip (Ent.skip (Ent.skip (Ent.refl _))) | exact Ent.skip (Ent.skip (Ent.skip (Ent.skip (Ent.refl _)))) | exact Ent.skip (Ent.skip (Ent.skip (Ent.skip (Ent.skip (Ent.refl _))))) | exact Ent.skip (Ent.skip (Ent.skip (Ent.skip (Ent.skip (Ent.skip (Ent.refl _)))))) | exact Ent.skip (Ent.skip (Ent.skip (Ent.skip (Ent.skip (Ent.skip (Ent.skip (Ent.refl _))))))) | exact Ent.skip (Ent.skip (Ent.skip (Ent.skip (Ent.skip (Ent.skip (Ent.skip (Ent.skip (Ent.refl _)))))))) | exact Ent.skip (Ent.skip (Ent.skip (Ent.skip (Ent.skip (Ent.skip (Ent.skip (Ent.skip (Ent.skip (Ent.refl _)))))))))) ?_))⟩
            · skip
              refine ⟨_, rfl, ?_⟩
              refine wpl_store_agg (v := val3 u) rfl rfl (size3 _) (hs.ent (M := blk g16 (c3 V3.z).toArray 40 :: SlB X s :: blk g14 (c5o o).toArray 72 :: blk g15 (c3 x).toArray 40 :: own W m cW 80 2 (es2 s.evs) :: blk g7 (c3 dd).toArray 28 :: []) (by (repeat first | exact Ent.refl _ | refine Ent.step (by first | exact Ent.refl _ | exact Ent.skip (Ent.refl _) | exact Ent.skip (Ent.skip (Ent.refl _)) | exact Ent.skip (Ent.skip (Ent.skip (Ent.refl _))) | exact Ent.skip (Ent.skip (Ent.skip (Ent.skip (Ent.refl _)))) | exact Ent.skip (Ent.skip (Ent.skip (Ent.skip (Ent.skip (Ent.refl _))))) | exact Ent.skip (Ent.skip (Ent.skip (Ent.skip (Ent.skip (Ent.skip (Ent.refl _)))))) | exact Ent.skip (Ent.skip (Ent.skip (Ent.skip (Ent.skip (Ent.skip (Ent.skip (Ent.refl _))))))) | exact Ent.skip (Ent.skip (Ent.skip (Ent.skip (Ent.skip (Ent.skip (Ent.skip (Ent.skip (Ent.refl _)))))))) | exact Ent.skip (Ent.skip (Ent.skip (Ent.skip (Ent.skip (Ent.skip (Ent.skip (Ent.skip (Ent.skip (Ent.refl _)))))))))) ?_))) WrA.slot3 ?_
              clear hs
              intro w hs
              replace hs : St w0 (SlB X s :: blk g14 (c5o o).toArray 72 :: blk g15 (c3 x).toArray 40 :: blk g16 (c3 u).toArray 40 :: own W m cW 80 2 (es2 s.evs) :: blk g7 (c3 dd).toArray 28 :: []) w := hs.ent (by (repeat first | exact Ent.refl _ | refine Ent.step (by first | exact Ent.refl _ | exact Ent.skip (Ent.refl _) | exact Ent.skip (Ent.skip (Ent.refl _)) | exact Ent.skip (Ent.skip (Ent.skip (Ent.refl _))) | exact Ent.skip (Ent.skip (Ent.skip (Ent.skip (Ent.refl _)))) | exact Ent.skip (Ent.skip (Ent.skip (Ent.skip (Ent.skip (Ent.refl _))))) | exact Ent.skip (Ent.skip (Ent.skip (Ent.skip (Ent.skip (Ent.skip (Ent.refl _)))))) | exact Ent.skip (Ent.skip (Ent.skip (Ent.skip (Ent.skip (Ent.skip (Ent.skip (Ent.refl _))))))) | exact Ent.skip (Ent.skip (Ent.skip (Ent.skip (Ent.skip (Ent.skip (Ent.skip (Ent.skip (Ent.refl _)))))))) | exact Ent.skip (Ent.skip (Ent.skip (Ent.skip (Ent.skip (Ent.skip (Ent.skip (Ent.skip (Ent.skip (Ent.refl _)))))))))) ?_))
              refine wpList_nil ⟨rfl, hs.only2, ?_⟩
              refine wpAllP_next [9] (by kernel_rfl) (fun c hc => ?_)
              simp only [List.mem_singleton] at hc
              subst hc
              refine ⟨_, rfl, ?_⟩
              go_wp2
              refine ⟨hs.only2, ?_⟩
              refine wpAll_last [12] (by kernel_rfl) (fun c hc => ?_)
              simp only [List.mem_singleton] at hc
              subst hc
              refine ⟨_, rfl, ?_⟩
              go_wp2
              go_meet
              exact ⟨rfl, hs.up3.drop.ent (by (repeat first | exact Ent.refl _ | refine Ent.step (by first | exact Ent.refl _ | exact Ent.skip (Ent.refl _) | exact Ent.skip (Ent.skip (Ent.refl _)) | exact Ent.skip (Ent.skip (Ent.skip (Ent.refl _))) | exact Ent.skip (Ent.skip (Ent.skip (Ent.skip (Ent.refl _)))) | exact Ent.skip (Ent.skip (Ent.skip (Ent.skip (Ent.skip (Ent.refl _))))) | exact Ent.skip (Ent.skip (Ent.skip (Ent.skip (Ent.skip (Ent.skip (Ent.refl _)))))) | exact Ent.skip (Ent.skip (Ent.skip (Ent.skip (Ent.skip (Ent.skip (Ent.skip (Ent.refl _))))))) | exact Ent.skip (Ent.skip (Ent.skip (Ent.skip (Ent.skip (Ent.skip (Ent.skip (Ent.skip (Ent.refl _)))))))) | exact Ent.skip (Ent.skip (Ent.skip (Ent.skip (Ent.skip (Ent.skip (Ent.skip (Ent.skip (Ent.skip (Ent.refl _)))))))))) ?_))⟩
          · skip
            refine ⟨_, rfl, ?_⟩
            go_wp2
            refine ⟨hs.only2, ?_⟩
            refine wpAllP_next [8] (by kernel_rfl) (fun c hc => ?_)
            simp only [List.mem_singleton] at hc
            subst hc
            refine ⟨_, rfl, ?_⟩
            go_wp2
            refine ⟨hs.only2, ?_⟩
            refine wpAllP_next [11] (by kernel_rfl) (fun c hc => ?_)
            simp only [List.mem_singleton] at hc
            subst hc
            refine ⟨_, rfl, ?_⟩
            refine wpl_store_agg (v := val3 u) rfl rfl (size3 _) (hs.ent (M := blk g16 (c3 V3.z).toArray 40 :: SlB X s :: blk g14 (c5o o).toArray 72 :: blk g15 (c3 x).toArray 40 :: own W m cW 80 2 (es2 s.evs) :: blk g7 (c3 dd).toArray 28 :: []) (by (repeat first | exact Ent.refl _ | refine Ent.step (by first | exact Ent.refl _ | exact Ent.skip (Ent.refl _) | exact Ent.skip (Ent.skip (Ent.refl _)) | exact Ent.skip (Ent.skip (Ent.skip (Ent.refl _))) | exact Ent.skip (Ent.skip (Ent.skip (Ent.skip (Ent.refl _)))) | exact Ent.skip (Ent.skip (Ent.skip (Ent.skip (Ent.skip (Ent.refl _))))) | exact Ent.skip (Ent.skip (Ent.skip (Ent.skip (Ent.skip (Ent.skip (Ent.refl _)))))) | exact Ent.skip (Ent.skip (Ent.skip (Ent.skip (Ent.skip (Ent.skip (Ent.skip (Ent.refl _))))))) | exact Ent.skip (Ent.skip (Ent.skip (Ent.skip (Ent.skip (Ent.skip (Ent.skip (Ent.skip (Ent.refl _)))))))) | exact Ent.skip (Ent.skip (Ent.skip (Ent.skip (Ent.skip (Ent.skip (Ent.skip (Ent.skip (Ent.skip (Ent.refl _)))))))))) ?_))) WrA.slot3 ?_
            clear hs
            intro w hs
            replace hs : St w0 (SlB X s :: blk g14 (c5o o).toArray 72 :: blk g15 (c3 x).toArray 40 :: blk g16 (c3 u).toArray 40 :: own W m cW 80 2 (es2 s.evs) :: blk g7 (c3 dd).toArray 28 :: []) w := hs.ent (by (repeat first | exact Ent.refl _ | refine Ent.step (by first | exact Ent.refl _ | exact Ent.skip (Ent.refl _) | exact Ent.skip (Ent.skip (Ent.refl _)) | exact Ent.skip (Ent.skip (Ent.skip (Ent.refl _))) | exact Ent.skip (Ent.skip (Ent.skip (Ent.skip (Ent.refl _)))) | exact Ent.skip (Ent.skip (Ent.skip (Ent.skip (Ent.skip (Ent.refl _))))) | exact Ent.skip (Ent.skip (Ent.skip (Ent.skip (Ent.skip (Ent.skip (Ent.refl _)))))) | exact Ent.skip (Ent.skip (Ent.skip (Ent.skip (Ent.skip (Ent.skip (Ent.skip (Ent.refl _))))))) | exact Ent.skip (Ent.skip (Ent.skip (Ent.skip (Ent.skip (Ent.skip (Ent.skip (Ent.skip (Ent.refl _)))))))) | exact Ent.skip (Ent.skip (Ent.skip (Ent.skip (Ent.skip (Ent.skip (Ent.skip (Ent.skip (Ent.skip (Ent.refl _)))))))))) ?_))
            refine wpList_nil ⟨rfl, hs.only2, ?_⟩
            refine wpAll_last [12] (by kernel_rfl) (fun c hc => ?_)
            simp only [List.mem_singleton] at hc
            subst hc
            refine ⟨_, rfl, ?_⟩
            go_wp2
            go_meet
            exact ⟨rfl, hs.up3.drop.ent (by (repeat first | exact Ent.refl _ | refine Ent.step (by first | exact Ent.refl _ | exact Ent.skip (Ent.refl _) | exact Ent.skip (Ent.skip (Ent.refl _)) | exact Ent.skip (Ent.skip (Ent.skip (Ent.refl _))) | exact Ent.skip (Ent.skip (Ent.skip (Ent.skip (Ent.refl _)))) | exact Ent.skip (Ent.skip (Ent.skip (Ent.skip (Ent.skip (Ent.refl _))))) | exact Ent.skip (Ent.skip (Ent.skip (Ent.skip (Ent.skip (Ent.skip (Ent.refl _)))))) | exact Ent.skip (Ent.skip (Ent.skip (Ent.skip (Ent.skip (Ent.skip (Ent.skip (Ent.refl _))))))) | exact Ent.skip (Ent.skip (Ent.skip (Ent.skip (Ent.skip (Ent.skip (Ent.skip (Ent.skip (Ent.refl _)))))))) | exact Ent.skip (Ent.skip (Ent.skip (Ent.skip (Ent.skip (Ent.skip (Ent.skip (Ent.skip (Ent.skip (Ent.refl _)))))))))) ?_))⟩
      case rest =>
        clear hs
        obtain ⟨rfl, hs⟩ := hcut
        have q0 := hr0 _ _ hs.drop
        have q1 := hr1 _ _ hs.drop
        have HL : Hid (s.evs.length < 4611686018427387904) := by rw [Hid, hm.out]; omega
        clear hld hra
        by_cases k0 : o.k = 0
        · have d0 : (o.k == 0) = true := by simp [k0]
          clear k0
          by_cases he : s.err o.i x = 0
          · obtain ⟨s', HS'⟩ : ∃ t, Hid (s.put o.i x = t) := ⟨_, rfl⟩
            obtain ⟨u', HU'⟩ : ∃ t, Hid (s.putU o.i x = t) := ⟨_, rfl⟩
            obtain ⟨b', HB'⟩ : ∃ t, Hid (s.putB o.i x = t) := ⟨_, rfl⟩
            have HE := Lib.hid he
            have HEV : Hid (s'.evs = s.evs ++ [(kdE th, o.i)]) := by rw [Hid, ← HS'.out, SlS.put_evs hNI.out.F he, HB.out]
            have HNI' : Hid (NoI s' dd f v (k + 1)) := by rw [Hid, ← HS'.out]; exact hNI.out.put
            clear he
            cases th
            · rw [kdE_f] at HEV
              (go_wp2_with (first
                | (refine wpl_load3 (v := x) (g := g15) rfl (has3_tail (has3_tail (has3_slot (t := 40)))) agg3 size3n hs ?_)
                | (refine wpl_buildS (buildE (1) o.i) rfl ?_)
                | (refine wpl_buildS (build3k 9) rfl ?_)
                | (refine wpl_build1 (v := valE (1, o.i)) elemE (by decide) rfl rfl hs ?_; clear hs q1; intro G w hs)
                | (refine wpl_append (A := W) (n := m) (cap := cW) (xs := es2 s.evs) (m := 1) (news := e2 (1, o.i)) elemE rfl rfl hs (L' := blk G (e2 (1, o.i)).toArray 80 :: SlB X s' :: blk g14 (c5o o).toArray 72 :: blk g15 (c3 x).toArray 40 :: [blk g7 (c3 dd).toArray 28]) (by (repeat first | exact Ent.refl _ | refine Ent.step (by first | exact Ent.refl _ | exact Ent.skip (Ent.refl _) | exact Ent.skip (Ent.skip (Ent.refl _)) | exact Ent.skip (Ent.skip (Ent.skip (Ent.refl _))) | exact Ent.skip (Ent.skip (Ent.skip (Ent.skip (Ent.refl _)))) | exact Ent.skip (Ent.skip (Ent.skip (Ent.skip (Ent.skip (Ent.refl _))))) | exact Ent.skip (Ent.skip (Ent.skip (Ent.skip (Ent.skip (Ent.skip (Ent.refl _)))))) | exact Ent.skip (Ent.skip (Ent.skip (Ent.skip (Ent.skip (Ent.skip (Ent.skip (Ent.refl _))))))) | exact Ent.skip (Ent.skip (Ent.skip (Ent.skip (Ent.skip (Ent.skip (Ent.skip (Ent.skip (Ent.refl _)))))))) | exact Ent.skip (Ent.skip (Ent.skip (Ent.skip (Ent.skip (Ent.skip (Ent.skip (Ent.skip (Ent.skip (Ent.refl _)))))))))) ?_)) RdS.blk rfl (e2_one _) (by unfold maxLen; omega) (by omega) ?_; clear hs; intro B3 cap3 w hs; replace hs : St w0 [SlB X s', blk g14 (c5o o).toArray 72, blk g15 (c3 x).toArray 40, own B3 (m + 1) cap3 80 2 (es2 s.evs ++ e2 (1, o.i)), blk g7 (c3 dd).toArray 28] w := (hs.rot.drop).ent (by (repeat first | exact Ent.refl _ | refine Ent.step (by first | exact Ent.refl _ | exact Ent.skip (Ent.refl _) | exact Ent.skip (Ent.skip (Ent.refl _)) | exact Ent.skip (Ent.skip (Ent.skip (Ent.refl _))) | exact Ent.skip (Ent.skip (Ent.skip (Ent.skip (Ent.refl _)))) | exact Ent.skip (Ent.skip (Ent.skip (Ent.skip (Ent.skip (Ent.refl _))))) | exact Ent.skip (Ent.skip (Ent.skip (Ent.skip (Ent.skip (Ent.skip (Ent.refl _)))))) | exact Ent.skip (Ent.skip (Ent.skip (Ent.skip (Ent.skip (Ent.skip (Ent.skip (Ent.refl _))))))) | exact Ent.skip (Ent.skip (Ent.skip (Ent.skip (Ent.skip (Ent.skip (Ent.skip (Ent.skip (Ent.refl _)))))))) | exact Ent.skip (Ent.skip (Ent.skip (Ent.skip (Ent.skip (Ent.skip (Ent.skip (Ent.skip (Ent.skip (Ent.refl _)))))))))) ?_)); have q1 := hr1 _ _ hs.drop)
                | (go_at_call 18; refine (sl_put hs HL.out HU' HB' HE HS').mono ?_; clear hs q0 q1; rintro r w ⟨rfl, hs⟩; have q1 := hr1 _ _ hs.drop)
                | (go_at_call 31; refine (sl_take hs HWF HL.out HU HB HS').mono ?_; clear hs q0 q1; rintro r w ⟨rfl, hs⟩; have q1 := hr1 _ _ hs.drop)
                | (go_at_call 30; refine (sl_set hs HL.out HE HS').mono ?_; clear hs q0 q1; rintro r w ⟨rfl, hs⟩; have q1 := hr1 _ _ hs.drop)
                | (go_at_call 30; refine (sl_set hs HL'.out H9 H9').mono ?_; clear hs q1; rintro r w ⟨rfl, hs⟩)
                | (refine wpl_alloc zero3 hs ?_; clear hs; intro g18 w hs)
                | (refine wpl_store_agg (v := val3 u) rfl rfl (size3 _) hs WrA.slot3 ?_; clear hs; intro w hs; replace hs := hs.drop; have q1 := hr1 _ _ hs.drop)
                | (refine wpl_store_agg (v := val3 u') rfl rfl (size3 _) hs WrA.slot3 ?_; clear hs; intro w hs; replace hs := hs.drop; have q1 := hr1 _ _ hs.drop)))
              have hs5 : St w0 [SlB X s', own B3 (m + 1) cap3 80 2 (es2 s'.evs), blk g7 (c3 dd).toArray 28] w := by
                rw [show es2 s'.evs = es2 s.evs ++ e2 (1, o.i) by rw [HEV.out, es2_append]; rfl]
                exact hs.rot.drop.rot.drop
              go_roundw
              case rel => exact ⟨k + 1, m + 1, cap3, B3, s', by omega, by first | rfl | go_num, by first | rfl | go_num, by rw [Hid, HEV.out, List.length_append, hm.out]; rfl, HNI', hs5⟩
              case measure => simp [intOf] <;> omega
            · rw [kdE_t] at HEV
              (go_wp2_with (first
                | (refine wpl_load3 (v := x) (g := g15) rfl (has3_tail (has3_tail (has3_slot (t := 40)))) agg3 size3n hs ?_)
                | (refine wpl_buildS (buildE (2) o.i) rfl ?_)
                | (refine wpl_buildS (build3k 9) rfl ?_)
                | (refine wpl_build1 (v := valE (2, o.i)) elemE (by decide) rfl rfl hs ?_; clear hs q1; intro G w hs)
                | (refine wpl_append (A := W) (n := m) (cap := cW) (xs := es2 s.evs) (m := 1) (news := e2 (2, o.i)) elemE rfl rfl hs (L' := blk G (e2 (2, o.i)).toArray 80 :: SlB X s' :: blk g14 (c5o o).toArray 72 :: blk g15 (c3 x).toArray 40 :: [blk g7 (c3 dd).toArray 28]) (by (repeat first | exact Ent.refl _ | refine Ent.step (by first | exact Ent.refl _ | exact Ent.skip (Ent.refl _) | exact Ent.skip (Ent.skip (Ent.refl _)) | exact Ent.skip (Ent.skip (Ent.skip (Ent.refl _))) | exact Ent.skip (Ent.skip (Ent.skip (Ent.skip (Ent.refl _)))) | exact Ent.skip (Ent.skip (Ent.skip (Ent.skip (Ent.skip (Ent.refl _))))) | exact Ent.skip (Ent.skip (Ent.skip (Ent.skip (Ent.skip (Ent.skip (Ent.refl _)))))) | exact Ent.skip (Ent.skip (Ent.skip (Ent.skip (Ent.skip (Ent.skip (Ent.skip (Ent.refl _))))))) | exact Ent.skip (Ent.skip (Ent.skip (Ent.skip (Ent.skip (Ent.skip (Ent.skip (Ent.skip (Ent.refl _)))))))) | exact Ent.skip (Ent.skip (Ent.skip (Ent.skip (Ent.skip (Ent.skip (Ent.skip (Ent.skip (Ent.skip (Ent.refl _)))))))))) ?_)) RdS.blk rfl (e2_one _) (by unfold maxLen; omega) (by omega) ?_; clear hs; intro B3 cap3 w hs; replace hs : St w0 [SlB X s', blk g14 (c5o o).toArray 72, blk g15 (c3 x).toArray 40, own B3 (m + 1) cap3 80 2 (es2 s.evs ++ e2 (2, o.i)), blk g7 (c3 dd).toArray 28] w := (hs.rot.drop).ent (by (repeat first | exact Ent.refl _ | refine Ent.step (by first | exact Ent.refl _ | exact Ent.skip (Ent.refl _) | exact Ent.skip (Ent.skip (Ent.refl _)) | exact Ent.skip (Ent.skip (Ent.skip (Ent.refl _))) | exact Ent.skip (Ent.skip (Ent.skip (Ent.skip (Ent.refl _)))) | exact Ent.skip (Ent.skip (Ent.skip (Ent.skip (Ent.skip (Ent.refl _))))) | exact Ent.skip (Ent.skip (Ent.skip (Ent.skip (Ent.skip (Ent.skip (Ent.refl _)))))) | exact Ent.skip (Ent.skip (Ent.skip (Ent.skip (Ent.skip (Ent.skip (Ent.skip (Ent.refl _))))))) | exact Ent.skip (Ent.skip (Ent.skip (Ent.skip (Ent.skip (Ent.skip (Ent.skip (Ent.skip (Ent.refl _)))))))) | exact Ent.skip (Ent.skip (Ent.skip (Ent.skip (Ent.skip (Ent.skip (Ent.skip (Ent.skip (Ent.skip (Ent.refl _)))))))))) ?_)); have q1 := hr1 _ _ hs.drop)
                | (go_at_call 18; refine (sl_put hs HL.out HU' HB' HE HS').mono ?_; clear hs q0 q1; rintro r w ⟨rfl, hs⟩; have q1 := hr1 _ _ hs.drop)
                | (go_at_call 31; refine (sl_take hs HWF HL.out HU HB HS').mono ?_; clear hs q0 q1; rintro r w ⟨rfl, hs⟩; have q1 := hr1 _ _ hs.drop)
                | (go_at_call 30; refine (sl_set hs HL.out HE HS').mono ?_; clear hs q0 q1; rintro r w ⟨rfl, hs⟩; have q1 := hr1 _ _ hs.drop)
                | (go_at_call 30; refine (sl_set hs HL'.out H9 H9').mono ?_; clear hs q1; rintro r w ⟨rfl, hs⟩)
                | (refine wpl_alloc zero3 hs ?_; clear hs; intro g18 w hs)
                | (refine wpl_store_agg (v := val3 u) rfl rfl (size3 _) hs WrA.slot3 ?_; clear hs; intro w hs; replace hs := hs.drop; have q1 := hr1 _ _ hs.drop)
                | (refine wpl_store_agg (v := val3 u') rfl rfl (size3 _) hs WrA.slot3 ?_; clear hs; intro w hs; replace hs := hs.drop; have q1 := hr1 _ _ hs.drop)))
              have hs5 : St w0 [SlB X s', own B3 (m + 1) cap3 80 2 (es2 s'.evs), blk g7 (c3 dd).toArray 28] w := by
                rw [show es2 s'.evs = es2 s.evs ++ e2 (2, o.i) by rw [HEV.out, es2_append]; rfl]
                exact hs.rot.drop.rot.drop
              go_roundw
              case rel => exact ⟨k + 1, m + 1, cap3, B3, s', by omega, by first | rfl | go_num, by first | rfl | go_num, by rw [Hid, HEV.out, List.length_append, hm.out]; rfl, HNI', hs5⟩
              case measure => simp [intOf] <;> omega
          · obtain ⟨e1, HE⟩ : ∃ t, Hid (s.err o.i x = t) := ⟨_, rfl⟩
            obtain ⟨s', hss⟩ : ∃ t, t = s := ⟨_, rfl⟩
            have HS' : Hid (s.put o.i x = s') := by rw [hss]; exact SlS.put_no he
            obtain ⟨u', HU'⟩ : ∃ t, Hid (s.putU o.i x = t) := ⟨_, rfl⟩
            obtain ⟨b', HB'⟩ : ∃ t, Hid (s.putB o.i x = t) := ⟨_, rfl⟩
            have e0 : (e1 == 0) = false := by rw [← HE.out]; simpa using he
            have HSS := Lib.hid hss
            clear he hss
            (go_wp2_with (first
              | (refine wpl_load3 (v := x) (g := g15) rfl (has3_tail (has3_tail (has3_slot (t := 40)))) agg3 size3n hs ?_)
              | (refine wpl_buildS (buildE (1) o.i) rfl ?_)
              | (refine wpl_buildS (build3k 9) rfl ?_)
              | (refine wpl_build1 (v := valE (1, o.i)) elemE (by decide) rfl rfl hs ?_; clear hs q1; intro G w hs)
              | (refine wpl_append (A := W) (n := m) (cap := cW) (xs := es2 s.evs) (m := 1) (news := e2 (1, o.i)) elemE rfl rfl hs (L' := blk G (e2 (1, o.i)).toArray 80 :: SlB X s' :: blk g14 (c5o o).toArray 72 :: blk g15 (c3 x).toArray 40 :: [blk g7 (c3 dd).toArray 28]) (by (repeat first | exact Ent.refl _ | refine Ent.step (by first | exact Ent.refl _ | exact Ent.skip (Ent.refl _) | exact Ent.skip (Ent.skip (Ent.refl _)) | exact Ent.skip (Ent.skip (Ent.skip (Ent.refl _))) | exact Ent.skip (Ent.skip (Ent.skip (Ent.skip (Ent.refl _)))) | exact Ent.skip (Ent.skip (Ent.skip (Ent.skip (Ent.skip (Ent.refl _))))) | exact Ent.skip (Ent.skip (Ent.skip (Ent.skip (Ent.skip (Ent.skip (Ent.refl _)))))) | exact Ent.skip (Ent.skip (Ent.skip (Ent.skip (Ent.skip (Ent.skip (Ent.skip (Ent.refl _))))))) | exact Ent.skip (Ent.skip (Ent.skip (Ent.skip (Ent.skip (Ent.skip (Ent.skip (Ent.skip (Ent.refl _)))))))) | exact Ent.skip (Ent.skip (Ent.skip (Ent.skip (Ent.skip (Ent.skip (Ent.skip (Ent.skip (Ent.skip (Ent.refl _)))))))))) ?_)) RdS.blk rfl (e2_one _) (by unfold maxLen; omega) (by omega) ?_; clear hs; intro B3 cap3 w hs; replace hs : St w0 [SlB X s', blk g14 (c5o o).toArray 72, blk g15 (c3 x).toArray 40, own B3 (m + 1) cap3 80 2 (es2 s.evs ++ e2 (1, o.i)), blk g7 (c3 dd).toArray 28] w := (hs.rot.drop).ent (by (repeat first | exact Ent.refl _ | refine Ent.step (by first | exact Ent.refl _ | exact Ent.skip (Ent.refl _) | exact Ent.skip (Ent.skip (Ent.refl _)) | exact Ent.skip (Ent.skip (Ent.skip (Ent.refl _))) | exact Ent.skip (Ent.skip (Ent.skip (Ent.skip (Ent.refl _)))) | exact Ent.skip (Ent.skip (Ent.skip (Ent.skip (Ent.skip (Ent.refl _))))) | exact Ent.skip (Ent.skip (Ent.skip (Ent.skip (Ent.skip (Ent.skip (Ent.refl _)))))) | exact Ent.skip (Ent.skip (Ent.skip (Ent.skip (Ent.skip (Ent.skip (Ent.skip (Ent.refl _))))))) | exact Ent.skip (Ent.skip (Ent.skip (Ent.skip (Ent.skip (Ent.skip (Ent.skip (Ent.skip (Ent.refl _)))))))) | exact Ent.skip (Ent.skip (Ent.skip (Ent.skip (Ent.skip (Ent.skip (Ent.skip (Ent.skip (Ent.skip (Ent.refl _)))))))))) ?_)); have q1 := hr1 _ _ hs.drop)
              | (go_at_call 18; refine (sl_put hs HL.out HU' HB' HE HS').mono ?_; clear hs q0 q1; rintro r w ⟨rfl, hs⟩; have q1 := hr1 _ _ hs.drop)
              | (go_at_call 31; refine (sl_take hs HWF HL.out HU HB HS').mono ?_; clear hs q0 q1; rintro r w ⟨rfl, hs⟩; have q1 := hr1 _ _ hs.drop)
              | (go_at_call 30; refine (sl_set hs HL.out HE HS').mono ?_; clear hs q0 q1; rintro r w ⟨rfl, hs⟩; have q1 := hr1 _ _ hs.drop)
              | (go_at_call 30; refine (sl_set hs HL'.out H9 H9').mono ?_; clear hs q1; rintro r w ⟨rfl, hs⟩)
              | (refine wpl_alloc zero3 hs ?_; clear hs; intro g18 w hs)
              | (refine wpl_store_agg (v := val3 u) rfl rfl (size3 _) hs WrA.slot3 ?_; clear hs; intro w hs; replace hs := hs.drop; have q1 := hr1 _ _ hs.drop)
              | (refine wpl_store_agg (v := val3 u') rfl rfl (size3 _) hs WrA.slot3 ?_; clear hs; intro w hs; replace hs := hs.drop; have q1 := hr1 _ _ hs.drop)))
            rw [HSS.out] at hs
            go_roundw
            case rel => exact ⟨k + 1, m, cW, W, s, by omega, by first | rfl | go_num, by first | rfl | go_num, hm, hNI.out.skip, hs.rot.drop.rot.drop⟩
            case measure => simp [intOf] <;> omega
        · have d0 : (o.k == 0) = false := by simp [k0]
          by_cases k1 : o.k = 1
          · have d1 : (o.k == 1) = true := by simp [k1]
            obtain ⟨s', HS'⟩ : ∃ t, Hid (s.take o.i = t) := ⟨_, rfl⟩
            have HNI' : Hid (NoI s' dd f v (k + 1)) := by rw [Hid, ← HS'.out]; exact hNI.out.take
            clear k0 k1
            cases th
            · have HSS : Hid (s' = s) := by rw [Hid, ← HS'.out]; exact SlS.take_no HB.out
              (go_wp2_with (first
                | (refine wpl_load3 (v := x) (g := g15) rfl (has3_tail (has3_tail (has3_slot (t := 40)))) agg3 size3n hs ?_)
                | (refine wpl_buildS (buildE (3) o.i) rfl ?_)
                | (refine wpl_buildS (build3k 9) rfl ?_)
                | (refine wpl_build1 (v := valE (3, o.i)) elemE (by decide) rfl rfl hs ?_; clear hs q1; intro G w hs)
                | (refine wpl_append (A := W) (n := m) (cap := cW) (xs := es2 s.evs) (m := 1) (news := e2 (3, o.i)) elemE rfl rfl hs (L' := blk G (e2 (3, o.i)).toArray 80 :: SlB X s' :: blk g14 (c5o o).toArray 72 :: blk g15 (c3 x).toArray 40 :: [blk g7 (c3 dd).toArray 28]) (by (repeat first | exact Ent.refl _ | refine Ent.step (by first | exact Ent.refl _ | exact Ent.skip (Ent.refl _) | exact Ent.skip (Ent.skip (Ent.refl _)) | exact Ent.skip (Ent.skip (Ent.skip (Ent.refl _))) | exact Ent.skip (Ent.skip (Ent.skip (Ent.skip (Ent.refl _)))) | exact Ent.skip (Ent.skip (Ent.skip (Ent.skip (Ent.skip (Ent.refl _))))) | exact Ent.skip (Ent.skip (Ent.skip (Ent.skip (Ent.skip (Ent.skip (Ent.refl _)))))) | exact Ent.skip (Ent.skip (Ent.skip (Ent.skip (Ent.skip (Ent.skip (Ent.skip (Ent.refl _))))))) | exact Ent.skip (Ent.skip (Ent.skip (Ent.skip (Ent.skip (Ent.skip (Ent.skip (Ent.skip (Ent.refl _)))))))) | exact Ent.skip (Ent.skip (Ent.skip (Ent.skip (Ent.skip (Ent.skip (Ent.skip (Ent.skip (Ent.skip (Ent.refl _)))))))))) ?_)) RdS.blk rfl (e2_one _) (by unfold maxLen; omega) (by omega) ?_; clear hs; intro B3 cap3 w hs; replace hs : St w0 [SlB X s', blk g14 (c5o o).toArray 72, blk g15 (c3 x).toArray 40, own B3 (m + 1) cap3 80 2 (es2 s.evs ++ e2 (3, o.i)), blk g7 (c3 dd).toArray 28] w := (hs.rot.drop).ent (by (repeat first | exact Ent.refl _ | refine Ent.step (by first | exact Ent.refl _ | exact Ent.skip (Ent.refl _) | exact Ent.skip (Ent.skip (Ent.refl _)) | exact Ent.skip (Ent.skip (Ent.skip (Ent.refl _))) | exact Ent.skip (Ent.skip (Ent.skip (Ent.skip (Ent.refl _)))) | exact Ent.skip (Ent.skip (Ent.skip (Ent.skip (Ent.skip (Ent.refl _))))) | exact Ent.skip (Ent.skip (Ent.skip (Ent.skip (Ent.skip (Ent.skip (Ent.refl _)))))) | exact Ent.skip (Ent.skip (Ent.skip (Ent.skip (Ent.skip (Ent.skip (Ent.skip (Ent.refl _))))))) | exact Ent.skip (Ent.skip (Ent.skip (Ent.skip (Ent.skip (Ent.skip (Ent.skip (Ent.skip (Ent.refl _)))))))) | exact Ent.skip (Ent.skip (Ent.skip (Ent.skip (Ent.skip (Ent.skip (Ent.skip (Ent.skip (Ent.skip (Ent.refl _)))))))))) ?_)); have q1 := hr1 _ _ hs.drop)
                | (go_at_call 18; refine (sl_put hs HL.out HU' HB' HE HS').mono ?_; clear hs q0 q1; rintro r w ⟨rfl, hs⟩; have q1 := hr1 _ _ hs.drop)
                | (go_at_call 31; refine (sl_take hs HWF HL.out HU HB HS').mono ?_; clear hs q0 q1; rintro r w ⟨rfl, hs⟩; have q1 := hr1 _ _ hs.drop)
                | (go_at_call 30; refine (sl_set hs HL.out HE HS').mono ?_; clear hs q0 q1; rintro r w ⟨rfl, hs⟩; have q1 := hr1 _ _ hs.drop)
                | (go_at_call 30; refine (sl_set hs HL'.out H9 H9').mono ?_; clear hs q1; rintro r w ⟨rfl, hs⟩)
                | (refine wpl_alloc zero3 hs ?_; clear hs; intro g18 w hs)
                | (refine wpl_store_agg (v := val3 u) rfl rfl (size3 _) hs WrA.slot3 ?_; clear hs; intro w hs; replace hs := hs.drop; have q1 := hr1 _ _ hs.drop)
                | (refine wpl_store_agg (v := val3 u') rfl rfl (size3 _) hs WrA.slot3 ?_; clear hs; intro w hs; replace hs := hs.drop; have q1 := hr1 _ _ hs.drop)))
              rw [HSS.out] at hs
              go_roundw
              case rel => exact ⟨k + 1, m, cW, W, s, by omega, by first | rfl | go_num, by first | rfl | go_num, hm, hNI.out.skip, hs.rot.drop.rot.drop⟩
              case measure => simp [intOf] <;> omega
            · have HEV : Hid (s'.evs = s.evs ++ [(3, o.i)]) := by rw [Hid, ← HS'.out]; exact SlS.take_evs hNI.out.F HB.out
              (go_wp2_with (first
                | (refine wpl_load3 (v := x) (g := g15) rfl (has3_tail (has3_tail (has3_slot (t := 40)))) agg3 size3n hs ?_)
                | (refine wpl_buildS (buildE (3) o.i) rfl ?_)
                | (refine wpl_buildS (build3k 9) rfl ?_)
                | (refine wpl_build1 (v := valE (3, o.i)) elemE (by decide) rfl rfl hs ?_; clear hs q1; intro G w hs)
                | (refine wpl_append (A := W) (n := m) (cap := cW) (xs := es2 s.evs) (m := 1) (news := e2 (3, o.i)) elemE rfl rfl hs (L' := blk G (e2 (3, o.i)).toArray 80 :: SlB X s' :: blk g14 (c5o o).toArray 72 :: blk g15 (c3 x).toArray 40 :: [blk g7 (c3 dd).toArray 28]) (by (repeat first | exact Ent.refl _ | refine Ent.step (by first | exact Ent.refl _ | exact Ent.skip (Ent.refl _) | exact Ent.skip (Ent.skip (Ent.refl _)) | exact Ent.skip (Ent.skip (Ent.skip (Ent.refl _))) | exact Ent.skip (Ent.skip (Ent.skip (Ent.skip (Ent.refl _)))) | exact Ent.skip (Ent.skip (Ent.skip (Ent.skip (Ent.skip (Ent.refl _))))) | exact Ent.skip (Ent.skip (Ent.skip (Ent.skip (Ent.skip (Ent.skip (Ent.refl _)))))) | exact Ent.skip (Ent.skip (Ent.skip (Ent.skip (Ent.skip (Ent.skip (Ent.skip (Ent.refl _))))))) | exact Ent.skip (Ent.skip (Ent.skip (Ent.skip (Ent.skip (Ent.skip (Ent.skip (Ent.skip (Ent.refl _)))))))) | exact Ent.skip (Ent.skip (Ent.skip (Ent.skip (Ent.skip (Ent.skip (Ent.skip (Ent.skip (Ent.skip (Ent.refl _)))))))))) ?_)) RdS.blk rfl (e2_one _) (by unfold maxLen; omega) (by omega) ?_; clear hs; intro B3 cap3 w hs; replace hs : St w0 [SlB X s', blk g14 (c5o o).toArray 72, blk g15 (c3 x).toArray 40, own B3 (m + 1) cap3 80 2 (es2 s.evs ++ e2 (3, o.i)), blk g7 (c3 dd).toArray 28] w := (hs.rot.drop).ent (by (repeat first | exact Ent.refl _ | refine Ent.step (by first | exact Ent.refl _ | exact Ent.skip (Ent.refl _) | exact Ent.skip (Ent.skip (Ent.refl _)) | exact Ent.skip (Ent.skip (Ent.skip (Ent.refl _))) | exact Ent.skip (Ent.skip (Ent.skip (Ent.skip (Ent.refl _)))) | exact Ent.skip (Ent.skip (Ent.skip (Ent.skip (Ent.skip (Ent.refl _))))) | exact Ent.skip (Ent.skip (Ent.skip (Ent.skip (Ent.skip (Ent.skip (Ent.refl _)))))) | exact Ent.skip (Ent.skip (Ent.skip (Ent.skip (Ent.skip (Ent.skip (Ent.skip (Ent.refl _))))))) | exact Ent.skip (Ent.skip (Ent.skip (Ent.skip (Ent.skip (Ent.skip (Ent.skip (Ent.skip (Ent.refl _)))))))) | exact Ent.skip (Ent.skip (Ent.skip (Ent.skip (Ent.skip (Ent.skip (Ent.skip (Ent.skip (Ent.skip (Ent.refl _)))))))))) ?_)); have q1 := hr1 _ _ hs.drop)
                | (go_at_call 18; refine (sl_put hs HL.out HU' HB' HE HS').mono ?_; clear hs q0 q1; rintro r w ⟨rfl, hs⟩; have q1 := hr1 _ _ hs.drop)
                | (go_at_call 31; refine (sl_take hs HWF HL.out HU HB HS').mono ?_; clear hs q0 q1; rintro r w ⟨rfl, hs⟩; have q1 := hr1 _ _ hs.drop)
                | (go_at_call 30; refine (sl_set hs HL.out HE HS').mono ?_; clear hs q0 q1; rintro r w ⟨rfl, hs⟩; have q1 := hr1 _ _ hs.drop)
                | (go_at_call 30; refine (sl_set hs HL'.out H9 H9').mono ?_; clear hs q1; rintro r w ⟨rfl, hs⟩)
                | (refine wpl_alloc zero3 hs ?_; clear hs; intro g18 w hs)
                | (refine wpl_store_agg (v := val3 u) rfl rfl (size3 _) hs WrA.slot3 ?_; clear hs; intro w hs; replace hs := hs.drop; have q1 := hr1 _ _ hs.drop)
                | (refine wpl_store_agg (v := val3 u') rfl rfl (size3 _) hs WrA.slot3 ?_; clear hs; intro w hs; replace hs := hs.drop; have q1 := hr1 _ _ hs.drop)))
              have hs5 : St w0 [SlB X s', own B3 (m + 1) cap3 80 2 (es2 s'.evs), blk g7 (c3 dd).toArray 28] w := by
                rw [show es2 s'.evs = es2 s.evs ++ e2 (3, o.i) by rw [HEV.out, es2_append]; rfl]
                exact hs.rot.drop.rot.drop
              go_roundw
              case rel => exact ⟨k + 1, m + 1, cap3, B3, s', by omega, by first | rfl | go_num, by first | rfl | go_num, by rw [Hid, HEV.out, List.length_append, hm.out]; rfl, HNI', hs5⟩
              case measure => simp [intOf] <;> omega
          · have d1 : (o.k == 1) = false := by simp [k1]
            by_cases k3 : o.k = 3
            · have d3 : (o.k == 3) = true := by simp [k3]
              obtain ⟨s', HS'⟩ : ∃ t, Hid (s.set o.i x = t) := ⟨_, rfl⟩
              obtain ⟨e1, HE⟩ : ∃ t, Hid (s.errSet o.i x = t) := ⟨_, rfl⟩
              have HNI' : Hid (NoI s' dd f v (k + 1)) := by rw [Hid, ← HS'.out]; exact hNI.out.set
              have he1 : (e1 == 0) = th := by
                rw [← HB.out, ← HE.out, ← SlS.errSet_has hWf.out HXO.out]; exact Bool.beq_eq_decide_eq _ _
              have HL' : Hid (s'.evs.length < 4611686018427387904) := by have := HNI'.out.len; rw [Hid]; omega
              obtain ⟨e9, H9⟩ : ∃ t, Hid (s'.errSet o.i ⟨9, 0, 0⟩ = t) := ⟨_, rfl⟩
              have H9' : Hid (s'.set o.i ⟨9, 0, 0⟩ = s') := SlS.set_no (SlS.errSet_nine (by rw [HNI'.out.d_, HDK.out]; exact hdk.out))
              have h0 : s.errSet o.i x = 0 ↔ th = true := by rw [HE.out, ← he1]; simp
              have HH0 := Lib.hid h0
              clear k0 k1 k3 h0
              cases th
              · have HSS : Hid (s' = s) := by rw [Hid, ← HS'.out]; exact SlS.set_no (fun h => by cases HH0.out.1 h)
                (go_wp2_with (first
                  | (refine wpl_load3 (v := x) (g := g15) rfl (has3_tail (has3_tail (has3_slot (t := 40)))) agg3 size3n hs ?_)
                  | (refine wpl_buildS (buildE (2) o.i) rfl ?_)
                  | (refine wpl_buildS (build3k 9) rfl ?_)
                  | (refine wpl_build1 (v := valE (2, o.i)) elemE (by decide) rfl rfl hs ?_; clear hs q1; intro G w hs)
                  | (refine wpl_append (A := W) (n := m) (cap := cW) (xs := es2 s.evs) (m := 1) (news := e2 (2, o.i)) elemE rfl rfl hs (L' := blk G (e2 (2, o.i)).toArray 80 :: SlB X s' :: blk g14 (c5o o).toArray 72 :: blk g15 (c3 x).toArray 40 :: [blk g7 (c3 dd).toArray 28]) (by (repeat first | exact Ent.refl _ | refine Ent.step (by first | exact Ent.refl _ | exact Ent.skip (Ent.refl _) | exact Ent.skip (Ent.skip (Ent.refl _)) | exact Ent.skip (Ent.skip (Ent.skip (Ent.refl _))) | exact Ent.skip (Ent.skip (Ent.skip (Ent.skip (Ent.refl _)))) | exact Ent.skip (Ent.skip (Ent.skip (Ent.skip (Ent.skip (Ent.refl _))))) | exact Ent.skip (Ent.skip (Ent.skip (Ent.skip (Ent.skip (Ent.skip (Ent.refl _)))))) | exact Ent.skip (Ent.skip (Ent.skip (Ent.skip (Ent.skip (Ent.skip (Ent.skip (Ent.refl _))))))) | exact Ent.skip (Ent.skip (Ent.skip (Ent.skip (Ent.skip (Ent.skip (Ent.skip (Ent.skip (Ent.refl _)))))))) | exact Ent.skip (Ent.skip (Ent.skip (Ent.skip (Ent.skip (Ent.skip (Ent.skip (Ent.skip (Ent.skip (Ent.refl _)))))))))) ?_)) RdS.blk rfl (e2_one _) (by unfold maxLen; omega) (by omega) ?_; clear hs; intro B3 cap3 w hs; replace hs : St w0 [SlB X s', blk g14 (c5o o).toArray 72, blk g15 (c3 x).toArray 40, own B3 (m + 1) cap3 80 2 (es2 s.evs ++ e2 (2, o.i)), blk g7 (c3 dd).toArray 28] w := (hs.rot.drop).ent (by (repeat first | exact Ent.refl _ | refine Ent.step (by first | exact Ent.refl _ | exact Ent.skip (Ent.refl _) | exact Ent.skip (Ent.skip (Ent.refl _)) | exact Ent.skip (Ent.skip (Ent.skip (Ent.refl _))) | exact Ent.skip (Ent.skip (Ent.skip (Ent.skip (Ent.refl _)))) | exact Ent.skip (Ent.skip (Ent.skip (Ent.skip (Ent.skip (Ent.refl _))))) | exact Ent.skip (Ent.skip (Ent.skip (Ent.skip (Ent.skip (Ent.skip (Ent.refl _)))))) | exact Ent.skip (Ent.skip (Ent.skip (Ent.skip (Ent.skip (Ent.skip (Ent.skip (Ent.refl _))))))) | exact Ent.skip (Ent.skip (Ent.skip (Ent.skip (Ent.skip (Ent.skip (Ent.skip (Ent.skip (Ent.refl _)))))))) | exact Ent.skip (Ent.skip (Ent.skip (Ent.skip (Ent.skip (Ent.skip (Ent.skip (Ent.skip (Ent.skip (Ent.refl _)))))))))) ?_)); have q1 := hr1 _ _ hs.drop)
                  | (go_at_call 18; refine (sl_put hs HL.out HU' HB' HE HS').mono ?_; clear hs q0 q1; rintro r w ⟨rfl, hs⟩; have q1 := hr1 _ _ hs.drop)
                  | (go_at_call 31; refine (sl_take hs HWF HL.out HU HB HS').mono ?_; clear hs q0 q1; rintro r w ⟨rfl, hs⟩; have q1 := hr1 _ _ hs.drop)
                  | (go_at_call 30; refine (sl_set hs HL.out HE HS').mono ?_; clear hs q0 q1; rintro r w ⟨rfl, hs⟩; have q1 := hr1 _ _ hs.drop)
                  | (go_at_call 30; refine (sl_set hs HL'.out H9 H9').mono ?_; clear hs q1; rintro r w ⟨rfl, hs⟩)
                  | (refine wpl_alloc zero3 hs ?_; clear hs; intro g18 w hs)
                  | (refine wpl_store_agg (v := val3 u) rfl rfl (size3 _) hs WrA.slot3 ?_; clear hs; intro w hs; replace hs := hs.drop; have q1 := hr1 _ _ hs.drop)
                  | (refine wpl_store_agg (v := val3 u') rfl rfl (size3 _) hs WrA.slot3 ?_; clear hs; intro w hs; replace hs := hs.drop; have q1 := hr1 _ _ hs.drop)))
                rw [HSS.out] at hs
                go_roundw
                case rel => exact ⟨k + 1, m, cW, W, s, by omega, by first | rfl | go_num, by first | rfl | go_num, hm, hNI.out.skip, hs.rot.drop.rot.drop⟩
                case measure => simp [intOf] <;> omega
              · have HEV : Hid (s'.evs = s.evs ++ [(2, o.i)]) := by rw [Hid, ← HS'.out]; exact SlS.set_evs hNI.out.F (HH0.out.2 rfl)
                (go_wp2_with (first
                  | (refine wpl_load3 (v := x) (g := g15) rfl (has3_tail (has3_tail (has3_slot (t := 40)))) agg3 size3n hs ?_)
                  | (refine wpl_buildS (buildE (2) o.i) rfl ?_)
                  | (refine wpl_buildS (build3k 9) rfl ?_)
                  | (refine wpl_build1 (v := valE (2, o.i)) elemE (by decide) rfl rfl hs ?_; clear hs q1; intro G w hs)
                  | (refine wpl_append (A := W) (n := m) (cap := cW) (xs := es2 s.evs) (m := 1) (news := e2 (2, o.i)) elemE rfl rfl hs (L' := blk G (e2 (2, o.i)).toArray 80 :: SlB X s' :: blk g14 (c5o o).toArray 72 :: blk g15 (c3 x).toArray 40 :: [blk g7 (c3 dd).toArray 28]) (by (repeat first | exact Ent.refl _ | refine Ent.step (by first | exact Ent.refl _ | exact Ent.skip (Ent.refl _) | exact Ent.skip (Ent.skip (Ent.refl _)) | exact Ent.skip (Ent.skip (Ent.skip (Ent.refl _))) | exact Ent.skip (Ent.skip (Ent.skip (Ent.skip (Ent.refl _)))) | exact Ent.skip (Ent.skip (Ent.skip (Ent.skip (Ent.skip (Ent.refl _))))) | exact Ent.skip (Ent.skip (Ent.skip (Ent.skip (Ent.skip (Ent.skip (Ent.refl _)))))) | exact Ent.skip (Ent.skip (Ent.skip (Ent.skip (Ent.skip (Ent.skip (Ent.skip (Ent.refl _))))))) | exact Ent.skip (Ent.skip (Ent.skip (Ent.skip (Ent.skip (Ent.skip (Ent.skip (Ent.skip (Ent.refl _)))))))) | exact Ent.skip (Ent.skip (Ent.skip (Ent.skip (Ent.skip (Ent.skip (Ent.skip (Ent.skip (Ent.skip (Ent.refl _)))))))))) ?_)) RdS.blk rfl (e2_one _) (by unfold maxLen; omega) (by omega) ?_; clear hs; intro B3 cap3 w hs; replace hs : St w0 [SlB X s', blk g14 (c5o o).toArray 72, blk g15 (c3 x).toArray 40, own B3 (m + 1) cap3 80 2 (es2 s.evs ++ e2 (2, o.i)), blk g7 (c3 dd).toArray 28] w := (hs.rot.drop).ent (by (repeat first | exact Ent.refl _ | refine Ent.step (by first | exact Ent.refl _ | exact Ent.skip (Ent.refl _) | exact Ent.skip (Ent.skip (Ent.refl _)) | exact Ent.skip (Ent.skip (Ent.skip (Ent.refl _))) | exact Ent.skip (Ent.skip (Ent.skip (Ent.skip (Ent.refl _)))) | exact Ent.skip (Ent.skip (Ent.skip (Ent.skip (Ent.skip (Ent.refl _))))) | exact Ent.skip (Ent.skip (Ent.skip (Ent.skip (Ent.skip (Ent.skip (Ent.refl _)))))) | exact Ent.skip (Ent.skip (Ent.skip (Ent.skip (Ent.skip (Ent.skip (Ent.skip (Ent.refl _))))))) | exact Ent.skip (Ent.skip (Ent.skip (Ent.skip (Ent.skip (Ent.skip (Ent.skip (Ent.skip (Ent.refl _)))))))) | exact Ent.skip (Ent.skip (Ent.skip (Ent.skip (Ent.skip (Ent.skip (Ent.skip (Ent.skip (Ent.skip (Ent.refl _)))))))))) ?_)); have q1 := hr1 _ _ hs.drop)
                  | (go_at_call 18; refine (sl_put hs HL.out HU' HB' HE HS').mono ?_; clear hs q0 q1; rintro r w ⟨rfl, hs⟩; have q1 := hr1 _ _ hs.drop)
                  | (go_at_call 31; refine (sl_take hs HWF HL.out HU HB HS').mono ?_; clear hs q0 q1; rintro r w ⟨rfl, hs⟩; have q1 := hr1 _ _ hs.drop)
                  | (go_at_call 30; refine (sl_set hs HL.out HE HS').mono ?_; clear hs q0 q1; rintro r w ⟨rfl, hs⟩; have q1 := hr1 _ _ hs.drop)
                  | (go_at_call 30; refine (sl_set hs HL'.out H9 H9').mono ?_; clear hs q1; rintro r w ⟨rfl, hs⟩)
                  | (refine wpl_alloc zero3 hs ?_; clear hs; intro g18 w hs)
                  | (refine wpl_store_agg (v := val3 u) rfl rfl (size3 _) hs WrA.slot3 ?_; clear hs; intro w hs; replace hs := hs.drop; have q1 := hr1 _ _ hs.drop)
                  | (refine wpl_store_agg (v := val3 u') rfl rfl (size3 _) hs WrA.slot3 ?_; clear hs; intro w hs; replace hs := hs.drop; have q1 := hr1 _ _ hs.drop)))
                have hs5 : St w0 [SlB X s', own B3 (m + 1) cap3 80 2 (es2 s'.evs), blk g7 (c3 dd).toArray 28] w := by
                  rw [show es2 s'.evs = es2 s.evs ++ e2 (2, o.i) by rw [HEV.out, es2_append]; rfl]
                  exact hs.rot.drop.rot.drop
                go_roundw
                case rel => exact ⟨k + 1, m + 1, cap3, B3, s', by omega, by first | rfl | go_num, by first | rfl | go_num, by rw [Hid, HEV.out, List.length_append, hm.out]; rfl, HNI', hs5⟩
                case measure => simp [intOf] <;> omega
            · have d3 : (o.k == 3) = false := by simp [k3]
              obtain ⟨s', hss⟩ : ∃ t, t = s := ⟨_, rfl⟩
              have HSS := Lib.hid hss
              rw [← hss] at hs
              clear k0 k1 k3 hss
              (go_wp2_with (first
                | (refine wpl_load3 (v := x) (g := g15) rfl (has3_tail (has3_tail (has3_slot (t := 40)))) agg3 size3n hs ?_)
                | (refine wpl_buildS (buildE (1) o.i) rfl ?_)
                | (refine wpl_buildS (build3k 9) rfl ?_)
                | (refine wpl_build1 (v := valE (1, o.i)) elemE (by decide) rfl rfl hs ?_; clear hs q1; intro G w hs)
                | (refine wpl_append (A := W) (n := m) (cap := cW) (xs := es2 s.evs) (m := 1) (news := e2 (1, o.i)) elemE rfl rfl hs (L' := blk G (e2 (1, o.i)).toArray 80 :: SlB X s' :: blk g14 (c5o o).toArray 72 :: blk g15 (c3 x).toArray 40 :: [blk g7 (c3 dd).toArray 28]) (by (repeat first | exact Ent.refl _ | refine Ent.step (by first | exact Ent.refl _ | exact Ent.skip (Ent.refl _) | exact Ent.skip (Ent.skip (Ent.refl _)) | exact Ent.skip (Ent.skip (Ent.skip (Ent.refl _))) | exact Ent.skip (Ent.skip (Ent.skip (Ent.skip (Ent.refl _)))) | exact Ent.skip (Ent.skip (Ent.skip (Ent.skip (Ent.skip (Ent.refl _))))) | exact Ent.skip (Ent.skip (Ent.skip (Ent.skip (Ent.skip (Ent.skip (Ent.refl _)))))) | exact Ent.skip (Ent.skip (Ent.skip (Ent.skip (Ent.skip (Ent.skip (Ent.skip (Ent.refl _))))))) | exact Ent.skip (Ent.skip (Ent.skip (Ent.skip (Ent.skip (Ent.skip (Ent.skip (Ent.skip (Ent.refl _)))))))) | exact Ent.skip (Ent.skip (Ent.skip (Ent.skip (Ent.skip (Ent.skip (Ent.skip (Ent.skip (Ent.skip (Ent.refl _)))))))))) ?_)) RdS.blk rfl (e2_one _) (by unfold maxLen; omega) (by omega) ?_; clear hs; intro B3 cap3 w hs; replace hs : St w0 [SlB X s', blk g14 (c5o o).toArray 72, blk g15 (c3 x).toArray 40, own B3 (m + 1) cap3 80 2 (es2 s.evs ++ e2 (1, o.i)), blk g7 (c3 dd).toArray 28] w := (hs.rot.drop).ent (by (repeat first | exact Ent.refl _ | refine Ent.step (by first | exact Ent.refl _ | exact Ent.skip (Ent.refl _) | exact Ent.skip (Ent.skip (Ent.refl _)) | exact Ent.skip (Ent.skip (Ent.skip (Ent.refl _))) | exact Ent.skip (Ent.skip (Ent.skip (Ent.skip (Ent.refl _)))) | exact Ent.skip (Ent.skip (Ent.skip (Ent.skip (Ent.skip (Ent.refl _))))) | exact Ent.skip (Ent.skip (Ent.skip (Ent.skip (Ent.skip (Ent.skip (Ent.refl _)))))) | exact Ent.skip (Ent.skip (Ent.skip (Ent.skip (Ent.skip (Ent.skip (Ent.skip (Ent.refl _))))))) | exact Ent.skip (Ent.skip (Ent.skip (Ent.skip (Ent.skip (Ent.skip (Ent.skip (Ent.skip (Ent.refl _)))))))) | exact Ent.skip (Ent.skip (Ent.skip (Ent.skip (Ent.skip (Ent.skip (Ent.skip (Ent.skip (Ent.skip (Ent.refl _)))))))))) ?_)); have q1 := hr1 _ _ hs.drop)
                | (go_at_call 18; refine (sl_put hs HL.out HU' HB' HE HS').mono ?_; clear hs q0 q1; rintro r w ⟨rfl, hs⟩; have q1 := hr1 _ _ hs.drop)
                | (go_at_call 31; refine (sl_take hs HWF HL.out HU HB HS').mono ?_; clear hs q0 q1; rintro r w ⟨rfl, hs⟩; have q1 := hr1 _ _ hs.drop)
                | (go_at_call 30; refine (sl_set hs HL.out HE HS').mono ?_; clear hs q0 q1; rintro r w ⟨rfl, hs⟩; have q1 := hr1 _ _ hs.drop)
                | (go_at_call 30; refine (sl_set hs HL'.out H9 H9').mono ?_; clear hs q1; rintro r w ⟨rfl, hs⟩)
                | (refine wpl_alloc zero3 hs ?_; clear hs; intro g18 w hs)
                | (refine wpl_store_agg (v := val3 u) rfl rfl (size3 _) hs WrA.slot3 ?_; clear hs; intro w hs; replace hs := hs.drop; have q1 := hr1 _ _ hs.drop)
                | (refine wpl_store_agg (v := val3 u') rfl rfl (size3 _) hs WrA.slot3 ?_; clear hs; intro w hs; replace hs := hs.drop; have q1 := hr1 _ _ hs.drop)))
              rw [HSS.out] at hs
              go_roundw
              case rel => exact ⟨k + 1, m, cW, W, s, by omega, by first | rfl | go_num, by first | rfl | go_num, hm, hNI.out.skip, hs.rot.drop.rot.drop⟩
              case measure => simp [intOf] <;> omega
    · have HR0 : Hid (s.rds[0]? = some 0) := by rw [Hid, hNI.out.rds]; rfl
      have HFF : Hid (fpV s.F = .pointer (some ⟨f, 0, none⟩)) := by rw [Hid, hNI.out.F]; rfl
      have HL : Hid (s.evs.length < 4611686018427387904) := by have := hNI.out.len; rw [Hid]; omega
      have hm80 : m ≤ 80 := by have := hNI.out.len; rw [hm.out] at this; omega
      have HLG : Hid (lagE s.d.b.toNat s.evs 0 = false) := by
        rw [Hid, hNI.out.d_, HDB.out]; unfold lagE; exact decide_eq_false (by rw [hm.out]; show ¬ 1000 < m - 0; omega)
      have HNE : Hid (newE s.d.b.toNat s.evs 0 = s.evs) := by
        rw [Hid]; unfold newE; rw [HLG.out]; rfl
      obtain ⟨s2, HS2⟩ : ∃ t, Hid (({ s with rds := s.rds.set 0 s.evs.length } : SlS) = t) := ⟨_, rfl⟩
      by_cases h3 : k < xs.length
      · have h4 : ¬ k < 80 := fun h => hlt ⟨h3, h⟩
        clear hlt
        (go_wp2_with (first
          | (go_at_call 17; refine (sl_flag_v hs HFF).mono ?_; rintro r w ⟨rfl, rfl⟩)
          | (go_at_call 33; refine (sl_read hs hNI.out.F (r := 0) HR0.out HL.out HLG HNE HS2).mono ?_; clear hs; rintro r w ⟨A2, cA2, m2, hm2, rfl, hs⟩; obtain rfl : m = m2 := (by rw [← hm.out, ← hm2.out]))
          | (go_at_call 34; refine (samee_c hs hm (by omega) (RdS.own hs) (RdS.own hs.drop.drop).tail.tail).mono ?_; rintro r w ⟨rfl, hg⟩; replace hs := hs.grew hg; clear hg)
          | (go_at_call 20; refine awake11.mono ?_; rintro r w ⟨rfl, hg⟩; replace hs := hs.grew hg; clear hg)))
        go_ret
        exact ⟨rfl, hs.drop.drop.drop.drop⟩
      · clear hlt
        (go_wp2_with (first
          | (go_at_call 17; refine (sl_flag_v hs HFF).mono ?_; rintro r w ⟨rfl, rfl⟩)
          | (go_at_call 33; refine (sl_read hs hNI.out.F (r := 0) HR0.out HL.out HLG HNE HS2).mono ?_; clear hs; rintro r w ⟨A2, cA2, m2, hm2, rfl, hs⟩; obtain rfl : m = m2 := (by rw [← hm.out, ← hm2.out]))
          | (go_at_call 34; refine (samee_c hs hm (by omega) (RdS.own hs) (RdS.own hs.drop.drop).tail.tail).mono ?_; rintro r w ⟨rfl, hg⟩; replace hs := hs.grew hg; clear hg)
          | (go_at_call 20; refine awake11.mono ?_; rintro r w ⟨rfl, hg⟩; replace hs := hs.grew hg; clear hg)))
        go_ret
        exact ⟨rfl, hs.drop.drop.drop.drop⟩
end Go.Proofs.Ytmdjpeblbnbjmaa
