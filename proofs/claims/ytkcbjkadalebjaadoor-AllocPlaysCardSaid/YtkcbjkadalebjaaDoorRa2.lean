/-
  The document's Alloc (vivariumref5), 2: Delete, In, Merge, Counts, At.
-/
import Derived.Test.YtkcbjkadalebjaaDoorRa
set_option maxRecDepth 100000
namespace Go.Proofs.YtkcbjkadalebjaaDoor
open Go Go.RowKit
attribute [local irreducible] wpList Calls Code.wp

theorem del_pad {n : Nat} {top : Int} {c : List ACell} {h : Hdl} (hf : c.length ≤ n) : delA top (padA n c) h = ((delA top c h).1, padA n (delA top c h).2) := by
  rcases stV_cases c h with h1 | h1 | h1
  · unfold delA; rw [of_pad hf, h1]; rfl
  · unfold delA; rw [of_pad hf, h1]; rfl
  · obtain ⟨k, hk, hl, _⟩ := stV_one h1
    unfold delA
    rw [of_pad hf, h1, hk, Int.toNat_natCast]
    simp only [show ¬ (1 : Int) = 0 by decide, show ¬ (1 : Int) = 2 by decide, if_false]
    rw [padA_set hl]
theorem RaOk.set {n : Nat} {top : Int} {c : List ACell} (h : RaOk n top c) {k s : Nat} {g : Int} (hk : k < c.length) (hs : s = 0 ∨ s = 1 ∨ s = 2 ∨ s = 9) (h1 : 0 ≤ g) (h2 : g ≤ top) (h3 : s = 0 → g < top) : RaOk n top (c.set k (s, g)) where
  fits := by rw [List.length_set]; exact h.fits
  few := h.few
  top2 := h.top2
  top1 := h.top1
  gen j hj := by
    rw [gnA_set hk]; split
    · exact ⟨h1, h2⟩
    · exact h.gen j (by simpa using hj)
  st j hj := by
    rw [stA_set hk]; split
    · exact hs
    · exact h.st j (by simpa using hj)
  free j hj := by
    rw [gnA_set hk, stA_set hk]; split
    · exact h3
    · exact h.free j (by simpa using hj)
attribute [local irreducible] idxS addS okN memS remS errN insS delS nextS stA gnA stV atA hsV mergeA giveV delA newA bsV padA
theorem mayR_0 {v : Int} (h : v = 0) : mayR v = 4 := by rw [h]; rfl
theorem mayR_2 {v : Int} (h : v = 2) : mayR v = 5 := by rw [h]; rfl
theorem mayR_1 {v : Int} (h : v = 1) : mayR v = 0 := by rw [h]; rfl
theorem may_v {w0 w : World} {L : List As} {E n : Nat} {top : Int} {c : List ACell} (hs : St w0 (RaB E n top c :: L) w) {h : Hdl} {x : Int} (hx : Hid (mayR (stV c h) = x)) :
    Calls Tryd.prog 39 #[.pointer (some ⟨E, 0, none⟩), hv h] w fun e w' => e = .returned (.int .i64 x) ∧ Grew w w' := by
  rw [← hx.out]; exact may_c hs
set_option maxHeartbeats 1000000 in
theorem delete_r {w0 w : World} {L : List As} {E n : Nat} {top : Int} {c : List ACell} (hs : St w0 (RaB E n top c :: L) w) {h : Hdl} {x : Int} {c' : List ACell} (HV : Hid (delA top c h = (x, c'))) :
    Calls Tryd.prog 23 #[.pointer (some ⟨E, 0, none⟩), hv h] w fun e w' => e = .returned (.int .i64 x) ∧ St w0 (RaB E n top c' :: L) w' := by
  obtain ⟨i, g⟩ := h
  rcases stV_cases c (i, g) with h1 | h1 | h1
  · have HM := Lib.hid (mayR_0 h1)
    have HVV : Hid (delA top c (i, g) = (4, c)) := by rw [Hid]; unfold delA; rw [h1]; rfl
    rw [HVV.out] at HV
    clear h1
    go_enter Tryd.func23, Tryd.ntmps23
    go_wp2_with (first
      | (refine wpl_box_v (v := hv (i, g)) rfl hs ?_; clear hs; intro g3 w1 hs; replace hs : St w0 (blk g3 (h2 (i, g)).toArray 30 :: _) w1 := hs)
      | (refine wpl_load_agg (cs := h2 (i, g)) (b := g3) (o := 0) rfl aggH (sizeH _) hs ?hh ?_; case hh => exact fun j x hx => Rd.blk (by simpa using hx))
      | (go_at_call 39; refine (may_v hs.rot HM).mono ?_; rintro e w' ⟨rfl, hg⟩; replace hs := hs.grew hg; clear hg))
    go_ret
    cases HV.out
    exact ⟨rfl, hs.drop⟩
  · have HM := Lib.hid (mayR_2 h1)
    have HVV : Hid (delA top c (i, g) = (5, c)) := by rw [Hid]; unfold delA; rw [h1]; rfl
    rw [HVV.out] at HV
    clear h1
    go_enter Tryd.func23, Tryd.ntmps23
    go_wp2_with (first
      | (refine wpl_box_v (v := hv (i, g)) rfl hs ?_; clear hs; intro g3 w1 hs; replace hs : St w0 (blk g3 (h2 (i, g)).toArray 30 :: _) w1 := hs)
      | (refine wpl_load_agg (cs := h2 (i, g)) (b := g3) (o := 0) rfl aggH (sizeH _) hs ?hh ?_; case hh => exact fun j x hx => Rd.blk (by simpa using hx))
      | (go_at_call 39; refine (may_v hs.rot HM).mono ?_; rintro e w' ⟨rfl, hg⟩; replace hs := hs.grew hg; clear hg))
    go_ret
    cases HV.out
    exact ⟨rfl, hs.drop⟩
  · have HM := Lib.hid (mayR_1 h1)
    obtain ⟨k, hik, hk, hgk, hsk⟩ := stV_one h1
    simp only at hik hgk
    subst hik
    have hok := hs.raopen.1
    have hgb := hok.gen k hk
    rw [hgk] at hgb
    obtain ⟨s', hs'⟩ : ∃ s' : Nat, (if top ≤ g then 9 else 0) = s' := ⟨_, rfl⟩
    have HVV : delA top c ((k : Int), g) = (0, c.set k (s', g)) := by unfold delA; rw [h1, ← hs']; rfl
    rw [HVV] at HV
    cases HV.out
    have hok' : RaOk n top (c.set k (s', g)) := hok.set hk (by rw [← hs']; split <;> simp) hgb.1 hgb.2 (fun h0 => by
      rw [h0] at hs'
      split at hs'
      · cases hs'
      · omega)
    have HG : Hid (gensV c = gensV (c.set k (s', g))) := by rw [Hid, ← hgk, gensV_same' hk]
    have HS0 : Hid ((stsV c).set k (.int .i64 0) = stsV (c.set k (0, g))) := stsV_set (s := 0)
    have HLn : Hid ((c.set k (s', g)).length = c.length) := by rw [Hid, List.length_set]
    have hl0 : k < (stsV c).length := by rw [stsV_len]; exact hk
    have hgt : g ≤ 4294967295 := by have := hok.top2; omega
    have hmf : c.length ≤ 65536 := Nat.le_trans hok.fits hok.few
    clear h1 HVV HV hsk hok
    by_cases htg : top ≤ g
    · obtain rfl : 9 = s' := by rw [← hs', if_pos htg]
      obtain rfl : top = g := by omega
      have HS9 : Hid ((stsV (c.set k (0, top))).set k (.int .i64 9) = stsV (c.set k (9, top))) := by
        have e : (stsV (c.set k (0, top))).set k (.int .i64 ((9 : Nat) : Int)) = stsV ((c.set k (0, top)).set k (9, top)) := stsV_set
        rw [List.set_set] at e
        exact e
      have hl9 : k < (stsV (c.set k (0, top))).length := by rw [stsV_len, List.length_set]; exact hk
      generalize c.set k (9, top) = c' at *
      generalize c.set k (0, top) = c0 at *
      clear hs' hgk hgb htg
      go_enter Tryd.func23, Tryd.ntmps23
      go_upto_region 4 with (first
      | (refine wpl_box_v (v := hv ((k : Int), top)) rfl hs ?_; clear hs; intro g3 w1 hs; replace hs : St w0 (blk g3 (h2 ((k : Int), top)).toArray 30 :: _) w1 := hs)
      | (refine wpl_load_agg (cs := h2 ((k : Int), top)) (b := g3) (o := 0) rfl aggH (sizeH _) hs ?hh ?_; case hh => exact fun j x hx => Rd.blk (by simpa using hx))
      | (go_at_call 39; refine (may_v hs.rot HM).mono ?_; rintro e w' ⟨rfl, hg⟩; replace hs := hs.grew hg; clear hg))
      obtain ⟨_, A, capA, B, capB, hs⟩ := hs.rot.raopen
      obtain ⟨gA, rfl⟩ := hs.rot.own_at (by omega)
      obtain ⟨gB, rfl⟩ := hs.up2.own_at (by omega)
      have hn2 := hs.up2.own_len
      generalize c.length = m at *
      have hsN := hs.up3.only2
      refine wp_region_plain [false, false, false, false, false, false, false, true] hsN (by kernel_rfl) (by kernel_rfl) fun hne => ?_
      have g0 := (Rd.blk (w0 := w0) (g := g3) (k := 0) (cs := (h2 ((k : Int), top)).toArray) (v := .int .i64 (k : Int)) (t := 30) (L := [blk E (raC n top (some ⟨gA, 0, none⟩) m capA (some ⟨gB, 0, none⟩) capB).toArray 73]) (by rfl)).alln
      have g1 := ((Rd.blk (w0 := w0) (g := E) (k := 3) (cs := (raC n top (some ⟨gA, 0, none⟩) m capA (some ⟨gB, 0, none⟩) capB).toArray) (v := .slice (some ⟨gB, 0, none⟩) m capB) (t := 73) (L := []) (by rfl)).tail (p := blk g3 (h2 ((k : Int), top)).toArray 30)).alln
      simp only [pickOps]
      repeat (go_big_quiet_step (fail))
      refine wpQuiet_nil ?_
      clear hne g0 g1
      simp only [chainIx]
      refine wpChain_last rfl ?_
      replace hs := hs.drew
      clear hsN
      go_upto_region 5 with (first
        | (refine wpl_store (ad := ⟨gB, k, none⟩) (v := .int .i64 0) rfl rfl rfl size_int3 hs.up2 (Wr.own hl0) ?_; clear hs; intro w3 hs; rw [HS0.out] at hs; replace hs := hs.dn2))
      obtain ⟨_, d1, _, _⟩ := raRd hs
      have f1 : World.cell? _ ⟨g3, 1, none⟩ = some (.int .i64 top) := Rd.blk (by rfl) _ hs.up3
      refine wp_region_grow (by kernel_rfl) (by kernel_rfl) fun hne => ?_
      have g0 := fun p : GW _ => p.grew.cell f1
      have g1 := fun p : GW _ => p.grew.cell d1
      repeat (go_big_quiet_step (fail))
      refine wpQuiet_nil ?_
      clear hne g0 g1 f1 d1
      intro u hu
      replace hs := hs.grew hu
      clear hu
      go_upto_region 6 with (fail)
      have hsN := hs.up3.only2
      refine wp_region_plain [false, false, false, false, false, false, false, true] hsN (by kernel_rfl) (by kernel_rfl) fun hne => ?_
      have g0 := (Rd.blk (w0 := w0) (g := g3) (k := 0) (cs := (h2 ((k : Int), top)).toArray) (v := .int .i64 (k : Int)) (t := 30) (L := [blk E (raC n top (some ⟨gA, 0, none⟩) m capA (some ⟨gB, 0, none⟩) capB).toArray 73]) (by rfl)).alln
      have g1 := ((Rd.blk (w0 := w0) (g := E) (k := 3) (cs := (raC n top (some ⟨gA, 0, none⟩) m capA (some ⟨gB, 0, none⟩) capB).toArray) (v := .slice (some ⟨gB, 0, none⟩) m capB) (t := 73) (L := []) (by rfl)).tail (p := blk g3 (h2 ((k : Int), top)).toArray 30)).alln
      simp only [pickOps]
      repeat (go_big_quiet_step (fail))
      refine wpQuiet_nil ?_
      clear hne g0 g1
      simp only [chainIx]
      refine wpChain_last rfl ?_
      replace hs := hs.drew
      clear hsN
      go_wp2_with (first
        | (refine wpl_store (ad := ⟨gB, k, none⟩) (v := .int .i64 9) rfl rfl rfl size_int3 hs.up2 (Wr.own hl9) ?_; clear hs; intro w3 hs; rw [HS9.out] at hs; replace hs := hs.dn2))
      go_ret
      rw [HG.out] at hs
      exact ⟨rfl, (hs.rashut hok' HLn.out).rot.drop⟩
    · obtain rfl : 0 = s' := by rw [← hs', if_neg htg]
      have htop : ¬ g = top := by omega
      generalize c.set k (0, g) = c' at *
      clear hs' hgk hgb
      go_enter Tryd.func23, Tryd.ntmps23
      go_upto_region 4 with (first
      | (refine wpl_box_v (v := hv ((k : Int), g)) rfl hs ?_; clear hs; intro g3 w1 hs; replace hs : St w0 (blk g3 (h2 ((k : Int), g)).toArray 30 :: _) w1 := hs)
      | (refine wpl_load_agg (cs := h2 ((k : Int), g)) (b := g3) (o := 0) rfl aggH (sizeH _) hs ?hh ?_; case hh => exact fun j x hx => Rd.blk (by simpa using hx))
      | (go_at_call 39; refine (may_v hs.rot HM).mono ?_; rintro e w' ⟨rfl, hg⟩; replace hs := hs.grew hg; clear hg))
      obtain ⟨_, A, capA, B, capB, hs⟩ := hs.rot.raopen
      obtain ⟨gA, rfl⟩ := hs.rot.own_at (by omega)
      obtain ⟨gB, rfl⟩ := hs.up2.own_at (by omega)
      have hn2 := hs.up2.own_len
      generalize c.length = m at *
      have hsN := hs.up3.only2
      refine wp_region_plain [false, false, false, false, false, false, false, true] hsN (by kernel_rfl) (by kernel_rfl) fun hne => ?_
      have g0 := (Rd.blk (w0 := w0) (g := g3) (k := 0) (cs := (h2 ((k : Int), g)).toArray) (v := .int .i64 (k : Int)) (t := 30) (L := [blk E (raC n top (some ⟨gA, 0, none⟩) m capA (some ⟨gB, 0, none⟩) capB).toArray 73]) (by rfl)).alln
      have g1 := ((Rd.blk (w0 := w0) (g := E) (k := 3) (cs := (raC n top (some ⟨gA, 0, none⟩) m capA (some ⟨gB, 0, none⟩) capB).toArray) (v := .slice (some ⟨gB, 0, none⟩) m capB) (t := 73) (L := []) (by rfl)).tail (p := blk g3 (h2 ((k : Int), g)).toArray 30)).alln
      simp only [pickOps]
      repeat (go_big_quiet_step (fail))
      refine wpQuiet_nil ?_
      clear hne g0 g1
      simp only [chainIx]
      refine wpChain_last rfl ?_
      replace hs := hs.drew
      clear hsN
      go_upto_region 5 with (first
        | (refine wpl_store (ad := ⟨gB, k, none⟩) (v := .int .i64 0) rfl rfl rfl size_int3 hs.up2 (Wr.own hl0) ?_; clear hs; intro w3 hs; rw [HS0.out] at hs; replace hs := hs.dn2))
      obtain ⟨_, d1, _, _⟩ := raRd hs
      have f1 : World.cell? _ ⟨g3, 1, none⟩ = some (.int .i64 g) := Rd.blk (by rfl) _ hs.up3
      refine wp_region_grow (by kernel_rfl) (by kernel_rfl) fun hne => ?_
      have g0 := fun p : GW _ => p.grew.cell f1
      have g1 := fun p : GW _ => p.grew.cell d1
      repeat (go_big_quiet_step (fail))
      refine wpQuiet_nil ?_
      clear hne g0 g1 f1 d1
      intro u hu
      replace hs := hs.grew hu
      clear hu
      go_wp2
      go_ret
      rw [HG.out] at hs
      exact ⟨rfl, (hs.rashut hok' HLn.out).rot.drop⟩
end Go.Proofs.YtkcbjkadalebjaaDoor
