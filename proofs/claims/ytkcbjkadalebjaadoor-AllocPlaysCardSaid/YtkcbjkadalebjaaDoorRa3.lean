/-
  The document's Alloc (vivariumref5), 3: In, Merge, Counts, At.
-/
import Derived.Test.YtkcbjkadalebjaaDoorRa2
set_option maxRecDepth 100000
namespace Go.Proofs.YtkcbjkadalebjaaDoor
open Go Go.RowKit
attribute [local irreducible] wpList Calls Code.wp

def idxU (s : Nat) (c : List ACell) (i : Nat) : List Nat := (List.range i).filter fun j => stA c j == s
theorem idxU_all (s : Nat) (c : List ACell) : idxU s c c.length = idxS s c := rfl
theorem idxU_zero (s : Nat) (c : List ACell) : idxU s c 0 = [] := rfl
theorem idxU_yes {s i : Nat} {c : List ACell} (h : stA c i = s) : idxU s c (i + 1) = idxU s c i ++ [i] := by
  unfold idxU
  rw [List.range_succ, List.filter_append]
  congr 1
  simp [h]
theorem idxU_no {s i : Nat} {c : List ACell} (h : stA c i ≠ s) : idxU s c (i + 1) = idxU s c i := by
  unfold idxU
  rw [List.range_succ, List.filter_append]
  simp [h]
theorem idxU_len (s : Nat) (c : List ACell) (i : Nat) : (idxU s c i).length ≤ i := by
  have := List.length_filter_le (fun j => stA c j == s) (List.range i)
  simpa [idxU] using this
theorem idxS_pad {n s : Nat} {c : List ACell} (hf : c.length ≤ n) (hs : s ≠ 0) : idxS s (padA n c) = idxS s c :=
  sorted_ext (sorted_idxS _ _) (sorted_idxS _ _) fun i => by
    rw [mem_idxS, mem_idxS, padA_len hf]
    constructor
    · rintro ⟨h1, h2⟩
      rw [stA_pad h1] at h2
      split at h2
      · exact ⟨by assumption, h2⟩
      · exact absurd h2.symm hs
    · rintro ⟨h1, h2⟩
      exact ⟨by omega, by rw [stA_pad (by omega), if_pos h1]; exact h2⟩
theorem all_pad {n s : Nat} {c : List ACell} (hf : c.length ≤ n) (hs : s ≠ 0) : allH (padA n c) (idxS s (padA n c)) = allH c (idxS s c) := by
  rw [idxS_pad hf hs]
  unfold allH handA
  refine List.map_congr_left fun a ha => ?_
  have h1 := (mem_idxS.1 ha).1
  rw [gnA_pad (by omega), if_pos h1]
theorem merge_pad {n : Nat} {c : List ACell} : mergeA (padA n c) = padA n (mergeA c) := by
  unfold mergeA padA
  rw [List.map_append, List.length_map]
  congr 1
  simp
theorem at_pad {n : Nat} {c : List ACell} {i : Int} (hf : c.length ≤ n) : atA (padA n c) i = atA c i := by
  unfold atA
  by_cases h0 : 0 ≤ i
  · obtain ⟨k, rfl⟩ := Int.eq_ofNat_of_zero_le h0
    rw [Int.toNat_natCast, padA_len hf]
    by_cases hk : k < c.length
    · rw [stA_pad (by omega), gnA_pad (by omega), if_pos hk, if_pos hk]
      by_cases hst : stA c k = 1 ∨ stA c k = 2
      · rw [if_pos ⟨by omega, by omega, hst⟩, if_pos ⟨by omega, by omega, hst⟩]
      · rw [if_neg (fun h => hst h.2.2), if_neg (fun h => hst h.2.2)]
    · rw [if_neg (c := 0 ≤ (k : Int) ∧ (k : Int) < (c.length : Int) ∧ (stA c k = 1 ∨ stA c k = 2)) (fun h => hk (by omega))]
      by_cases hkn : k < n
      · rw [stA_pad hkn, if_neg hk, if_neg (fun h => by rcases h.2.2 with h | h <;> cases h)]
      · rw [if_neg (fun h => hkn (by omega))]
  · rw [if_neg (fun h => h0 h.1), if_neg (fun h => h0 h.1)]
theorem cells_ext {c d : List ACell} (hl : c.length = d.length) (hs : ∀ i, i < c.length → stA c i = stA d i) (hg : ∀ i, i < c.length → gnA c i = gnA d i) : c = d := by
  refine List.ext_getElem hl fun i h1 h2' => ?_
  have a1 := hs i h1
  have a2 := hg i h1
  unfold stA at a1
  unfold gnA at a2
  rw [List.getD_eq_getElem?_getD, List.getD_eq_getElem?_getD, List.getElem?_eq_getElem h1, List.getElem?_eq_getElem h2'] at a1 a2
  exact Prod.ext a1 a2
/-- How far the document's merge has come. -/
structure MgI (c : List ACell) (k : Nat) (d : List ACell) : Prop where
  len : d.length = c.length
  gn : ∀ i, i < c.length → gnA d i = gnA c i
  st : ∀ i, i < c.length → stA d i = if i ∈ (idxS 2 c).take k then 1 else stA c i
theorem mgI_start (c : List ACell) : MgI c 0 c := ⟨rfl, fun _ _ => rfl, fun _ _ => by simp⟩
theorem MgI.step {c d : List ACell} {k a : Nat} (h : MgI c k d) (ha : (idxS 2 c)[k]? = some a) : MgI c (k + 1) (d.set a (1, gnA d a)) := by
  obtain ⟨hl, he⟩ := List.getElem?_eq_some_iff.1 ha
  have hac := (mem_idxS.1 (List.mem_of_getElem? ha)).1
  have had : a < d.length := by rw [h.len]; exact hac
  refine ⟨by rw [List.length_set]; exact h.len, fun i hi => ?_, fun i hi => ?_⟩
  · rw [gnA_set had]; split
    · rename_i e; rw [e]; exact h.gn a hac
    · exact h.gn i hi
  · rw [stA_set had, List.take_succ_eq_append_getElem hl, he]
    by_cases e : i = a
    · simp [e]
    · rw [if_neg e, h.st i hi]
      simp [e]
theorem MgI.done {c d : List ACell} {k : Nat} (h : MgI c k d) (hk : (idxS 2 c).length ≤ k) : d = mergeA c :=
  cells_ext (by rw [h.len, mergeA_len]) (fun i hi => by
    rw [h.len] at hi
    rw [h.st i hi, stA_merge, List.take_of_length_le hk]
    by_cases e : stA c i = 2
    · rw [if_pos (mem_idxS.2 ⟨hi, e⟩), if_pos e]
    · rw [if_neg (fun hm => e (mem_idxS.1 hm).2), if_neg e]) (fun i hi => by rw [h.len] at hi; rw [h.gn i hi, gnA_merge])
theorem RaOk.merge {n : Nat} {top : Int} {c : List ACell} (h : RaOk n top c) : RaOk n top (mergeA c) where
  fits := by rw [mergeA_len]; exact h.fits
  few := h.few
  top2 := h.top2
  top1 := h.top1
  gen i hi := by rw [gnA_merge]; exact h.gen i (by rwa [mergeA_len] at hi)
  st i hi := by
    rw [mergeA_len] at hi
    rw [stA_merge]; split
    · exact .inr (.inl rfl)
    · exact h.st i hi
  free i hi h0 := by
    rw [mergeA_len] at hi
    rw [gnA_merge]
    rw [stA_merge] at h0
    split at h0
    · cases h0
    · exact h.free i hi h0
attribute [local irreducible] idxS addS okN memS remS errN insS delS nextS stA gnA stV atA hsV mergeA giveV delA newA bsV padA idxU
set_option maxHeartbeats 1000000 in
theorem in_c {w0 w : World} {L : List As} {E n : Nat} {top : Int} {c : List ACell} (hs : St w0 (RaB E n top c :: L) w) {s k : Nat} (hk : Hid ((idxS s c).length = k)) :
    Calls Tryd.prog 40 #[.pointer (some ⟨E, 0, none⟩), .int .i64 (s : Nat)] w fun e w' => ∃ B cap, e = .returned (.slice B k cap) ∧ St w [own B k cap 30 2 (hsV (allH c (idxS s c)))] w' := by
  obtain ⟨hok, A, capA, B, capB, hs⟩ := hs.raopen
  have hfew : c.length ≤ 65536 := Nat.le_trans hok.fits hok.few
  have HU := Lib.hid (idxU_all s c)
  have HZ : Hid (hsV (allH c (idxU s c 0)) = []) := by rw [Hid, idxU_zero]; unfold hsV; rfl
  have hl1 := hs.rot.own_len
  have hl2 := hs.up2.own_len
  obtain ⟨m, hm⟩ : ∃ m, c.length = m := ⟨_, rfl⟩
  have HM := Lib.hid hm
  rw [hm] at hfew hs HU hl1 hl2
  clear hm hok
  go_enter Tryd.func40, Tryd.ntmps40
  go_wp2
  have hm0 := (St.start w).own_nil 30 2
  rw [← HZ.out] at hm0
  go_loopw [5, 6] (fun ov iv wr => ∃ (i q : Nat) (D : Option Addr) (cap : Nat), i ≤ m ∧ ov = .slice D q cap ∧ iv = .int .i64 (i : Nat) ∧ (idxU s c i).length = q ∧ St w [own D q cap 30 2 (hsV (allH c (idxU s c i)))] wr) (fun _ iv _ => m - (intOf iv).toNat)
  case atStart => exact ⟨0, 0, none, 0, Nat.zero_le _, rfl, rfl, by rw [idxU_zero]; rfl, hm0⟩
  case round =>
    clear hm0 HZ
    obtain ⟨i, q, D, cap, hi, rfl, rfl, hq, hw⟩ := hrel
    have hsw := hs.grew hw.made_grew
    obtain ⟨_, _, d2, d3⟩ := raRd hsw
    have hqi : q ≤ i := by rw [← hq]; exact idxU_len s c i
    by_cases hlt : i < m
    · obtain ⟨gA, rfl⟩ := hs.rot.own_at (by omega)
      obtain ⟨gB, rfl⟩ := hs.up2.own_at (by omega)
      have dg := Rd.own (gensV_get (cs := c) (i := i) (by rw [HM.out]; exact hlt)) _ hsw.rot
      have ds := Rd.own (stsV_get (c := c) (i := i) (by rw [HM.out]; exact hlt)) _ hsw.up2
      by_cases he : stA c i = s
      · have HT : Hid (hsV (allH c (idxU s c i)) ++ h2 ((i : Int), gnA c i) = hsV (allH c (idxU s c (i + 1)))) := by
          rw [Hid, hsV_append, idxU_yes he]; simp [allH, handA]
        have HQ : Hid ((idxU s c (i + 1)).length = q + 1) := by rw [Hid, idxU_yes he, List.length_append, hq]; rfl
        generalize gnA c i = g at *
        rw [he] at ds
        clear hq he
        go_wp2_with (first
          | (refine wpl_buildS (build_h2 _ _) rfl ?_)
          | (refine wpl_build1 (v := hv ((i : Int), g)) elemH (by decide) rfl rfl hw ?_; clear hw; intro gb w2 hw; replace hw : St w [blk gb (h2 ((i : Int), g)).toArray 30, own D q cap 30 2 (hsV (allH c (idxU s c i)))] w2 := hw)
          | (refine wpl_append (B := some ⟨gb, 0, none⟩) (m := 1) (news := h2 ((i : Int), g)) elemH rfl rfl hw (Ent.skip (Ent.refl _)) RdS.blk rfl (h2_one _) (by unfold maxLen; omega) (by omega) ?_; clear hw; intro D' cap' w3 hw; replace hw := hw.rot.drop; rw [HT.out] at hw))
        go_roundw
        case rel => first | exact ⟨i + 1, q + 1, D', cap', by omega, rfl, by go_num, HQ.out, hw⟩ | ((repeat apply Exists.intro); refine ⟨?_, rfl⟩; exact ⟨i + 1, q + 1, D', cap', by omega, rfl, by go_num, HQ.out, hw⟩)
        case measure => simp [intOf] <;> omega
      · have HT : Hid (idxU s c (i + 1) = idxU s c i) := idxU_no he
        have hes : ¬ ((stA c i : Nat) : Int) = (s : Int) := by omega
        generalize stA c i = s' at *
        clear he dg
        go_wp2
        go_roundw
        case rel => first | exact ⟨i + 1, q, D, cap, by omega, rfl, by go_num, by rw [HT.out]; exact hq, by rw [HT.out]; exact hw⟩ | ((repeat apply Exists.intro); refine ⟨?_, rfl⟩; exact ⟨i + 1, q, D, cap, by omega, rfl, by go_num, by rw [HT.out]; exact hq, by rw [HT.out]; exact hw⟩)
        case measure => simp [intOf] <;> omega
    · obtain rfl : i = m := by omega
      rw [HU.out] at hq hw
      obtain rfl : k = q := by rw [← hk.out, hq]
      clear hq HU
      go_wp2
      go_ret
      exact ⟨D, cap, rfl, hw⟩
theorem counts_r {w0 w : World} {L : List As} {E n : Nat} {top : Int} {c : List ACell} (hs : St w0 (RaB E n top c :: L) w) {a b d : Nat} (HA : Hid ((idxS 1 c).length = a)) (HB : Hid ((idxS 2 c).length = b)) (HC : Hid ((idxS 9 c).length = d)) :
    Calls Tryd.prog 42 #[.pointer (some ⟨E, 0, none⟩)] w fun e w' => e = .returned (.tuple #[.int .i64 (a : Nat), .int .i64 (b : Nat), .int .i64 (d : Nat)]) ∧ Grew w w' := by
  have hg0 := Grew.refl w
  go_enter Tryd.func42, Tryd.ntmps42
  go_wp2_with (first
    | (go_at_call 40; refine (in_c (s := 1) hs HA).mono ?_; rintro e w' ⟨B, cap, rfl, hm⟩; replace hs := hs.grew hm.made_grew; replace hg0 := hg0.trans hm.made_grew; clear hm)
    | (go_at_call 40; refine (in_c (s := 2) hs HB).mono ?_; rintro e w' ⟨B2, cap2, rfl, hm⟩; replace hs := hs.grew hm.made_grew; replace hg0 := hg0.trans hm.made_grew; clear hm)
    | (go_at_call 40; refine (in_c (s := 9) hs HC).mono ?_; rintro e w' ⟨B3, cap3, rfl, hm⟩; replace hs := hs.grew hm.made_grew; replace hg0 := hg0.trans hm.made_grew; clear hm))
  go_ret3
  exact ⟨rfl, hg0⟩
set_option maxHeartbeats 1000000 in
theorem merge_r {w0 w : World} {L : List As} {E n : Nat} {top : Int} {c : List ACell} (hs : St w0 (RaB E n top c :: L) w) {k : Nat} (hk : Hid ((idxS 2 c).length = k)) :
    Calls Tryd.prog 24 #[.pointer (some ⟨E, 0, none⟩)] w fun e w' => ∃ B cap, e = .returned (.slice B k cap) ∧ St w0 (own B k cap 30 2 (hsV (allH c (idxS 2 c))) :: RaB E n top (mergeA c) :: L) w' := by
  have hok := hs.raopen.1
  have hfew : c.length ≤ 65536 := Nat.le_trans hok.fits hok.few
  have hk2 : k ≤ 65536 := by have := idx_len 2 c; rw [hk.out] at this; omega
  go_enter Tryd.func24, Tryd.ntmps24
  go_wp2_with (first
    | (go_at_call 40; refine (in_c (s := 2) hs hk).mono ?_; rintro e w' ⟨D, capD, rfl, hm⟩; replace hs := hs.made hm; clear hm))
  obtain ⟨_, A, capA, B, capB, hs⟩ := hs.rot.raopen
  replace hs : St w0 (blk E (raC n top A c.length capA B capB).toArray 73 :: own A c.length capA 2 1 (gensV c) :: own B c.length capB 3 1 (stsV c) :: own D k capD 30 2 (hsV (allH c (idxS 2 c))) :: L) _ := hs
  go_loopw [4] (fun cv wr => ∃ (i : Nat) (d : List ACell), i ≤ k ∧ cv = .int .i64 (i : Nat) ∧ MgI c i d ∧
    St w0 (blk E (raC n top A c.length capA B capB).toArray 73 :: own A c.length capA 2 1 (gensV c) :: own B c.length capB 3 1 (stsV d) :: own D k capD 30 2 (hsV (allH c (idxS 2 c))) :: L) wr) (fun cv _ => k - (intOf cv).toNat)
  case atStart => exact ⟨0, c, Nat.zero_le _, rfl, mgI_start c, hs⟩
  case round =>
    clear hs
    obtain ⟨i, d, hi, rfl, HI, hs⟩ := hrel
    by_cases hlt : i < k
    · obtain ⟨a, ha⟩ : ∃ a, (idxS 2 c)[i]? = some a := ⟨_, List.getElem?_eq_getElem (by rw [hk.out]; exact hlt)⟩
      have hac := (mem_idxS.1 (List.mem_of_getElem? ha)).1
      obtain ⟨gD, rfl⟩ := hs.up3.own_at (by omega)
      obtain ⟨gB, rfl⟩ := hs.up2.own_at (by omega)
      have HI2 := HI.step ha
      have hh : (allH c (idxS 2 c))[i]? = some ((a : Int), gnA c a) := by unfold allH; rw [List.getElem?_map, ha]; rfl
      have hl0 : a < (stsV d).length := by rw [stsV_len, HI.len]; exact hac
      have HS : Hid ((stsV d).set a (.int .i64 1) = stsV (d.set a (1, gnA d a))) := stsV_set (s := 1)
      have hn2 := hs.up2.own_len
      generalize d.set a (1, gnA d a) = d' at *
      generalize hcl : c.length = m at *
      clear hcl
      have hsN := hs.up3.ent (Ent.cons _ (Ent.refl _))
      have hsN2 := hsN.only2
      go_wp2
      refine wp_region_plain [false, false, false, false, false, false, false, false, false, false, true] hsN2 (by kernel_rfl) (by kernel_rfl) fun hne => ?_
      have g0 := (hsV_at (w0 := w0) (B := gD) (n := k) (cap := capD) (L := [blk E (raC n top A m capA (some ⟨gB, 0, none⟩) capB).toArray 73]) hh 0 (.int .i64 (a : Int)) rfl).alln
      have g1 := ((Rd.blk (w0 := w0) (g := E) (k := 3) (cs := (raC n top A m capA (some ⟨gB, 0, none⟩) capB).toArray) (v := .slice (some ⟨gB, 0, none⟩) m capB) (t := 73) (L := []) (by rfl)).tail (p := own (some ⟨gD, 0, none⟩) k capD 30 2 (hsV (allH c (idxS 2 c))))).alln
      simp only [Nat.add_zero] at g0
      simp only [pickOps]
      repeat (go_big_quiet_step (fail))
      refine wpQuiet_nil ?_
      clear hne g0 g1
      simp only [chainIx]
      refine wpChain_last rfl ?_
      replace hs := hs.drew
      clear hsN hsN2 hh ha
      go_wp2_with (first
        | (refine wpl_store (ad := ⟨gB, a, none⟩) (v := .int .i64 1) rfl rfl rfl size_int3 hs.up2 (Wr.own hl0) ?_; clear hs; intro w3 hs; rw [HS.out] at hs; replace hs := hs.dn2))
      go_roundw
      case rel => first | exact ⟨i + 1, d', by omega, by go_num, HI2, hs⟩ | ((repeat apply Exists.intro); refine ⟨?_, rfl⟩; exact ⟨i + 1, d', by omega, by go_num, HI2, hs⟩)
      case measure => simp [intOf] <;> omega
    · have he := HI.done (by rw [hk.out]; omega)
      subst he
      have hok' := hok.merge
      have hml := mergeA_len c
      have hgm := (gensV_merge c).symm
      rw [hgm] at hs
      have hs3 := (hs.rashut hok' hml).rot
      clear HI hs hgm hml hok'
      go_wp2
      go_ret
      exact ⟨D, capD, rfl, hs3⟩
end Go.Proofs.YtkcbjkadalebjaaDoor
