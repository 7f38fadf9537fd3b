/-
  Handles (alloc.Alloc), 5: Merge, New.
-/
import Derived.Test.YtkcbjkadalebjaaDoorAl4
set_option maxRecDepth 100000
namespace Go.Proofs.YtkcbjkadalebjaaDoor
open Go Go.RowKit
attribute [local irreducible] wpList Calls Code.wp

/-! ### Merge -/
def mergeA (cs : List ACell) : List ACell := cs.map fun c => if c.1 = 2 then (1, c.2) else c
theorem mergeA_len (cs : List ACell) : (mergeA cs).length = cs.length := by simp [mergeA]
theorem stA_merge (cs : List ACell) (i : Nat) : stA (mergeA cs) i = if stA cs i = 2 then 1 else stA cs i := by
  unfold stA mergeA
  rw [List.getD_eq_getElem?_getD, List.getD_eq_getElem?_getD, List.getElem?_map]
  cases cs[i]? with
  | none => rfl
  | some c => simp only [Option.map_some, Option.getD_some]; split <;> rfl
theorem gnA_merge (cs : List ACell) (i : Nat) : gnA (mergeA cs) i = gnA cs i := by
  unfold gnA mergeA
  rw [List.getD_eq_getElem?_getD, List.getD_eq_getElem?_getD, List.getElem?_map]
  cases cs[i]? with
  | none => rfl
  | some c => simp only [Option.map_some, Option.getD_some]; split <;> rfl
theorem gensV_merge (cs : List ACell) : gensV (mergeA cs) = gensV cs := by
  unfold gensV mergeA
  rw [List.map_map]
  refine List.map_congr_left fun c _ => ?_
  simp only [Function.comp]
  split <;> rfl
theorem idx_merge_else {s : Nat} (cs : List ACell) (h1 : s ≠ 1) (h2 : s ≠ 2) : idxS s (mergeA cs) = idxS s cs :=
  sorted_ext (sorted_idxS _ _) (sorted_idxS _ _) fun i => by
    rw [mem_idxS, mem_idxS, mergeA_len, stA_merge]
    split
    · rename_i h; rw [h]; exact ⟨fun h => absurd h.2.symm h1, fun h => absurd h.2.symm h2⟩
    · exact Iff.rfl
theorem idx_merge2 (cs : List ACell) : idxS 2 (mergeA cs) = [] := by
  refine List.eq_nil_iff_forall_not_mem.2 fun i hi => ?_
  have h := (mem_idxS.1 hi).2
  rw [stA_merge] at h
  split at h
  · cases h
  · exact absurd h (by assumption)
theorem AlOk.merge {top : Int} {cs : List ACell} (h : AlOk top cs) : AlOk top (mergeA cs) where
  top1 := h.top1
  top2 := h.top2
  pos := by rw [mergeA_len]; exact h.pos
  few := by rw [mergeA_len]; exact h.few
  gen0 i hi := by rw [gnA_merge]; exact h.gen0 i (by rwa [mergeA_len] at hi)
  free i hi h0 := by
    rw [mergeA_len] at hi
    rw [gnA_merge]
    rw [stA_merge] at h0
    split at h0
    · cases h0
    · exact h.free i hi h0
/-- How far a merge has come. -/
def MrgI (cs : List ACell) (k : Nat) (S : List Nat) : Prop := S.Pairwise (· < ·) ∧ ∀ x, x ∈ S ↔ x ∈ idxS 1 cs ∨ x ∈ (idxS 2 cs).take k
theorem mrg_start (cs : List ACell) : MrgI cs 0 (idxS 1 cs) := ⟨sorted_idxS _ _, fun x => by simp⟩
theorem mrg_step {cs : List ACell} {k a : Nat} {S : List Nat} (h : MrgI cs k S) (ha : (idxS 2 cs)[k]? = some a) : MrgI cs (k + 1) (insS a S) := by
  obtain ⟨hl, he⟩ := List.getElem?_eq_some_iff.1 ha
  refine ⟨sorted_insS h.1, fun x => ?_⟩
  rw [mem_insS, h.2, List.take_succ_eq_append_getElem hl, he, List.mem_append, List.mem_singleton]
  constructor
  · rintro (h1 | h1 | h1)
    · exact .inr (.inr h1)
    · exact .inl h1
    · exact .inr (.inl h1)
  · rintro (h1 | h1 | h1)
    · exact .inr (.inl h1)
    · exact .inr (.inr h1)
    · exact .inl h1
theorem mrg_done {cs : List ACell} {k : Nat} {S : List Nat} (h : MrgI cs k S) (hk : (idxS 2 cs).length ≤ k) : S = idxS 1 (mergeA cs) :=
  sorted_ext h.1 (sorted_idxS _ _) fun x => by
    rw [h.2, List.take_of_length_le hk, mem_idxS, mem_idxS, mem_idxS, mergeA_len, stA_merge]
    constructor
    · rintro (⟨h1, h2⟩ | ⟨h1, h2⟩)
      · exact ⟨h1, by rw [h2]; rfl⟩
      · exact ⟨h1, by rw [h2]; rfl⟩
    · rintro ⟨h1, h2⟩
      split at h2
      · exact .inr ⟨h1, by assumption⟩
      · exact .inl ⟨h1, h2⟩
theorem hsV_at {w0 : World} {B : Nat} {n cap k : Nat} {l : List Hdl} {h : Hdl} {L : List As} (hk : l[k]? = some h) :
    ∀ j u, (h2 h)[j]? = some u → Rd w0 (YtkcbjkadalebjaaDoor.own (some ⟨B, 0, none⟩) n cap 30 2 (hsV l) :: L) ⟨B, k * 2 + j, none⟩ u := fun j u hu => Rd.own (hsV_get hk j u hu)
attribute [local irreducible] idxS addS okN memS remS errN insS delS nextS stA gnA stV atA hsV MrgI mergeA
set_option maxHeartbeats 1000000 in
theorem merge_c {w0 w : World} {L : List As} {D : Nat} {top : Int} {cs : List ACell} (hT : Tab w0) (hs : St w0 (AlB D top cs :: L) w) {n : Nat} (hn : Hid ((idxS 2 cs).length = n)) :
    Calls Tryd.prog 17 #[.pointer (some ⟨D, 0, none⟩)] w fun e w' => ∃ B cap, e = .returned (.slice B n cap) ∧ St w0 (own B n cap 30 2 (hsV (allH cs (idxS 2 cs))) :: AlB D top (mergeA cs) :: L) w' := by
  have hsA := hs
  obtain ⟨hok, TF, TL, TR, G, cap, hs⟩ := hs.alopen
  obtain ⟨_, _, d2, _, _, _⟩ := alRd hs
  have hn2 : n ≤ 65536 := by have := idx_len 2 cs; have := hok.few; have := hn.out; omega
  go_enter Tryd.func17, Tryd.ntmps17
  go_wp2_with (first
    | (go_at_call 36; refine (allA_c (sorted_idxS 2 cs) (fun a ha => (mem_idxS.1 ha).1) (hT.grew hs.below) hs.up3 hsA hn).mono ?_; clear d2; rintro e w' ⟨B, capB, rfl, hm⟩; replace hs := hs.made hm; clear hm hsA))
  replace hs := hs.dn5
  go_loopw [15] (fun cv wr => ∃ (k : Nat) (S : List Nat), k ≤ n ∧ cv = .int .i64 (k : Nat) ∧ MrgI cs k S ∧
    St w0 (blk D (alC TF TL TR top G cs.length cap (retA cs)).toArray 63 :: HSet TF (idxS 0 cs) :: HSet TL S :: HSet TR (idxS 2 cs) :: own (some ⟨G, 0, none⟩) cs.length cap 2 1 (gensV cs) :: own B n capB 30 2 (hsV (allH cs (idxS 2 cs))) :: L) wr) (fun cv _ => n - (intOf cv).toNat)
  case atStart => exact ⟨0, idxS 1 cs, Nat.zero_le _, rfl, mrg_start cs, hs⟩
  case round =>
    clear hs
    obtain ⟨k, S, hk, rfl, HM, hs⟩ := hrel
    by_cases hlt : k < n
    · obtain ⟨gB, rfl⟩ := hs.up5.own_at (by omega)
      obtain ⟨a, ha⟩ : ∃ a, (idxS 2 cs)[k]? = some a := ⟨_, List.getElem?_eq_getElem (by rw [hn.out]; exact hlt)⟩
      have hac := (mem_idxS.1 (List.mem_of_getElem? ha)).1
      have ha2 : a < 16777216 := by have := hok.few; omega
      obtain ⟨S', HS'⟩ : ∃ S', Hid (addS S (a : Int) = S') := ⟨_, rfl⟩
      obtain ⟨b0, HD⟩ : ∃ b, Hid ((okN (a : Int) && !memS S (a : Int)) = b) := ⟨_, rfl⟩
      have HE : Hid (errN (a : Int) = 0) := errN_le ha2
      have HM2 := mrg_step HM ha
      rw [← addS_le ha2, HS'.out] at HM2
      obtain ⟨h, HH⟩ : ∃ h, Hid (handA cs a = h) := ⟨_, rfl⟩
      have hh : (allH cs (idxS 2 cs))[k]? = some h := by
        unfold allH
        rw [List.getElem?_map, ha, ← HH.out]
        rfl
      have hh1 : h.1 = (a : Int) := by rw [← HH.out]; rfl
      obtain ⟨i, g⟩ := h
      simp only at hh1
      subst hh1
      have hld : ∀ j u, (h2 ((a : Int), g))[j]? = some u → Rd w0 (own (some ⟨gB, 0, none⟩) n capB 30 2 (hsV (allH cs (idxS 2 cs))) :: blk D (alC TF TL TR top G cs.length cap (retA cs)).toArray 63 :: HSet TF (idxS 0 cs) :: HSet TL S :: HSet TR (idxS 2 cs) :: own (some ⟨G, 0, none⟩) cs.length cap 2 1 (gensV cs) :: L) ⟨gB, k * 2 + j, none⟩ u := hsV_at hh
      clear ha HM hh HH hac
      have hs5 := hs.up5
      go_upto_region 5 with (first
        | (refine wpl_load_agg (cs := h2 ((a : Int), g)) (b := gB) (o := k * 2) rfl aggH (sizeH _) hs5 hld ?_; clear hs5 hld)
        | (refine wpl_alloc zeroH hs ?_; clear hs; intro g5 w hs; replace hs : St w0 (blk g5 (h2 (0, 0)).toArray 30 :: _) w := hs)
        | (refine wpl_store_agg (v := hv ((a : Int), g)) rfl rfl (sizeH _) hs WrA.slotH ?_; clear hs; intro w3 hs))
      simp only [Act.put, List.setIfInBounds_toArray, List.set_cons_succ, List.set_cons_zero]
      have hsN := hs.only2
      refine wp_region_plain [false, false, false, false, false, false, false, true] hsN (by kernel_rfl) (by kernel_rfl) fun hne => ?_
      have g0 := (Rd.blk (w0 := w0) (g := g5) (k := 0) (cs := (h2 ((a : Int), g)).toArray) (v := .int .i64 (a : Int)) (t := 30) (L := [blk D (alC TF TL TR top G cs.length cap (retA cs)).toArray 63]) (by rfl)).alln
      have g1 := ((Rd.blk (w0 := w0) (g := D) (k := 1) (cs := (alC TF TL TR top G cs.length cap (retA cs)).toArray) (v := .pointer (some ⟨TL, 0, none⟩)) (t := 63) (L := []) (by rfl)).tail (p := blk g5 (h2 ((a : Int), g)).toArray 30)).alln
      simp only [pickOps]
      repeat (go_big_quiet_step (fail))
      refine wpQuiet_nil ?_
      clear hne g0 g1
      simp only [chainIx]
      refine wpChain_last rfl ?_
      replace hs := hs.drew.drop
      clear hsN
      go_wp2_with (first
        | (go_at_call 30; refine (add_v hs.up2 HD HE HS').mono ?_; clear hs; rintro e w' ⟨rfl, hs⟩; replace hs := hs.dn2))
      go_roundw
      case rel => exact ⟨k + 1, S', by omega, by go_num, HM2, hs⟩
      case measure => simp [intOf] <;> omega
    · have he := mrg_done HM (by rw [hn.out]; omega)
      subst he
      clear HM
      have HG : Hid (gensV cs = gensV (mergeA cs)) := (gensV_merge cs).symm
      have HF : Hid (idxS 0 cs = idxS 0 (mergeA cs)) := (idx_merge_else cs (by decide) (by decide)).symm
      have HR : Hid (([] : List Nat) = idxS 2 (mergeA cs)) := (idx_merge2 cs).symm
      have HRt : Hid (retA cs = retA (mergeA cs)) := by rw [Hid]; unfold retA; rw [idx_merge_else cs (by decide) (by decide)]
      have HLn : Hid ((mergeA cs).length = cs.length) := mergeA_len cs
      have hok' := hok.merge
      obtain ⟨_, _, d2, _, _, _⟩ := alRd hs
      go_wp2_with (first
        | (go_at_call 37; refine (clear_h hs.up3).mono ?_; clear hs d2; rintro e w' ⟨rfl, hs⟩; replace hs := hs.dn3))
      go_ret
      rw [HRt.out, HF.out, ← HLn.out, HR.out, HG.out] at hs
      exact ⟨B, capB, rfl, (hs.alshut hok').rot⟩
end Go.Proofs.YtkcbjkadalebjaaDoor
