/-
  AllocSpends.
-/
import Derived.Test.YtkcbjkadalebjaaDoorAlLe
set_option maxRecDepth 100000
namespace Go.Proofs.YtkcbjkadalebjaaDoor
open Go Go.RowKit
attribute [local irreducible] wpList Calls Code.wp

/-- All indexes are as a function says. -/
structure IsA (n : Nat) (f : Nat → ACell) (cs : List ACell) : Prop where
  len : cs.length = n
  st : ∀ i, i < n → stA cs i = (f i).1
  gn : ∀ i, i < n → gnA cs i = (f i).2
theorem IsA.set {n i : Nat} {f : Nat → ACell} {cs : List ACell} (h : IsA n f cs) (hi : i < n) (c : ACell) {f' : Nat → ACell} (hf : ∀ j, j < n → f' j = if j = i then c else f j) : IsA n f' (cs.set i c) := by
  have hl : i < cs.length := by rw [h.len]; exact hi
  refine ⟨by rw [List.length_set]; exact h.len, fun j hj => ?_, fun j hj => ?_⟩
  · rw [stA_set hl, hf j hj, h.st j hj]; split <;> rfl
  · rw [gnA_set hl, hf j hj, h.gn j hj]; split <;> rfl
theorem IsA.ext {n : Nat} {f f' : Nat → ACell} {cs : List ACell} (h : IsA n f cs) (hf : ∀ j, j < n → f' j = f j) : IsA n f' cs :=
  ⟨h.len, fun j hj => by rw [hf j hj]; exact h.st j hj, fun j hj => by rw [hf j hj]; exact h.gn j hj⟩
theorem isA_new (n : Nat) : IsA n (fun _ => (0, 0)) (newA n) := ⟨by simp [newA], fun i hi => stA_new hi, fun i _ => gnA_new n i⟩
theorem IsA.give {n i s : Nat} {f : Nat → ACell} {cs : List ACell} {g : Int} (h : IsA n f cs) (hi : i < n) (hs : (f i).1 = 0) (hm : ∀ j, j < i → (f j).1 ≠ 0) (hg : (f i).2 + 1 = g) : giveV s cs = (((i : Int), g), 0, cs.set i (s, g)) :=
  giveV_at (by rw [h.len]; exact hi) (by rw [h.st i hi]; exact hs) (fun j hj => by rw [h.st j (by omega)]; exact hm j hj) (by rw [h.gn i hi]; exact hg)
theorem IsA.idx_none {n s : Nat} {f : Nat → ACell} {cs : List ACell} (h : IsA n f cs) (hs : ∀ j, j < n → (f j).1 ≠ s) : idxS s cs = [] := by
  refine List.eq_nil_iff_forall_not_mem.2 fun i hi => ?_
  obtain ⟨h1, h2⟩ := mem_idxS.1 hi
  rw [h.len] at h1
  rw [h.st i h1] at h2
  exact hs i h1 h2
theorem IsA.idx_all {n s : Nat} {f : Nat → ACell} {cs : List ACell} (h : IsA n f cs) (hs : ∀ j, j < n → (f j).1 = s) : idxS s cs = List.range n :=
  sorted_ext (sorted_idxS _ _) (sorted_range _) fun i => by
    rw [mem_idxS, List.mem_range, h.len]
    exact ⟨fun h => h.1, fun hi => ⟨hi, by rw [h.st i hi]; exact hs i hi⟩⟩
def fOut (top g : Int) : Nat → ACell := fun _ => (if top < g then 9 else 0, g - 1)
def fIn1 (g : Int) (i : Nat) : Nat → ACell := fun j => if j < i then (1, g) else (0, g - 1)
def fIn2 (top g : Int) (k : Nat) : Nat → ACell := fun j => if j < k then (1, g) else (if top ≤ g then 9 else 0, g)
def hlg (g : Int) (k : Nat) : List Hdl := (List.range k).map fun i : Nat => ((i : Int), g)
theorem hlg_get {g : Int} {k n : Nat} (h : k < n) : (hlg g n)[k]? = some ((k : Int), g) := by simp [hlg, h]
theorem hlg_snoc (g : Int) (k : Nat) : hlg g k ++ [((k : Int), g)] = hlg g (k + 1) := by simp [hlg, List.range_succ]
theorem sp_in1 {n : Nat} {top g : Int} {cs : List ACell} (h : IsA n (fOut top g) cs) (hg : g ≤ top) : IsA n (fIn1 g 0) cs := h.ext fun j _ => by
  unfold fIn1 fOut
  rw [if_neg (show ¬ j < 0 by omega), if_neg (show ¬ top < g by omega)]
theorem sp_create {n i : Nat} {g : Int} {cs : List ACell} (h : IsA n (fIn1 g i) cs) (hi : i < n) : giveV 1 cs = (((i : Int), g), 0, cs.set i (1, g)) ∧ IsA n (fIn1 g (i + 1)) (cs.set i (1, g)) := by
  refine ⟨h.give hi (by simp [fIn1]) (fun j hj => by simp [fIn1, hj]) (by simp [fIn1]), h.set hi _ fun j hj => ?_⟩
  unfold fIn1
  by_cases e : j = i
  · subst e; simp
  · rw [if_neg e]
    by_cases e2 : j < i
    · rw [if_pos e2, if_pos (by omega)]
    · rw [if_neg e2, if_neg (by omega)]
theorem sp_full {n : Nat} {g : Int} {cs : List ACell} (h : IsA n (fIn1 g n) cs) (hn : 0 < n) : giveV 2 cs = ((0, 0), 6, cs) := by
  have h0 := h.idx_none (s := 0) fun j hj => by simp [fIn1, hj]
  have h1 := h.idx_all (s := 1) fun j hj => by simp [fIn1, hj]
  rw [giveV_none h0, h1, List.length_range, if_pos (by omega)]
theorem sp_in2 {n : Nat} {top g : Int} {cs : List ACell} (h : IsA n (fIn1 g n) cs) : IsA n (fIn2 top g n) cs := h.ext fun j hj => by
  unfold fIn1 fIn2
  rw [if_pos hj, if_pos hj]
theorem sp_delete {n k : Nat} {top g : Int} {cs : List ACell} (h : IsA n (fIn2 top g (k + 1)) cs) (hk : k < n) : delA top cs ((k : Int), g) = (0, cs.set k (if top ≤ g then 9 else 0, g)) ∧ IsA n (fIn2 top g k) (cs.set k (if top ≤ g then 9 else 0, g)) := by
  refine ⟨delA_live (by rw [h.len]; exact hk) (by rw [h.st k hk]; simp [fIn2]) (by rw [h.gn k hk]; simp [fIn2]), h.set hk _ fun j hj => ?_⟩
  unfold fIn2
  by_cases e : j = k
  · subst e; simp
  · rw [if_neg e]
    by_cases e2 : j < k
    · rw [if_pos e2, if_pos (by omega)]
    · rw [if_neg e2, if_neg (show ¬ j < k + 1 by omega)]
theorem sp_next {n : Nat} {top g : Int} {cs : List ACell} (h : IsA n (fIn2 top g 0) cs) : IsA n (fOut top (g + 1)) cs := h.ext fun j _ => by
  unfold fIn2 fOut
  rw [if_neg (show ¬ j < 0 by omega), show g + 1 - 1 = g by omega]
  by_cases e : top ≤ g
  · rw [if_pos e, if_pos (by omega)]
  · rw [if_neg e, if_neg (by omega)]
theorem sp_spent {n s : Nat} {top g : Int} {cs : List ACell} (h : IsA n (fOut top g) cs) (hg : top < g) : giveV s cs = ((0, 0), 7, cs) ∧ (idxS 1 cs).length = 0 ∧ (idxS 2 cs).length = 0 ∧ retA cs = n := by
  have h0 := h.idx_none (s := 0) fun j hj => by simp [fOut, hg]
  have h1 := h.idx_none (s := 1) fun j hj => by simp [fOut, hg]
  have h2 := h.idx_none (s := 2) fun j hj => by simp [fOut, hg]
  have h9 := h.idx_all (s := 9) fun j hj => by simp [fOut, hg]
  refine ⟨by rw [giveV_none h0, h1, h2]; rfl, by rw [h1]; rfl, by rw [h2]; rfl, by unfold retA; rw [h9, List.length_range]⟩
theorem sp_start {n : Nat} {top : Int} (h : 1 ≤ top) : IsA n (fOut top 1) (newA n) := (isA_new n).ext fun j _ => by
  unfold fOut
  rw [if_neg (by omega)]
  rfl
attribute [local irreducible] idxS addS okN memS remS errN insS delS nextS stA gnA stV atA hsV mergeA giveV delA newA hlg fOut fIn1 fIn2
set_option maxHeartbeats 1000000 in
theorem aspends_c {w0 : World} (hT : Tab w0) (z1 z2 : Int) : Calls Tryd.prog 5 #[.int .i64 z1, .int .i64 z2] w0 (LawPost w0) := by
  have hs := St.start w0
  obtain ⟨n, hn, hn1, hn2⟩ : ∃ n : Nat, ((z1 % 256).toNat : Int) % 12 + 1 = (n : Int) ∧ 1 ≤ n ∧ n ≤ 12 := ⟨(((z1 % 256).toNat : Int) % 12 + 1).toNat, by omega, by omega, by omega⟩
  obtain ⟨t, ht, ht1, ht2⟩ : ∃ t : Nat, ((z2 % 256).toNat : Int) % 6 + 1 = (t : Int) ∧ 1 ≤ t ∧ t ≤ 6 := ⟨(((z2 % 256).toNat : Int) % 6 + 1).toNat, by omega, by omega, by omega⟩
  have hand1 := and_ff z1
  have hand2 := and_ff z2
  have hr1 : (z1 % 256).toNat < 256 := by omega
  have hr2 : (z2 % 256).toNat < 256 := by omega
  generalize (z1 % 256).toNat = r1 at *
  generalize (z2 % 256).toNat = r2 at *
  go_enter Tryd.func5, Tryd.ntmps5
  go_wp2_with (first
    | (go_at_call 8; refine (anew_c hs (n := n) (top := (t : Int)) (by omega) (by omega) (by omega) (by omega)).mono ?_; clear hs; rintro e w' ⟨D, rfl, hs⟩))
  have HI : IsA n (fOut (t : Int) 1) (newA n) := sp_start (by omega)
  go_loopw [7] (fun gv wr => ∃ (g : Nat) (cs : List ACell), 1 ≤ g ∧ g ≤ t + 1 ∧ gv = .int .i64 (g : Nat) ∧ IsA n (fOut (t : Int) (g : Int)) cs ∧ St w0 [AlB D (t : Int) cs] wr) (fun gv _ => t + 1 - (intOf gv).toNat)
  case atStart => exact ⟨1, newA n, by omega, by omega, rfl, HI, hs⟩
  case round =>
    clear hs HI hand1 hand2
    obtain ⟨g, cs, hg1, hg2, rfl, HI, hs⟩ := hrel
    by_cases hlt : g ≤ t
    · have HI1 := sp_in1 HI (by omega)
      clear HI
      go_wp2
      replace hs := (hs.own_nil 30 2).rot
      rw [show ([] : List Value) = hsV (hlg (g : Int) 0) by unfold hsV hlg; rfl] at hs
      go_loopw [8, 9] (fun ov cv wr => ∃ (i : Nat) (B : Option Addr) (cap : Nat) (cs : List ACell), i ≤ n ∧ ov = .slice B i cap ∧ cv = .int .i64 (i : Nat) ∧ IsA n (fIn1 (g : Int) i) cs ∧ St w0 [AlB D (t : Int) cs, own B i cap 30 2 (hsV (hlg (g : Int) i))] wr) (fun _ cv _ => n - (intOf cv).toNat)
      case atStart => exact ⟨0, none, 0, cs, Nat.zero_le _, rfl, rfl, HI1, hs⟩
      case round =>
        clear hs HI1
        obtain ⟨i, B, cap, cs, hi, rfl, rfl, HI, hs⟩ := hrel
        by_cases hil : i < n
        · obtain ⟨hgv, HI2⟩ := sp_create HI hil
          have HG := Lib.hid hgv
          have HX : Hid (hsV (hlg (g : Int) i) ++ h2 ((i : Int), (g : Int)) = hsV (hlg (g : Int) (i + 1))) := by rw [Hid, hsV_append, hlg_snoc]
          clear hgv HI
          go_upto_region 13 with (first
            | (go_at_call 9; refine (create_c hT hs HG).mono ?_; clear hs; rintro e w' ⟨rfl, hs⟩)
            | (refine wpl_alloc zeroH hs ?_; clear hs; intro g7 w3 hs; replace hs : St w0 (blk g7 (h2 (0, 0)).toArray 30 :: _) w3 := hs)
            | (refine wpl_store_agg (ad := ⟨g7, 0, none⟩) (v := hv ((i : Int), (g : Int))) rfl rfl (sizeH _) hs WrA.slotH ?_; clear hs; intro w4 hs))
          obtain ⟨f0, f1⟩ := hRd hs
          go_wp2_with (first
            | (refine wpl_load_agg (cs := h2 ((i : Int), (g : Int))) (b := g7) (o := 0) rfl aggH (sizeH _) hs ?hh ?_; case hh => exact fun j x hx => Rd.blk (by simpa using hx))
            | (refine wpl_build1 (v := hv ((i : Int), (g : Int))) elemH (by decide) rfl rfl hs ?_; clear hs f0 f1; intro gb w2 hs; replace hs : St w0 (blk gb (h2 ((i : Int), (g : Int))).toArray 30 :: _) w2 := hs)
            | (refine wpl_append (B := some ⟨gb, 0, none⟩) (m := 1) (news := h2 ((i : Int), (g : Int))) elemH rfl rfl hs (Ent.skip (Ent.skip (Ent.skip (Ent.refl _)))) RdS.blk rfl (h2_one _) (by unfold maxLen; omega) (by omega) ?_; clear hs; intro B' cap' w3 hs; rw [HX.out] at hs; replace hs := hs.rot.drop.rot.drop.rot))
          go_roundw
          case rel => first | exact ⟨i + 1, B', cap', _, by omega, rfl, by go_num, HI2, hs⟩ | ((repeat apply Exists.intro); refine ⟨?_, rfl⟩; exact ⟨i + 1, B', cap', _, by omega, rfl, by go_num, HI2, hs⟩)
          case measure => simp [intOf] <;> omega
        · obtain rfl : i = n := by omega
          have HG := Lib.hid (sp_full HI (by omega))
          have HI2 := sp_in2 (top := (t : Int)) HI
          obtain ⟨gB, rfl⟩ := hs.rot.own_at (by omega)
          clear HI hi
          go_upto_region 20 with (first
            | (go_at_call 15; refine (raise_c hT hs HG).mono ?_; clear hs; rintro e w' ⟨rfl, hs⟩)
            | (refine wpl_alloc zeroH hs ?_; clear hs; intro g7 w3 hs; replace hs : St w0 (blk g7 (h2 (0, 0)).toArray 30 :: _) w3 := hs)
            | (refine wpl_store_agg (ad := ⟨g7, 0, none⟩) (v := hv (0, 0)) rfl rfl (sizeH _) hs WrA.slotH ?_; clear hs; intro w4 hs; replace hs := hs.drop))
          clear HG hn
          go_loopw [14] (fun cv wr => ∃ (k : Nat) (c : Int) (cs : List ACell), k ≤ i ∧ cv = .int .i64 c ∧ c + 1 = (k : Int) ∧ IsA i (fIn2 (t : Int) (g : Int) k) cs ∧ St w0 [AlB D (t : Int) cs, own (some ⟨gB, 0, none⟩) i cap 30 2 (hsV (hlg (g : Int) i))] wr) (fun cv _ => (intOf cv + 1).toNat)
          case atStart => exact ⟨i, (i : Int) - 1, cs, Nat.le_refl _, rfl, by omega, HI2, hs⟩
          case round =>
            clear hs HI2
            obtain ⟨k, c, cs, hk, rfl, hc, HI, hs⟩ := hrel
            cases k with
            | succ k =>
              obtain rfl : c = (k : Int) := by omega
              obtain ⟨hd, HI2⟩ := sp_delete HI (by omega)
              have HDel := Lib.hid hd
              have hld : ∀ X, ∀ j x, (h2 ((k : Int), (g : Int)))[j]? = some x → Rd w0 [X, own (some ⟨gB, 0, none⟩) i cap 30 2 (hsV (hlg (g : Int) i))] ⟨gB, k * 2 + j, none⟩ x := fun X j x hx => (hsV_at (hlg_get (by omega)) j x hx).tail
              clear hd HI hc
              go_wp2_with (first
                | (refine wpl_load_agg (cs := h2 ((k : Int), (g : Int))) (b := gB) (o := k * 2) rfl aggH (sizeH _) hs ?hh ?_; case hh => exact hld _)
                | (go_at_call 10; refine (delete_c hs HDel).mono ?_; clear hs; rintro e w' ⟨rfl, hs⟩))
              go_roundw
              case rel => first | exact ⟨k, _, _, by omega, rfl, by omega, HI2, hs⟩ | ((repeat apply Exists.intro); refine ⟨?_, rfl⟩; exact ⟨k, _, _, by omega, rfl, by omega, HI2, hs⟩)
              case measure => simp [intOf] <;> omega
            | zero =>
              obtain rfl : c = -1 := by omega
              have HI2 := sp_next HI
              clear HI
              go_wp2
              go_roundw
              case rel => first | exact ⟨g + 1, cs, by omega, by omega, by go_num, HI2, hs.rot.drop⟩ | ((repeat apply Exists.intro); refine ⟨?_, rfl⟩; exact ⟨g + 1, cs, by omega, by omega, by go_num, HI2, hs.rot.drop⟩)
              case measure => simp [intOf] <;> omega
    · obtain rfl : g = t + 1 := by omega
      obtain ⟨hg1, hl1, hl2, hl9⟩ := sp_spent (s := 1) HI (by omega)
      obtain ⟨hg2, _⟩ := sp_spent (s := 2) HI (by omega)
      have HG1 := Lib.hid hg1
      have HG2 := Lib.hid hg2
      have HL1 := Lib.hid hl1
      have HL2 := Lib.hid hl2
      have HL9 := Lib.hid hl9
      clear hg1 hg2 hl1 hl2 hl9 HI
      go_wp2_with (first
        | (go_at_call 9; refine (create_c hT hs HG1).mono ?_; clear hs; rintro e w' ⟨rfl, hs⟩)
        | (go_at_call 15; refine (raise_c hT hs HG2).mono ?_; clear hs; rintro e w' ⟨rfl, hs⟩)
        | (refine wpl_alloc zeroH hs ?_; clear hs; intro g7 w3 hs; replace hs : St w0 (blk g7 (h2 (0, 0)).toArray 30 :: _) w3 := hs)
        | (refine wpl_store_agg (ad := ⟨g7, 0, none⟩) (v := hv (0, 0)) rfl rfl (sizeH _) hs WrA.slotH ?_; clear hs; intro w4 hs; replace hs := hs.drop)
        | (go_at_call 16; refine (counts_c hs HL1 HL2 HL9).mono ?_; rintro e w' ⟨rfl, hg⟩; replace hs := hs.grew hg; clear hg)
        | (go_at_call 12; refine (awake5 (hT.grew hs.below)).mono ?_; rintro e w' ⟨rfl, hg⟩; replace hs := hs.grew hg; clear hg))
      go_ret
      exact ⟨rfl, hs.drop⟩
end Go.Proofs.YtkcbjkadalebjaaDoor
