/-
  XJW: joined of XHv XAlLaw XAl XAl2 XAl3 XAl4 XAl5 XAl6.
-/
import Derived.Test.YtcnbmfaicbkhcaaGreatDoorJK
import Derived.Test.YtcnbmfaicbkhcaaGreatDoorJA
import Derived.Test.YtcnbmfaicbkhcaaGreatDoorJQ
import Derived.Test.YtcnbmfaicbkhcaaGreatDoorJG
import Derived.Deep.DeepCutAuto
import Derived.Deep.CutBlock
/-
  Sets: contracts with hidden values (beside texts that have a LawPost of their own).
-/
set_option maxRecDepth 100000
namespace Go.Proofs.YtcnbmfaicbkhcaaGreatDoor
open Go Go.RowKit
attribute [local irreducible] wpList Calls Code.wp

theorem hlen_v {w0 w : World} {L : List As} {T : Nat} {S : List Nat} (hs : St w0 (HSet T S :: L) w) {n : Nat} (h : Hid (S.length = n)) :
    Calls Tryz.prog 245 #[.pointer (some ⟨T, 0, none⟩)] w fun e w' => e = .returned (.int .i64 (n : Nat)) ∧ w = w' := by
  rw [← h.out]; exact hlen_h hs
theorem add_v {w0 w : World} {L : List As} {T : Nat} {S : List Nat} (hs : St w0 (HSet T S :: L) w) {i : Int} {b : Bool} {x : Int} {S' : List Nat} (hb : Hid ((okN i && !memS S i) = b)) (hx : Hid (errN i = x)) (h : Hid (addS S i = S')) :
    Calls Tryz.prog 243 #[.pointer (some ⟨T, 0, none⟩), .int .i64 i] w fun e w' => e = .returned (.tuple #[.bool b, .int .i64 x]) ∧ St w0 (HSet T S' :: L) w' := by
  rw [← hb.out, ← hx.out, ← h.out]; exact add_h hs i
theorem remove_v {w0 w : World} {L : List As} {T : Nat} {S : List Nat} (hs : St w0 (HSet T S :: L) w) {i : Int} {b : Bool} {x : Int} {S' : List Nat} (hb : Hid (memS S i = b)) (hx : Hid (errN i = x)) (h : Hid (remS S i = S')) :
    Calls Tryz.prog 246 #[.pointer (some ⟨T, 0, none⟩), .int .i64 i] w fun e w' => e = .returned (.tuple #[.bool b, .int .i64 x]) ∧ St w0 (HSet T S' :: L) w' := by
  rw [← hb.out, ← hx.out, ← h.out]; exact remove_h hs i
theorem new_v {w0 w : World} {L : List As} {A : Option Addr} {zs : List Int} {c n : Nat} {S : List Nat} (hs : St w0 L w) (hr : RdS w0 L A (zs.map (Value.int .i64))) (hl : zs.length ≤ maxLen) (hn : zs.length = n) (h : Hid (setS zs = S)) :
    Calls Tryz.prog 242 #[.slice A n c] w fun e w' => ∃ T, e = .returned (.pointer (some ⟨T, 0, none⟩)) ∧ St w0 (HSet T S :: L) w' := by
  subst hn; rw [← h.out]; exact new_h hs hr hl
theorem fromS_zero (S : List Nat) : fromS S 0 = S := List.filter_eq_self.2 fun a _ => by simp
end Go.Proofs.YtcnbmfaicbkhcaaGreatDoor

/-
  Handles, plain law: what stands of each index; the sets of indexes; no program stands here.
-/
set_option maxRecDepth 100000
namespace Go.Proofs.YtcnbmfaicbkhcaaGreatDoor
open Go Go.RowKit

/-- An index: its state (0 free, 1 live, 2 raised, 9 retired), its generation. -/
abbrev ACell := Nat × Int
def stA (cs : List ACell) (i : Nat) : Nat := (cs.getD i (9, 0)).1
def gnA (cs : List ACell) (i : Nat) : Int := (cs.getD i (9, 0)).2
def idxS (s : Nat) (cs : List ACell) : List Nat := (List.range cs.length).filter fun i => stA cs i == s
theorem mem_idxS {s i : Nat} {cs : List ACell} : i ∈ idxS s cs ↔ i < cs.length ∧ stA cs i = s := by simp [idxS]
theorem sorted_range (n : Nat) : (List.range n).Pairwise (· < ·) := List.pairwise_lt_range
theorem sorted_idxS (s : Nat) (cs : List ACell) : (idxS s cs).Pairwise (· < ·) := List.Pairwise.filter _ (sorted_range _)
theorem stA_set {cs : List ACell} {i j : Nat} {c : ACell} (h : i < cs.length) : stA (cs.set i c) j = if j = i then c.1 else stA cs j := by
  unfold stA
  rw [List.getD_eq_getElem?_getD, List.getD_eq_getElem?_getD, List.getElem?_set]
  by_cases e : i = j
  · subst e; simp [h]
  · rw [if_neg e, if_neg (fun h => e h.symm)]
theorem gnA_set {cs : List ACell} {i j : Nat} {c : ACell} (h : i < cs.length) : gnA (cs.set i c) j = if j = i then c.2 else gnA cs j := by
  unfold gnA
  rw [List.getD_eq_getElem?_getD, List.getD_eq_getElem?_getD, List.getElem?_set]
  by_cases e : i = j
  · subst e; simp [h]
  · rw [if_neg e, if_neg (fun h => e h.symm)]
theorem idxS_in {s i : Nat} {cs : List ACell} {g : Int} (h : i < cs.length) : idxS s (cs.set i (s, g)) = insS i (idxS s cs) :=
  sorted_ext (sorted_idxS _ _) (sorted_insS (sorted_idxS _ _)) fun j => by
    rw [mem_idxS, mem_insS, mem_idxS, List.length_set, stA_set h]
    constructor
    · rintro ⟨h1, h2⟩
      by_cases e : j = i
      · exact .inl e
      · rw [if_neg e] at h2; exact .inr ⟨h1, h2⟩
    · rintro (rfl | ⟨h1, h2⟩)
      · exact ⟨h, by rw [if_pos rfl]⟩
      · refine ⟨h1, ?_⟩
        split
        · rfl
        · exact h2
theorem idxS_out {s s' i : Nat} {cs : List ACell} {g : Int} (h : i < cs.length) (hs : s' ≠ s) : idxS s (cs.set i (s', g)) = delS i (idxS s cs) :=
  sorted_ext (sorted_idxS _ _) (sorted_delS (sorted_idxS _ _)) fun j => by
    rw [mem_idxS, mem_delS, mem_idxS, List.length_set, stA_set h]
    constructor
    · rintro ⟨h1, h2⟩
      by_cases e : j = i
      · rw [if_pos e] at h2; exact absurd h2 hs
      · rw [if_neg e] at h2; exact ⟨⟨h1, h2⟩, e⟩
    · rintro ⟨⟨h1, h2⟩, h3⟩
      exact ⟨h1, by rw [if_neg h3]; exact h2⟩
theorem idxS_off {s s' i : Nat} {cs : List ACell} {g : Int} (h : i < cs.length) (hs : s' ≠ s) (ho : stA cs i ≠ s) : idxS s (cs.set i (s', g)) = idxS s cs := by
  rw [idxS_out h hs]
  exact del_id fun hm => ho (mem_idxS.1 hm).2
/-- What is true of an Alloc's indexes. -/
structure AlOk (top : Int) (cs : List ACell) : Prop where
  top1 : 1 ≤ top
  top2 : top ≤ 4294967295
  pos : 0 < cs.length
  few : cs.length ≤ 65536
  gen0 : ∀ i, i < cs.length → 0 ≤ gnA cs i ∧ gnA cs i ≤ top
  free : ∀ i, i < cs.length → stA cs i = 0 → gnA cs i < top
theorem AlOk.set {top : Int} {cs : List ACell} (h : AlOk top cs) {i s : Nat} {g : Int} (hi : i < cs.length) (h1 : 0 ≤ g) (h2 : g ≤ top) (h3 : s = 0 → g < top) : AlOk top (cs.set i (s, g)) where
  top1 := h.top1
  top2 := h.top2
  pos := by rw [List.length_set]; exact h.pos
  few := by rw [List.length_set]; exact h.few
  gen0 j hj := by
    rw [gnA_set hi]
    split
    · exact ⟨h1, h2⟩
    · exact h.gen0 j (by simpa using hj)
  free j hj := by
    rw [gnA_set hi, stA_set hi]
    split
    · exact h3
    · exact h.free j (by simpa using hj)
def newA (n : Nat) : List ACell := List.replicate n (0, 0)
theorem stA_new {n i : Nat} (h : i < n) : stA (newA n) i = 0 := by simp [stA, newA, h]
theorem gnA_new (n i : Nat) : gnA (newA n) i = 0 := by
  unfold gnA newA
  rw [List.getD_eq_getElem?_getD, List.getElem?_replicate]
  split <;> rfl
theorem alOk_new {top : Int} {n : Nat} (h1 : 1 ≤ top) (h2 : top ≤ 4294967295) (h3 : 0 < n) (h4 : n ≤ 65536) : AlOk top (newA n) where
  top1 := h1
  top2 := h2
  pos := by simpa [newA] using h3
  few := by simpa [newA] using h4
  gen0 i _ := by rw [gnA_new]; omega
  free i _ _ := by rw [gnA_new]; omega
theorem idx_new0 (n : Nat) : idxS 0 (newA n) = List.range n :=
  sorted_ext (sorted_idxS _ _) (sorted_range _) fun i => by
    rw [mem_idxS, List.mem_range]
    exact ⟨fun h => by simpa [newA] using h.1, fun h => ⟨by simpa [newA] using h, stA_new h⟩⟩
theorem idx_new {s : Nat} (n : Nat) (hs : s ≠ 0) : idxS s (newA n) = [] := by
  refine List.eq_nil_iff_forall_not_mem.2 fun i hi => ?_
  obtain ⟨h1, h2⟩ := mem_idxS.1 hi
  rw [stA_new (by simpa [newA] using h1)] at h2
  exact hs h2.symm
theorem ins_range (n : Nat) : insS n (List.range n) = List.range (n + 1) :=
  sorted_ext (sorted_insS (sorted_range _)) (sorted_range _) fun i => by
    rw [mem_insS, List.mem_range, List.mem_range]; omega
theorem next_idx (s : Nat) (cs : List ACell) : nextS (idxS s cs) 0 = match idxS s cs with | [] => -1 | a :: _ => (a : Int) := by
  rw [nextS_head (sorted_idxS s cs), fromS_zero]
  cases idxS s cs <;> rfl
def retA (cs : List ACell) : Nat := (idxS 9 cs).length
theorem len_in {s i : Nat} {cs : List ACell} {g : Int} (h : i < cs.length) (ho : stA cs i ≠ s) : (idxS s (cs.set i (s, g))).length = (idxS s cs).length + 1 := by
  rw [idxS_in h]
  exact len_insS fun hm => ho (mem_idxS.1 hm).2
theorem idx_len (s : Nat) (cs : List ACell) : (idxS s cs).length ≤ cs.length := by
  have := List.length_filter_le (fun i => stA cs i == s) (List.range cs.length)
  simpa [idxS] using this
end Go.Proofs.YtcnbmfaicbkhcaaGreatDoor

/-
  Handles (alloc.Alloc): the memory of an Alloc; handle, give, Create, Raise.
-/
set_option maxRecDepth 100000
namespace Go.Proofs.YtcnbmfaicbkhcaaGreatDoor
open Go Go.RowKit
attribute [local irreducible] wpList Calls Code.wp

/-! ### One assertion out of the list to its head, and back -/
theorem Ent.pure {x : Prop} {L : List As} : Ent (pur x :: L) L := fun _ h => (star_pur h).2

/-! ### A handle -/
abbrev Hdl := Int × Int
def h2 (h : Hdl) : List Value := [.int .i64 h.1, .int .i64 h.2]
def hv (h : Hdl) : Value := .agg (h2 h).toArray
theorem h2_one (h : Hdl) : ∀ v ∈ h2 h, v.oneCell' = true := by
  intro v hv
  simp [h2] at hv
  rcases hv with rfl | rfl <;> rfl
theorem aggH : aggB Tryz.prog 39 = true := by kernel_rfl
theorem sizeHd (h : Hdl) : (Tryz.prog.info? 39).map (·.size) = some (h2 h).length := by kernel_rfl
theorem zeroH : (Tryz.prog.info? 39).bind (·.zero) = some (hv (0, 0)) := by kernel_rfl
theorem build_h0 (w : World) : (Instr.build 39 #[]).run Tryz.prog w = .ok (hv (0, 0)) w := by kernel_rfl
theorem build_h2 (i g : Int) (w : World) : (Instr.build 39 #[(0, .int .i64 i), (1, .int .i64 g)]).run Tryz.prog w = .ok (hv (i, g)) w := by kernel_rfl
theorem WrA.slotH {w0 : World} {s : Nat} {u v : Hdl} {t : TypeId} {L : List As} : WrA w0 (YtcnbmfaicbkhcaaGreatDoor.blk s (h2 u).toArray t :: L) ⟨s, 0, none⟩ (hv v).cells.toList (YtcnbmfaicbkhcaaGreatDoor.blk s (h2 v).toArray t :: L) := by
  have := WrA.blk (w0 := w0) (g := s) (o := 0) (cs := h2 u) (t := t) (vs := h2 v) (L := L) (by simp [h2]) (h2_one v)
  rwa [splice_all (by simp [h2])] at this

/-! ### An Alloc -/
def gensV (cs : List ACell) : List Value := cs.map fun c => Value.int .i64 c.2
theorem gensV_len (cs : List ACell) : (gensV cs).length = cs.length := by simp [gensV]
theorem gensV_get {cs : List ACell} {i : Nat} (h : i < cs.length) : (gensV cs)[i]? = some (.int .i64 (gnA cs i)) := by
  simp [gensV, gnA, h]
theorem gensV_set {cs : List ACell} {i s : Nat} {g : Int} : (gensV cs).set i (.int .i64 g) = gensV (cs.set i (s, g)) := by
  unfold gensV
  rw [List.map_set]
def alptr (g : Nat) : Value := .pointer (some ⟨g, 0, none⟩)
def alC (TF TL TR : Nat) (top : Int) (G n cap ret : Nat) : List Value := [alptr TF, alptr TL, alptr TR, .int .i64 top, .slice (some ⟨G, 0, none⟩) n cap, .int .i64 (ret : Nat)]
def AlB (D : Nat) (top : Int) (cs : List ACell) : As := fun h => ∃ TF TL TR G cap, AlOk top cs ∧
  big [YtcnbmfaicbkhcaaGreatDoor.blk D (alC TF TL TR top G cs.length cap (retA cs)).toArray 191, HSet TF (idxS 0 cs), HSet TL (idxS 1 cs), HSet TR (idxS 2 cs), YtcnbmfaicbkhcaaGreatDoor.own (some ⟨G, 0, none⟩) cs.length cap 2 1 (gensV cs)] h
theorem St.alopen {w0 w : World} {D : Nat} {top : Int} {cs : List ACell} {L : List As} (hs : St w0 (AlB D top cs :: L) w) : AlOk top cs ∧ ∃ TF TL TR G cap,
    St w0 (YtcnbmfaicbkhcaaGreatDoor.blk D (alC TF TL TR top G cs.length cap (retA cs)).toArray 191 :: HSet TF (idxS 0 cs) :: HSet TL (idxS 1 cs) :: HSet TR (idxS 2 cs) :: YtcnbmfaicbkhcaaGreatDoor.own (some ⟨G, 0, none⟩) cs.length cap 2 1 (gensV cs) :: L) w := by
  obtain ⟨hb, x, r, hd, hx, y, z, hyz, e, ⟨TF, TL, TR, G, cap, hok, hh⟩, hz⟩ := hs
  refine ⟨hok, TF, TL, TR, G, cap, ?_⟩
  have h1 : St w0 (big [YtcnbmfaicbkhcaaGreatDoor.blk D (alC TF TL TR top G cs.length cap (retA cs)).toArray 191, HSet TF (idxS 0 cs), HSet TL (idxS 1 cs), HSet TR (idxS 2 cs), YtcnbmfaicbkhcaaGreatDoor.own (some ⟨G, 0, none⟩) cs.length cap 2 1 (gensV cs)] :: L) w := ⟨hb, x, r, hd, hx, y, z, hyz, e, hh, hz⟩
  exact h1.ent (Ent.flat _ L)
theorem St.alshut {w0 w : World} {D TF TL TR G cap : Nat} {top : Int} {cs : List ACell} {L : List As} (hok : AlOk top cs)
    (hs : St w0 (YtcnbmfaicbkhcaaGreatDoor.blk D (alC TF TL TR top G cs.length cap (retA cs)).toArray 191 :: HSet TF (idxS 0 cs) :: HSet TL (idxS 1 cs) :: HSet TR (idxS 2 cs) :: YtcnbmfaicbkhcaaGreatDoor.own (some ⟨G, 0, none⟩) cs.length cap 2 1 (gensV cs) :: L) w) : St w0 (AlB D top cs :: L) w :=
  (hs.ent (Ent.unflat [_, _, _, _, _] L)).conv fun _ h => ⟨TF, TL, TR, G, cap, hok, h⟩
/-- What the cells of an Alloc hold. -/
theorem alRd {w0 w : World} {D TF TL TR G n cap ret : Nat} {top : Int} {t : TypeId} {L : List As} (hs : St w0 (YtcnbmfaicbkhcaaGreatDoor.blk D (alC TF TL TR top G n cap ret).toArray t :: L) w) :
    w.cell? ⟨D, 0, none⟩ = some (.pointer (some ⟨TF, 0, none⟩)) ∧ w.cell? ⟨D, 1, none⟩ = some (.pointer (some ⟨TL, 0, none⟩)) ∧ w.cell? ⟨D, 2, none⟩ = some (.pointer (some ⟨TR, 0, none⟩)) ∧
    w.cell? ⟨D, 3, none⟩ = some (.int .i64 top) ∧ w.cell? ⟨D, 4, none⟩ = some (.slice (some ⟨G, 0, none⟩) n cap) ∧ w.cell? ⟨D, 5, none⟩ = some (.int .i64 (ret : Nat)) :=
  ⟨Rd.blk (by rfl) w hs, Rd.blk (by rfl) w hs, Rd.blk (by rfl) w hs, Rd.blk (by rfl) w hs, Rd.blk (by rfl) w hs, Rd.blk (by rfl) w hs⟩
set_option maxHeartbeats 400000 in
theorem handle_c {w0 w : World} {L : List As} {D : Nat} {top : Int} {cs : List ACell} (hs : St w0 (AlB D top cs :: L) w) {i : Nat} (hi : i < cs.length) {g : Int} (hgn : Hid (gnA cs i = g)) :
    Calls Tryz.prog 241 #[.pointer (some ⟨D, 0, none⟩), .int .i64 (i : Nat)] w fun e w' => e = .returned (hv ((i : Int), g)) ∧ Grew w w' := by
  obtain ⟨hok, TF, TL, TR, G, cap, hs⟩ := hs.alopen
  have hg := Rd.own (gensV_get hi) _ hs.up4
  rw [hgn.out] at hg
  obtain ⟨_, _, _, _, d4, _⟩ := alRd hs
  have hlen : cs.length ≤ 65536 := hok.few
  have hcap := hs.up4.own_len
  generalize cs.length = n at *
  clear hok hgn
  go_enter Tryz.func241, Tryz.ntmps241
  go_upto_region 1 with (fail)
  have hw := (St.start w).alloc (h2 (0, 0)).toArray 39
  generalize w.heap.size = g4 at hw ⊢
  refine wp_gen hw ?_
  clear hw
  intro w1 hw
  replace hg := hw.made_grew.cell hg
  replace d4 := hw.made_grew.cell d4
  go_wp2_with (first
    | (refine wpl_buildS (build_h2 _ _) rfl ?_)
    | (refine wpl_store_agg (v := hv ((i : Int), g)) rfl rfl (sizeHd _) hw WrA.slotH ?_; clear hw; intro w3 hw))
  refine bodyPost_at (results_cell1 Tryz.results241 rfl (hw.slot_run aggH (sizeHd _))) rfl ?_
  exact ⟨rfl, hw.made_grew⟩
/-- What a give answers. -/
def giveV (s : Nat) (cs : List ACell) : Hdl × Int × List ACell := match idxS 0 cs with
  | i :: _ => (((i : Int), gnA cs i + 1), 0, cs.set i (s, gnA cs i + 1))
  | [] => ((0, 0), if 0 < (idxS 1 cs).length + (idxS 2 cs).length then 6 else 7, cs)
theorem giveV_some {s i : Nat} {l : List Nat} {cs : List ACell} (h : idxS 0 cs = i :: l) : giveV s cs = (((i : Int), gnA cs i + 1), 0, cs.set i (s, gnA cs i + 1)) := by unfold giveV; rw [h]
theorem giveV_none {s : Nat} {cs : List ACell} (h : idxS 0 cs = []) : giveV s cs = ((0, 0), if 0 < (idxS 1 cs).length + (idxS 2 cs).length then 6 else 7, cs) := by unfold giveV; rw [h]
theorem idx_head {s i : Nat} {l : List Nat} {cs : List ACell} (h : idxS s cs = i :: l) : i < cs.length ∧ stA cs i = s := mem_idxS.1 (by rw [h]; exact List.mem_cons_self)
theorem size_i64 : (Tryz.prog.info? 2).map (·.size) = some 1 := by kernel_rfl
theorem memS_nat' {S : List Nat} {i : Nat} (h : i ∈ S) : memS S (i : Int) = true := memS_nat.2 h
theorem remS_le {S : List Nat} {i : Nat} (h : i < 16777216) : remS S (i : Int) = delS i S := by unfold remS okN; rw [if_pos (decide_eq_true ⟨by omega, by omega⟩)]; simp
theorem errN_le {i : Nat} (h : i < 16777216) : errN (i : Int) = 0 := by unfold errN okN; rw [if_pos (decide_eq_true ⟨by omega, by omega⟩)]
theorem addS_le {S : List Nat} {i : Nat} (h : i < 16777216) : addS S (i : Int) = insS i S := by unfold addS okN; rw [if_pos (decide_eq_true ⟨by omega, by omega⟩)]; simp
attribute [local irreducible] idxS addS okN memS remS errN insS delS nextS stA gnA
set_option maxHeartbeats 1000000 in
theorem give1 {w0 w : World} {L : List As} {D TF TL TR G cap : Nat} {top : Int} {cs : List ACell} (hT : Tab w0) (hok : AlOk top cs)
    (hs : St w0 (blk D (alC TF TL TR top G cs.length cap (retA cs)).toArray 191 :: HSet TF (idxS 0 cs) :: HSet TL (idxS 1 cs) :: HSet TR (idxS 2 cs) :: own (some ⟨G, 0, none⟩) cs.length cap 2 1 (gensV cs) :: L) w)
    {v : Hdl} {x : Int} {c : List ACell} (HV : Hid (giveV 1 cs = (v, x, c))) :
    Calls Tryz.prog 179 #[.pointer (some ⟨D, 0, none⟩), .pointer (some ⟨TL, 0, none⟩)] w fun e w' => e = .returned (.tuple #[hv v, .int .i64 x]) ∧ St w0 (AlB D top c :: L) w' := by
  obtain ⟨hok, hs⟩ : AlOk top cs ∧ St w0 (blk D (alC TF TL TR top G cs.length cap (retA cs)).toArray 191 :: HSet TF (idxS 0 cs) :: HSet TL (idxS 1 cs) :: HSet TR (idxS 2 cs) :: own (some ⟨G, 0, none⟩) cs.length cap 2 1 (gensV cs) :: L) w := ⟨hok, hs⟩
  have hfew := hok.few
  cases hF : idxS 0 cs with
  | nil =>
    have HNX : Hid (nextS (idxS 0 cs) 0 = -1) := by rw [Hid, next_idx, hF]
    rw [giveV_none hF] at HV
    obtain ⟨l1, HL1⟩ : ∃ x, Hid ((idxS 1 cs).length = x) := ⟨_, rfl⟩
    obtain ⟨l2, HL2⟩ : ∃ x, Hid ((idxS 2 cs).length = x) := ⟨_, rfl⟩
    have hl1 : l1 ≤ 65536 := by have := idx_len 1 cs; rw [HL1.out] at this; omega
    have hl2 : l2 ≤ 65536 := by have := idx_len 2 cs; rw [HL2.out] at this; omega
    rw [HL1.out, HL2.out] at HV
    clear hF
    go_enter Tryz.func179, Tryz.ntmps179
    go_upto_region 4 with (first
      | (refine wpl_alloc zeroH hs ?_; clear hs; intro g4 w hs; replace hs : St w0 (blk g4 (h2 (0, 0)).toArray 39 :: _) w := hs; obtain ⟨d0, d1, d2, d3, d4, d5⟩ := alRd hs.rot)
      | (go_at_call 240; refine (next_v hs.up2 (hT.grew hs.below) HNX).mono ?_; clear d0 d1 d2 d3 d4 d5; rintro e w' ⟨rfl, hg⟩; replace hs := hs.grew hg; clear hg; obtain ⟨d0, d1, d2, d3, d4, d5⟩ := alRd hs.rot))
    refine wp_region_grow (by kernel_rfl) (by kernel_rfl) fun hne => ?_
    have g1 := fun p : GW _ => p.grew.cell d1
    have g2 := fun p : GW _ => p.grew.cell d2
    repeat (go_big_quiet_step ((first
      | (go_at_call 245; exact in_gsame (hlen_v (hs.up3.grew (GW.grew _)) HL1))
      | (go_at_call 245; exact in_gsame (hlen_v (hs.up4.grew (GW.grew _)) HL2)))))
    refine wpQuiet_nil ?_
    clear hne g1 g2 d0 d1 d2 d3 d4 d5
    intro u hu
    replace hs := hs.grew hu
    clear hu
    by_cases hc : 0 < l1 + l2
    · rw [if_pos hc] at HV
      go_wp2_with (first
        | (refine wpl_buildS (parts := []) build_h0 rfl ?_)
        | (refine wpl_store_agg (v := hv (0, 0)) rfl rfl (sizeHd _) hs WrA.slotH ?_; clear hs; intro w3 hs))
      refine bodyPost_at (results_cell_tmp Tryz.results179 rfl (hs.slot_run aggH (sizeHd _))) rfl ?_
      cases HV.out
      exact ⟨rfl, hs.drop.alshut hok⟩
    · rw [if_neg hc] at HV
      go_wp2_with (first
        | (refine wpl_buildS (parts := []) build_h0 rfl ?_)
        | (refine wpl_store_agg (v := hv (0, 0)) rfl rfl (sizeHd _) hs WrA.slotH ?_; clear hs; intro w3 hs))
      refine bodyPost_at (results_cell_tmp Tryz.results179 rfl (hs.slot_run aggH (sizeHd _))) rfl ?_
      cases HV.out
      exact ⟨rfl, hs.drop.alshut hok⟩
  | cons i l =>
    have HNX : Hid (nextS (idxS 0 cs) 0 = ((i : Nat) : Int)) := by rw [Hid, next_idx, hF]
    obtain ⟨hi, hst⟩ := idx_head hF
    rw [giveV_some hF] at HV
    have hgb := hok.gen0 i hi
    have hgt := hok.free i hi hst
    have htop := hok.top2
    obtain ⟨g, hg⟩ : ∃ g, gnA cs i = g := ⟨_, rfl⟩
    obtain ⟨cs', hcs'⟩ : ∃ c, c = cs.set i (1, g + 1) := ⟨_, rfl⟩
    rw [hg] at hgb hgt HV
    rw [← hcs'] at HV
    have hok' : AlOk top cs' := hcs' ▸ hok.set hi (by omega) (by omega) (fun h => absurd h (by decide))
    have him : i < 16777216 := by omega
    have HM : Hid (memS (idxS 0 cs) (i : Int) = true) := memS_nat' (mem_idxS.2 ⟨hi, hst⟩)
    have HE : Hid (errN (i : Int) = 0) := errN_le him
    have HR : Hid (remS (idxS 0 cs) (i : Int) = idxS 0 cs') := by rw [Hid, remS_le him, hcs', idxS_out hi (by decide)]
    obtain ⟨b0, HD⟩ : ∃ b, Hid ((okN (i : Int) && !memS (idxS 1 cs) (i : Int)) = b) := ⟨_, rfl⟩
    have HA : Hid (addS (idxS 1 cs) (i : Int) = idxS 1 cs') := by rw [Hid, addS_le him, hcs', idxS_in hi]
    have HO : Hid (idxS (3 - 1) cs = idxS (3 - 1) cs') := by rw [Hid, hcs', idxS_off hi (by decide) (by rw [hst]; decide)]
    have HRt : Hid (retA cs = retA cs') := by rw [Hid]; unfold retA; rw [hcs', idxS_off hi (by decide) (by rw [hst]; decide)]
    have HLn : Hid (cs'.length = cs.length) := by rw [Hid, hcs', List.length_set]
    have HG : Hid ((gensV cs).set i (.int .i64 (g + 1)) = gensV cs') := by rw [Hid, hcs', gensV_set]
    have HGN : Hid (gnA cs' i = g + 1) := by rw [Hid, hcs', gnA_set hi, if_pos rfl]
    have hgl : i < (gensV cs).length := by rw [gensV_len]; exact hi
    have hgv := gensV_get hi
    rw [hg] at hgv
    have HGV := Lib.hid hgv
    have hi2 : i < cs'.length := by rw [HLn.out]; exact hi
    clear hF hst hg hcs' hok hgv
    have hnl := hs.up4.own_len
    go_enter Tryz.func179, Tryz.ntmps179
    go_wp2_with (first
      | (refine wpl_alloc zeroH hs ?_; clear hs; intro g4 w hs; replace hs : St w0 (blk g4 (h2 (0, 0)).toArray 39 :: _) w := hs; obtain ⟨d0, d1, d2, d3, d4, d5⟩ := alRd hs.rot)
      | (go_at_call 240; refine (next_v hs.up2 (hT.grew hs.below) HNX).mono ?_; clear d0 d1 d2 d3 d4 d5; rintro e w' ⟨rfl, hg⟩; replace hs := hs.grew hg; clear hg; obtain ⟨d0, d1, d2, d3, d4, d5⟩ := alRd hs.rot)
      | (go_at_call 246; refine (remove_v hs.up2 HM HE HR).mono ?_; clear hs d0 d1 d2 d3 d4 d5; rintro e w' ⟨rfl, hs⟩; replace hs := hs.dn2; obtain ⟨d0, d1, d2, d3, d4, d5⟩ := alRd hs.rot)
      | (go_at_call 243; refine (add_v hs.up3 HD HE HA).mono ?_; clear hs d0 d1 d2 d3 d4 d5; rintro e w' ⟨rfl, hs⟩; replace hs := hs.dn3; obtain ⟨d0, d1, d2, d3, d4, d5⟩ := alRd hs.rot; have dg := Rd.own HGV.out _ hs.up5)
      | (refine wpl_store (ad := ⟨G, i, none⟩) (v := .int .i64 (g + 1)) rfl rfl rfl size_i64 hs.up5 (Wr.own hgl) ?_; clear hs d0 d1 d2 d3 d4 d5 dg; intro w3 hs; rw [HG.out] at hs; replace hs := hs.dn5.dn5; rw [HRt.out, HO.out, ← HLn.out] at hs; replace hs := (hs.alshut hok').rot)
      | (go_at_call 241; refine (handle_c hs.rot hi2 HGN).mono ?_; rintro e w' ⟨rfl, hg⟩; replace hs := hs.grew hg; clear hg)
      | (refine wpl_store_agg (v := hv ((i : Int), g + 1)) rfl rfl (sizeHd _) hs WrA.slotH ?_; clear hs; intro w3 hs))
    refine bodyPost_at (results_cell_tmp Tryz.results179 rfl (hs.slot_run aggH (sizeHd _))) rfl ?_
    cases HV.out
    exact ⟨rfl, hs.drop⟩
set_option maxHeartbeats 1000000 in
theorem create_c {w0 w : World} {L : List As} {D : Nat} {top : Int} {cs : List ACell} (hT : Tab w0) (hs : St w0 (AlB D top cs :: L) w) {v : Hdl} {x : Int} {c : List ACell} (HV : Hid (giveV 1 cs = (v, x, c))) :
    Calls Tryz.prog 99 #[.pointer (some ⟨D, 0, none⟩)] w fun e w' => e = .returned (.tuple #[hv v, .int .i64 x]) ∧ St w0 (AlB D top c :: L) w' := by
  obtain ⟨hok, TF, TL, TR, G, cap, hs⟩ := hs.alopen
  obtain ⟨d0, d1, d2, d3, d4, d5⟩ := alRd hs
  go_enter Tryz.func99, Tryz.ntmps99
  go_wp2_with (first
    | (refine wpl_alloc zeroH hs ?_; clear hs d0 d1 d2 d3 d4 d5; intro g4 w hs; replace hs : St w0 (blk g4 (h2 (0, 0)).toArray 39 :: _) w := hs; obtain ⟨d0, d1, d2, d3, d4, d5⟩ := alRd hs.rot)
    | (go_at_call 179; refine (give1 hT hok hs.dn5 HV).mono ?_; clear hs d0 d1 d2 d3 d4 d5; rintro e w' ⟨rfl, hs⟩; replace hs := hs.rot)
    | (refine wpl_store_agg (v := hv v) rfl rfl (sizeHd _) hs WrA.slotH ?_; clear hs; intro w3 hs))
  refine bodyPost_at (results_cell_tmp Tryz.results99 rfl (hs.slot_run aggH (sizeHd _))) rfl ?_
  exact ⟨rfl, hs.drop⟩
end Go.Proofs.YtcnbmfaicbkhcaaGreatDoor

/-
  Handles (alloc.Alloc), 2: State, Delete, At, Counts, Mask.
-/
set_option maxRecDepth 100000
namespace Go.Proofs.YtcnbmfaicbkhcaaGreatDoor
open Go Go.RowKit
attribute [local irreducible] wpList Calls Code.wp

/-- What a handle is. -/
def stV (cs : List ACell) (h : Hdl) : Int := if 0 ≤ h.1 ∧ h.1 < cs.length ∧ gnA cs h.1.toNat = h.2 then (if stA cs h.1.toNat = 1 then 1 else if stA cs h.1.toNat = 2 then 2 else 0) else 0
theorem stV_out {cs : List ACell} {h : Hdl} (ho : ¬ (0 ≤ h.1 ∧ h.1 < cs.length)) : stV cs h = 0 := if_neg fun h' => ho ⟨h'.1, h'.2.1⟩
theorem stV_gen {cs : List ACell} {k : Nat} {g : Int} (ho : gnA cs k ≠ g) : stV cs ((k : Int), g) = 0 := if_neg fun h' => ho (by simpa using h'.2.2)
theorem stV_in {cs : List ACell} {k : Nat} {g : Int} (hk : k < cs.length) (hg : gnA cs k = g) : stV cs ((k : Int), g) = if stA cs k = 1 then 1 else if stA cs k = 2 then 2 else 0 := by
  unfold stV
  rw [if_pos ⟨by omega, by omega, by simpa using hg⟩]
  rfl
theorem memS_idx {s k : Nat} {cs : List ACell} (hk : k < cs.length) : memS (idxS s cs) (k : Int) = decide (stA cs k = s) := by
  rw [Bool.eq_iff_iff, memS_nat, mem_idxS, decide_eq_true_iff]
  exact ⟨fun h => h.2, fun h => ⟨hk, h⟩⟩
attribute [local irreducible] idxS addS okN memS remS errN insS delS nextS stA gnA stV
set_option maxHeartbeats 1000000 in
theorem state_c {w0 w : World} {L : List As} {D : Nat} {top : Int} {cs : List ACell} (hs : St w0 (AlB D top cs :: L) w) {h : Hdl} {v : Int} (HV : Hid (stV cs h = v)) :
    Calls Tryz.prog 20 #[.pointer (some ⟨D, 0, none⟩), hv h] w fun e w' => e = .returned (.int .i64 v) ∧ Grew w w' := by
  obtain ⟨hok, TF, TL, TR, G, cap, hs⟩ := hs.alopen
  obtain ⟨_, d1, d2, _, d4, _⟩ := alRd hs
  have hfew := hok.few
  obtain ⟨i, g⟩ := h
  by_cases ho : 0 ≤ i ∧ i < cs.length
  · obtain ⟨h0, h1⟩ := ho
    obtain ⟨k, rfl⟩ := Int.eq_ofNat_of_zero_le h0
    have hk : k < cs.length := by omega
    have dg := Rd.own (gensV_get hk) _ hs.up4
    have hnl := hs.up4.own_len
    have hsL := hs.up2
    have hsR := hs.up3
    by_cases hgg : gnA cs k = g
    · have HV2 : Hid ((if stA cs k = 1 then (1 : Int) else if stA cs k = 2 then 2 else 0) = v) := by rw [Hid, ← stV_in hk hgg]; exact HV.out
      obtain ⟨b1, HB1⟩ : ∃ b, Hid (memS (idxS 1 cs) (k : Int) = b) := ⟨_, rfl⟩
      obtain ⟨b2, HB2⟩ : ∃ b, Hid (memS (idxS 2 cs) (k : Int) = b) := ⟨_, rfl⟩
      have h1b : b1 = decide (stA cs k = 1) := by rw [← HB1.out, memS_idx hk]
      have h2b : b2 = decide (stA cs k = 2) := by rw [← HB2.out, memS_idx hk]
      have HVV : Hid (v = if b1 then 1 else if b2 then 2 else 0) := by rw [Hid, ← HV2.out, h1b, h2b]; simp
      rw [hgg] at dg
      clear HV HV2 h1b h2b hgg h0 h1
      generalize cs.length = n at *
      clear hok
      go_enter Tryz.func20, Tryz.ntmps20
      go_upto_region 1 with (first
        | (refine wpl_box_v (v := hv ((k : Int), g)) rfl (St.start w) ?_; intro g3 w1 hw; replace hw : St w [blk g3 (h2 ((k : Int), g)).toArray 39] w1 := hw))
      have f0 : w1.cell? ⟨g3, 0, none⟩ = some (.int .i64 (k : Int)) := Rd.blk (L := []) (by rfl) _ hw
      have f1 : w1.cell? ⟨g3, 1, none⟩ = some (.int .i64 g) := Rd.blk (L := []) (by rfl) _ hw
      replace d1 := hw.made_grew.cell d1
      replace d2 := hw.made_grew.cell d2
      replace d4 := hw.made_grew.cell d4
      replace dg := hw.made_grew.cell dg
      replace hsL := hsL.grew hw.made_grew
      replace hsR := hsR.grew hw.made_grew
      replace hw := hw.made_grew
      refine wp_region_grow (by kernel_rfl) (by kernel_rfl) fun hne => ?_
      have g0 := fun p : GW _ => p.grew.cell f0
      have g1 := fun p : GW _ => p.grew.cell f1
      have g4 := fun p : GW _ => p.grew.cell d4
      have gg := fun p : GW _ => p.grew.cell dg
      have e1 : decide ((k : Int) < 0) = false := decide_eq_false (by omega)
      have e2 : decide (n ≤ k) = false := decide_eq_false (by omega)
      repeat (go_big_quiet_step (fail))
      refine wpQuiet_nil ?_
      clear hne g0 g1 g4 gg e1 e2
      intro u hu
      replace hw := hw.trans hu
      replace d1 := hu.cell d1
      replace d2 := hu.cell d2
      replace f0 := hu.cell f0
      replace hsL := hsL.grew hu
      replace hsR := hsR.grew hu
      clear hu
      go_upto_region 3 with (fail)
      refine wp_region_grow (by kernel_rfl) (by kernel_rfl) fun hne => ?_
      have g0 := fun p : GW _ => p.grew.cell f0
      have g1 := fun p : GW _ => p.grew.cell d1
      repeat (go_big_quiet_step ((first
        | (go_at_call 69; exact in_grew (has_gv (hsL.grew (GW.grew _)) HB1)))))
      refine wpQuiet_nil ?_
      clear hne g0 g1
      intro u hu
      replace hw := hw.trans hu
      replace d2 := hu.cell d2
      replace f0 := hu.cell f0
      replace hsR := hsR.grew hu
      clear hu hsL
      cases b1 with
      | true =>
        go_wp2
        go_ret
        exact ⟨by rw [HVV.out]; rfl, hw⟩
      | false =>
        go_upto_region 5 with (fail)
        refine wp_region_grow (by kernel_rfl) (by kernel_rfl) fun hne => ?_
        have g0 := fun p : GW _ => p.grew.cell f0
        have g1 := fun p : GW _ => p.grew.cell d2
        repeat (go_big_quiet_step ((first
          | (go_at_call 69; exact in_grew (has_gv (hsR.grew (GW.grew _)) HB2)))))
        refine wpQuiet_nil ?_
        clear hne g0 g1
        intro u hu
        replace hw := hw.trans hu
        clear hu hsR
        cases b2 with
        | true =>
          go_wp2
          go_ret
          exact ⟨by rw [HVV.out]; rfl, hw⟩
        | false =>
          go_wp2
          go_ret
          exact ⟨by rw [HVV.out]; rfl, hw⟩
    · have HVV : Hid (v = 0) := by rw [Hid, ← HV.out]; exact stV_gen hgg
      generalize gnA cs k = g' at *
      clear HV h0 h1
      generalize cs.length = n at *
      clear hok
      go_enter Tryz.func20, Tryz.ntmps20
      go_upto_region 1 with (first
        | (refine wpl_box_v (v := hv ((k : Int), g)) rfl (St.start w) ?_; intro g3 w1 hw; replace hw : St w [blk g3 (h2 ((k : Int), g)).toArray 39] w1 := hw))
      have f0 : w1.cell? ⟨g3, 0, none⟩ = some (.int .i64 (k : Int)) := Rd.blk (L := []) (by rfl) _ hw
      have f1 : w1.cell? ⟨g3, 1, none⟩ = some (.int .i64 g) := Rd.blk (L := []) (by rfl) _ hw
      replace d4 := hw.made_grew.cell d4
      replace dg := hw.made_grew.cell dg
      replace hw := hw.made_grew
      refine wp_region_grow (by kernel_rfl) (by kernel_rfl) fun hne => ?_
      have g0 := fun p : GW _ => p.grew.cell f0
      have g1 := fun p : GW _ => p.grew.cell f1
      have g4 := fun p : GW _ => p.grew.cell d4
      have gg := fun p : GW _ => p.grew.cell dg
      have e1 : decide ((k : Int) < 0) = false := decide_eq_false (by omega)
      have e2 : decide (n ≤ k) = false := decide_eq_false (by omega)
      have e3 : (g' != g) = true := by simpa using hgg
      repeat (go_big_quiet_step (fail))
      refine wpQuiet_nil ?_
      clear hne g0 g1 g4 gg e1 e2 e3
      intro u hu
      replace hw := hw.trans hu
      clear hu
      go_wp2
      go_ret
      exact ⟨by rw [HVV.out]; rfl, hw⟩
  · have HVV : Hid (v = 0) := by rw [Hid, ← HV.out]; exact stV_out ho
    clear HV
    generalize cs.length = n at *
    clear hok
    by_cases hi : i < 0
    · clear ho
      go_enter Tryz.func20, Tryz.ntmps20
      go_upto_region 1 with (first
        | (refine wpl_box_v (v := hv (i, g)) rfl (St.start w) ?_; intro g3 w1 hw; replace hw : St w [blk g3 (h2 (i, g)).toArray 39] w1 := hw))
      have f0 : w1.cell? ⟨g3, 0, none⟩ = some (.int .i64 i) := Rd.blk (L := []) (by rfl) _ hw
      have f1 : w1.cell? ⟨g3, 1, none⟩ = some (.int .i64 g) := Rd.blk (L := []) (by rfl) _ hw
      replace d4 := hw.made_grew.cell d4
      replace hw := hw.made_grew
      refine wp_region_grow (by kernel_rfl) (by kernel_rfl) fun hne => ?_
      have g0 := fun p : GW _ => p.grew.cell f0
      have g1 := fun p : GW _ => p.grew.cell f1
      have g4 := fun p : GW _ => p.grew.cell d4
      have e1 : decide (i < 0) = true := decide_eq_true (by omega)
      repeat (go_big_quiet_step (fail))
      refine wpQuiet_nil ?_
      clear hne g0 g1 g4 e1
      intro u hu
      replace hw := hw.trans hu
      clear hu
      go_wp2
      go_ret
      exact ⟨by rw [HVV.out]; rfl, hw⟩
    · have hni : (n : Int) ≤ i := by omega
      clear ho
      go_enter Tryz.func20, Tryz.ntmps20
      go_upto_region 1 with (first
        | (refine wpl_box_v (v := hv (i, g)) rfl (St.start w) ?_; intro g3 w1 hw; replace hw : St w [blk g3 (h2 (i, g)).toArray 39] w1 := hw))
      have f0 : w1.cell? ⟨g3, 0, none⟩ = some (.int .i64 i) := Rd.blk (L := []) (by rfl) _ hw
      have f1 : w1.cell? ⟨g3, 1, none⟩ = some (.int .i64 g) := Rd.blk (L := []) (by rfl) _ hw
      replace d4 := hw.made_grew.cell d4
      replace hw := hw.made_grew
      refine wp_region_grow (by kernel_rfl) (by kernel_rfl) fun hne => ?_
      have g0 := fun p : GW _ => p.grew.cell f0
      have g1 := fun p : GW _ => p.grew.cell f1
      have g4 := fun p : GW _ => p.grew.cell d4
      have e1 : decide (i < 0) = false := decide_eq_false (by omega)
      have e2 : decide ((n : Int) ≤ i) = true := decide_eq_true (by omega)
      repeat (go_big_quiet_step (fail))
      refine wpQuiet_nil ?_
      clear hne g0 g1 g4 e1 e2
      intro u hu
      replace hw := hw.trans hu
      clear hu
      go_wp2
      go_ret
      exact ⟨by rw [HVV.out]; rfl, hw⟩
/-! ### Delete -/
def delA (top : Int) (cs : List ACell) (h : Hdl) : Int × List ACell := if stV cs h = 0 then (4, cs) else if stV cs h = 2 then (5, cs) else (0, cs.set h.1.toNat (if top ≤ h.2 then 9 else 0, h.2))
theorem stV_one {cs : List ACell} {h : Hdl} (h1 : stV cs h = 1) : ∃ k : Nat, h.1 = (k : Int) ∧ k < cs.length ∧ gnA cs k = h.2 ∧ stA cs k = 1 := by
  unfold stV at h1
  split at h1
  · rename_i h2
    obtain ⟨k, hk⟩ := Int.eq_ofNat_of_zero_le h2.1
    rw [hk, Int.toNat_natCast] at h1 h2
    refine ⟨k, hk, by omega, h2.2.2, ?_⟩
    split at h1
    · assumption
    · split at h1 <;> cases h1
  · cases h1
theorem stV_cases (cs : List ACell) (h : Hdl) : stV cs h = 0 ∨ stV cs h = 2 ∨ stV cs h = 1 := by
  unfold stV
  split
  · split
    · exact .inr (.inr rfl)
    · split
      · exact .inr (.inl rfl)
      · exact .inl rfl
  · exact .inl rfl
theorem gensV_same {cs : List ACell} {k s : Nat} (hk : k < cs.length) : gensV (cs.set k (s, gnA cs k)) = gensV cs := by
  rw [← gensV_set]
  have := gensV_get hk
  have hl : k < (gensV cs).length := by rw [gensV_len]; exact hk
  rw [List.getElem?_eq_getElem hl] at this
  rw [← Option.some.inj this]
  exact List.set_getElem_self hl
theorem Wr.alRet {w0 : World} {D TF TL TR G n cap ret : Nat} {top : Int} {t : TypeId} {L : List As} : Wr w0 (YtcnbmfaicbkhcaaGreatDoor.blk D (alC TF TL TR top G n cap ret).toArray t :: L) ⟨D, 5, none⟩ (.int .i64 ((ret : Int) + 1)) (YtcnbmfaicbkhcaaGreatDoor.blk D (alC TF TL TR top G n cap (ret + 1)).toArray t :: L) :=
  Wr.blk (k := 5) (v := .int .i64 ((ret : Int) + 1)) (cs := (alC TF TL TR top G n cap ret).toArray) (by simp [alC])
theorem size_int3 : (Tryz.prog.info? 3).map (·.size) = some 1 := by kernel_rfl
set_option maxHeartbeats 1000000 in
theorem delete_c {w0 w : World} {L : List As} {D : Nat} {top : Int} {cs : List ACell} (hs : St w0 (AlB D top cs :: L) w) {h : Hdl} {x : Int} {c : List ACell} (HV : Hid (delA top cs h = (x, c))) :
    Calls Tryz.prog 198 #[.pointer (some ⟨D, 0, none⟩), hv h] w fun e w' => e = .returned (.int .i64 x) ∧ St w0 (AlB D top c :: L) w' := by
  obtain ⟨i, g⟩ := h
  rcases stV_cases cs (i, g) with h1 | h1 | h1
  · skip
    have HVV : Hid (delA top cs (i, g) = (4, cs)) := by rw [Hid]; unfold delA; rw [h1]; rfl
    rw [HVV.out] at HV
    have HS := Lib.hid h1
    clear h1
    go_enter Tryz.func198, Tryz.ntmps198
    go_wp2_with (first
      | (refine wpl_box_v (v := hv (i, g)) rfl hs ?_; clear hs; intro g3 w1 hs; replace hs : St w0 (blk g3 (h2 (i, g)).toArray 39 :: _) w1 := hs)
      | (refine wpl_load_agg (cs := h2 (i, g)) (b := g3) (o := 0) rfl aggH (sizeHd _) hs ?hh ?_; case hh => exact fun j x hx => Rd.blk (by simpa using hx))
      | (go_at_call 20; refine (state_c hs.rot HS).mono ?_; rintro e w' ⟨rfl, hg⟩; replace hs := hs.grew hg; clear hg))
    go_ret
    cases HV.out
    exact ⟨rfl, hs.drop⟩
  · skip
    have HVV : Hid (delA top cs (i, g) = (5, cs)) := by rw [Hid]; unfold delA; rw [h1]; rfl
    rw [HVV.out] at HV
    have HS := Lib.hid h1
    clear h1
    go_enter Tryz.func198, Tryz.ntmps198
    go_wp2_with (first
      | (refine wpl_box_v (v := hv (i, g)) rfl hs ?_; clear hs; intro g3 w1 hs; replace hs : St w0 (blk g3 (h2 (i, g)).toArray 39 :: _) w1 := hs)
      | (refine wpl_load_agg (cs := h2 (i, g)) (b := g3) (o := 0) rfl aggH (sizeHd _) hs ?hh ?_; case hh => exact fun j x hx => Rd.blk (by simpa using hx))
      | (go_at_call 20; refine (state_c hs.rot HS).mono ?_; rintro e w' ⟨rfl, hg⟩; replace hs := hs.grew hg; clear hg))
    go_ret
    cases HV.out
    exact ⟨rfl, hs.drop⟩
  · obtain ⟨k, hik, hk, hgk, hsk⟩ := stV_one h1
    simp only at hik hgk
    subst hik
    have HS := Lib.hid h1
    have hok := hs.alopen.1
    have hgb := hok.gen0 k hk
    have hkm : k < 16777216 := by have := hok.few; omega
    obtain ⟨s', hs'⟩ : ∃ s' : Nat, (if top ≤ g then 9 else 0) = s' := ⟨_, rfl⟩
    have HVV : delA top cs ((k : Int), g) = (0, cs.set k (s', g)) := by unfold delA; rw [h1, ← hs']; rfl
    rw [HVV] at HV
    cases HV.out
    have hok' : AlOk top (cs.set k (s', g)) := hok.set hk (by rw [← hgk]; exact hgb.1) (by rw [← hgk]; exact hgb.2) (fun h0 => by
      rw [h0] at hs'
      split at hs'
      · cases hs'
      · omega)
    have HM : Hid (memS (idxS 1 cs) (k : Int) = true) := memS_nat' (mem_idxS.2 ⟨hk, hsk⟩)
    have HE : Hid (errN (k : Int) = 0) := errN_le hkm
    have hs1 : s' ≠ 1 := by rw [← hs']; split <;> decide
    have hs2 : s' ≠ 2 := by rw [← hs']; split <;> decide
    have HR : Hid (remS (idxS 1 cs) (k : Int) = idxS 1 (cs.set k (s', g))) := by rw [Hid, remS_le hkm, idxS_out hk hs1]
    have HO : Hid (idxS 2 cs = idxS 2 (cs.set k (s', g))) := by rw [Hid, idxS_off hk hs2 (by rw [hsk]; decide)]
    have HG : Hid (gensV cs = gensV (cs.set k (s', g))) := by rw [Hid, ← hgk, gensV_same hk]
    have HLn : Hid ((cs.set k (s', g)).length = cs.length) := by rw [Hid, List.length_set]
    have hrl : retA cs ≤ 65536 := by have := idx_len 9 cs; have := hok.few; unfold retA; omega
    clear h1 HVV HV
    have hgt : g ≤ 4294967295 := by have := hok.top2; rw [← hgk]; omega
    by_cases htg : top ≤ g
    · obtain rfl : 9 = s' := by rw [← hs', if_pos htg]
      have HF : Hid (idxS 0 cs = idxS 0 (cs.set k (9, g))) := by rw [Hid, idxS_off hk (by decide) (by rw [hsk]; decide)]
      have HRt : Hid (retA cs + 1 = retA (cs.set k (9, g))) := by rw [Hid]; unfold retA; rw [len_in hk (by rw [hsk]; decide)]
      generalize cs.set k (9, g) = c' at *
      clear hs' hs1 hs2 hgk hsk hgb hok
      go_enter Tryz.func198, Tryz.ntmps198
      go_upto_region 6 with (first
        | (refine wpl_box_v (v := hv ((k : Int), g)) rfl hs ?_; clear hs; intro g3 w1 hs; replace hs : St w0 (blk g3 (h2 ((k : Int), g)).toArray 39 :: _) w1 := hs)
        | (refine wpl_load_agg (cs := h2 ((k : Int), g)) (b := g3) (o := 0) rfl aggH (sizeHd _) hs ?hh ?_; case hh => exact fun j x hx => Rd.blk (by simpa using hx))
        | (go_at_call 20; refine (state_c hs.rot HS).mono ?_; rintro e w' ⟨rfl, hg⟩; replace hs := hs.grew hg; clear hg))
      obtain ⟨_, TF, TL, TR, G, cap, hs⟩ := hs.rot.alopen
      have hsN := hs.up5.only2
      refine wp_region_plain [false, false, false, false, false, false, false, true] hsN (by kernel_rfl) (by kernel_rfl) fun hne => ?_
      have g0 := (Rd.blk (w0 := w0) (g := g3) (k := 0) (cs := (h2 ((k : Int), g)).toArray) (v := .int .i64 (k : Int)) (t := 39) (L := [blk D (alC TF TL TR top G cs.length cap (retA cs)).toArray 191]) (by rfl)).alln
      have g1 := ((Rd.blk (w0 := w0) (g := D) (k := 1) (cs := (alC TF TL TR top G cs.length cap (retA cs)).toArray) (v := .pointer (some ⟨TL, 0, none⟩)) (t := 191) (L := []) (by rfl)).tail (p := blk g3 (h2 ((k : Int), g)).toArray 39)).alln
      simp only [pickOps]
      repeat (go_big_quiet_step (fail))
      refine wpQuiet_nil ?_
      clear hne g0 g1
      simp only [chainIx]
      refine wpChain_last rfl ?_
      replace hs := hs.drew
      clear hsN
      go_upto_region 7 with (first
        | (go_at_call 246; refine (remove_v hs.up2 HM HE HR).mono ?_; clear hs; rintro e w' ⟨rfl, hs⟩; replace hs := hs.dn2))
      obtain ⟨_, _, _, d3, _, _⟩ := alRd hs
      have f1 : World.cell? _ ⟨g3, 1, none⟩ = some (.int .i64 g) := Rd.blk (by rfl) _ hs.up5
      refine wp_region_grow (by kernel_rfl) (by kernel_rfl) fun hne => ?_
      have g0 := fun p : GW _ => p.grew.cell f1
      have g1 := fun p : GW _ => p.grew.cell d3
      repeat (go_big_quiet_step (fail))
      refine wpQuiet_nil ?_
      clear hne g0 g1 f1 d3
      intro u hu
      replace hs := hs.grew hu
      clear hu
      obtain ⟨d0, d1, d2, d3, d4, d5⟩ := alRd hs
      go_wp2_with (first
        | (refine wpl_store (ad := ⟨D, 5, none⟩) (v := .int .i64 ((retA cs : Int) + 1)) rfl rfl rfl size_int3 hs Wr.alRet ?_; clear hs d0 d1 d2 d3 d4 d5; intro w3 hs))
      go_ret
      rw [HF.out, HO.out, HG.out, HRt.out, ← HLn.out] at hs
      exact ⟨rfl, (hs.alshut hok').rot.drop⟩
    · obtain rfl : 0 = s' := by rw [← hs', if_neg htg]
      have HA : Hid (addS (idxS 0 cs) (k : Int) = idxS 0 (cs.set k (0, g))) := by rw [Hid, addS_le hkm, idxS_in hk]
      obtain ⟨b0, HD⟩ : ∃ b, Hid ((okN (k : Int) && !memS (idxS 0 cs) (k : Int)) = b) := ⟨_, rfl⟩
      have HRt : Hid (retA cs = retA (cs.set k (0, g))) := by rw [Hid]; unfold retA; rw [idxS_off hk (by decide) (by rw [hsk]; decide)]
      generalize cs.set k (0, g) = c' at *
      clear hs' hs1 hs2 hgk hsk hgb hok
      go_enter Tryz.func198, Tryz.ntmps198
      go_upto_region 6 with (first
        | (refine wpl_box_v (v := hv ((k : Int), g)) rfl hs ?_; clear hs; intro g3 w1 hs; replace hs : St w0 (blk g3 (h2 ((k : Int), g)).toArray 39 :: _) w1 := hs)
        | (refine wpl_load_agg (cs := h2 ((k : Int), g)) (b := g3) (o := 0) rfl aggH (sizeHd _) hs ?hh ?_; case hh => exact fun j x hx => Rd.blk (by simpa using hx))
        | (go_at_call 20; refine (state_c hs.rot HS).mono ?_; rintro e w' ⟨rfl, hg⟩; replace hs := hs.grew hg; clear hg))
      obtain ⟨_, TF, TL, TR, G, cap, hs⟩ := hs.rot.alopen
      have hsN := hs.up5.only2
      refine wp_region_plain [false, false, false, false, false, false, false, true] hsN (by kernel_rfl) (by kernel_rfl) fun hne => ?_
      have g0 := (Rd.blk (w0 := w0) (g := g3) (k := 0) (cs := (h2 ((k : Int), g)).toArray) (v := .int .i64 (k : Int)) (t := 39) (L := [blk D (alC TF TL TR top G cs.length cap (retA cs)).toArray 191]) (by rfl)).alln
      have g1 := ((Rd.blk (w0 := w0) (g := D) (k := 1) (cs := (alC TF TL TR top G cs.length cap (retA cs)).toArray) (v := .pointer (some ⟨TL, 0, none⟩)) (t := 191) (L := []) (by rfl)).tail (p := blk g3 (h2 ((k : Int), g)).toArray 39)).alln
      simp only [pickOps]
      repeat (go_big_quiet_step (fail))
      refine wpQuiet_nil ?_
      clear hne g0 g1
      simp only [chainIx]
      refine wpChain_last rfl ?_
      replace hs := hs.drew
      clear hsN
      go_upto_region 7 with (first
        | (go_at_call 246; refine (remove_v hs.up2 HM HE HR).mono ?_; clear hs; rintro e w' ⟨rfl, hs⟩; replace hs := hs.dn2))
      obtain ⟨_, _, _, d3, _, _⟩ := alRd hs
      have f1 : World.cell? _ ⟨g3, 1, none⟩ = some (.int .i64 g) := Rd.blk (by rfl) _ hs.up5
      refine wp_region_grow (by kernel_rfl) (by kernel_rfl) fun hne => ?_
      have g0 := fun p : GW _ => p.grew.cell f1
      have g1 := fun p : GW _ => p.grew.cell d3
      repeat (go_big_quiet_step (fail))
      refine wpQuiet_nil ?_
      clear hne g0 g1 f1 d3
      intro u hu
      replace hs := hs.grew hu
      clear hu
      go_upto_region 9 with (fail)
      have hsN := hs.up5.only2
      refine wp_region_plain [false, false, false, false, false, false, false, true] hsN (by kernel_rfl) (by kernel_rfl) fun hne => ?_
      have g0 := (Rd.blk (w0 := w0) (g := g3) (k := 0) (cs := (h2 ((k : Int), g)).toArray) (v := .int .i64 (k : Int)) (t := 39) (L := [blk D (alC TF TL TR top G cs.length cap (retA cs)).toArray 191]) (by rfl)).alln
      have g1 := ((Rd.blk (w0 := w0) (g := D) (k := 0) (cs := (alC TF TL TR top G cs.length cap (retA cs)).toArray) (v := .pointer (some ⟨TF, 0, none⟩)) (t := 191) (L := []) (by rfl)).tail (p := blk g3 (h2 ((k : Int), g)).toArray 39)).alln
      simp only [pickOps]
      repeat (go_big_quiet_step (fail))
      refine wpQuiet_nil ?_
      clear hne g0 g1
      simp only [chainIx]
      refine wpChain_last rfl ?_
      replace hs := hs.drew
      clear hsN
      go_wp2_with (first
        | (go_at_call 243; refine (add_v hs.rot HD HE HA).mono ?_; clear hs; rintro e w' ⟨rfl, hs⟩; replace hs := hs.rot))
      go_ret
      rw [HO.out, HG.out, HRt.out, ← HLn.out] at hs
      exact ⟨rfl, (hs.alshut hok').rot.drop⟩
end Go.Proofs.YtcnbmfaicbkhcaaGreatDoor

/-
  Handles (alloc.Alloc), 3: At, Counts, Mask, all, Live, New.
-/
set_option maxRecDepth 100000
namespace Go.Proofs.YtcnbmfaicbkhcaaGreatDoor
open Go Go.RowKit
attribute [local irreducible] wpList Calls Code.wp

/-! ### At -/
def atA (cs : List ACell) (i : Int) : Hdl × Bool := if 0 ≤ i ∧ i < cs.length ∧ (stA cs i.toNat = 1 ∨ stA cs i.toNat = 2) then ((i, gnA cs i.toNat), true) else ((0, 0), false)
attribute [local irreducible] idxS addS okN memS remS errN insS delS nextS stA gnA stV atA
theorem mask_c {w0 w : World} {L : List As} {D : Nat} {top : Int} {cs : List ACell} (hs : St w0 (AlB D top cs :: L) w) :
    Calls Tryz.prog 189 #[.pointer (some ⟨D, 0, none⟩)] w fun e w' => ∃ T', e = .returned (.pointer (some ⟨T', 0, none⟩)) ∧ St w [HSet T' (idxS 1 cs)] w' := by
  obtain ⟨_, TF, TL, TR, G, cap, hs⟩ := hs.alopen
  obtain ⟨_, d1, _, _, _, _⟩ := alRd hs
  go_enter Tryz.func189, Tryz.ntmps189
  go_wp2_with (first
    | (go_at_call 256; refine (copy_h hs.up2).mono ?_; rintro e w' ⟨T', rfl, hm⟩))
  go_ret
  exact ⟨T', rfl, hm⟩
end Go.Proofs.YtcnbmfaicbkhcaaGreatDoor

/-
  Handles (alloc.Alloc), 4: all, Live, Merge.
-/
set_option maxRecDepth 100000
namespace Go.Proofs.YtcnbmfaicbkhcaaGreatDoor
open Go Go.RowKit
attribute [local irreducible] wpList Calls Code.wp

def hsV (l : List Hdl) : List Value := l.flatMap h2
theorem hsV_get {l : List Hdl} {k : Nat} {h : Hdl} (hk : l[k]? = some h) : ∀ j u, (h2 h)[j]? = some u → (hsV l)[k * 2 + j]? = some u := by
  induction l generalizing k with
  | nil => simp at hk
  | cons a l ih =>
    intro j u hu
    have hj : j < 2 := by have := (List.getElem?_eq_some_iff.1 hu).1; simpa [h2] using this
    simp only [hsV, List.flatMap_cons]
    cases k with
    | zero =>
      simp at hk
      subst hk
      rw [Nat.zero_mul, Nat.zero_add, List.getElem?_append_left (by simpa [h2] using hj), hu]
    | succ k =>
      rw [List.getElem?_append_right (by simp [h2]; omega)]
      have := ih (k := k) (by simpa using hk) j u hu
      rw [← this]
      simp only [hsV]
      congr 1
      simp [h2]
      omega
def handA (cs : List ACell) (i : Nat) : Hdl := ((i : Int), gnA cs i)
def allH (cs : List ACell) (S : List Nat) : List Hdl := S.map (handA cs)
attribute [local irreducible] idxS addS okN memS remS errN insS delS nextS stA gnA stV atA hsV
end Go.Proofs.YtcnbmfaicbkhcaaGreatDoor

/-
  Handles (alloc.Alloc), 5: Merge, New.
-/
set_option maxRecDepth 100000
namespace Go.Proofs.YtcnbmfaicbkhcaaGreatDoor
open Go Go.RowKit
attribute [local irreducible] wpList Calls Code.wp

/-! ### Merge -/
def mergeA (cs : List ACell) : List ACell := cs.map fun c => if c.1 = 2 then (1, c.2) else c
theorem mergeA_len (cs : List ACell) : (mergeA cs).length = cs.length := by simp [mergeA]
theorem stA_merge (cs : List ACell) (i : Nat) : stA (mergeA cs) i = if stA cs i = 2 then 1 else stA cs i := by
  unfold stA mergeA
  rw [List.getD_eq_getElem?_getD, List.getD_eq_getElem?_getD, List.getElem?_map]
  cases cs[i]? with
  | none => rfl
  | some c => simp only [Option.map_some, Option.getD_some]; split <;> rfl
theorem gnA_merge (cs : List ACell) (i : Nat) : gnA (mergeA cs) i = gnA cs i := by
  unfold gnA mergeA
  rw [List.getD_eq_getElem?_getD, List.getD_eq_getElem?_getD, List.getElem?_map]
  cases cs[i]? with
  | none => rfl
  | some c => simp only [Option.map_some, Option.getD_some]; split <;> rfl
theorem AlOk.merge {top : Int} {cs : List ACell} (h : AlOk top cs) : AlOk top (mergeA cs) where
  top1 := h.top1
  top2 := h.top2
  pos := by rw [mergeA_len]; exact h.pos
  few := by rw [mergeA_len]; exact h.few
  gen0 i hi := by rw [gnA_merge]; exact h.gen0 i (by rwa [mergeA_len] at hi)
  free i hi h0 := by
    rw [mergeA_len] at hi
    rw [gnA_merge]
    rw [stA_merge] at h0
    split at h0
    · cases h0
    · exact h.free i hi h0
/-- How far a merge has come. -/
def MrgI (cs : List ACell) (k : Nat) (S : List Nat) : Prop := S.Pairwise (· < ·) ∧ ∀ x, x ∈ S ↔ x ∈ idxS 1 cs ∨ x ∈ (idxS 2 cs).take k
attribute [local irreducible] idxS addS okN memS remS errN insS delS nextS stA gnA stV atA hsV MrgI mergeA
end Go.Proofs.YtcnbmfaicbkhcaaGreatDoor

/-
  Handles (alloc.Alloc), 6: New.
-/
set_option maxRecDepth 100000
namespace Go.Proofs.YtcnbmfaicbkhcaaGreatDoor
open Go Go.RowKit
attribute [local irreducible] wpList Calls Code.wp

/-- May an Alloc be? -/
def alMay (size top : Int) : Bool := decide (1 ≤ size) && decide (size ≤ 65536) && decide (1 ≤ top) && decide (top ≤ 4294967295)
theorem new0 {w0 w : World} {L : List As} (hs : St w0 L w) : Calls Tryz.prog 242 #[.slice none 0 0] w fun e w' => ∃ T, e = .returned (.pointer (some ⟨T, 0, none⟩)) ∧ St w0 (HSet T [] :: L) w' :=
  new_v (zs := []) hs RdS.nil (by simp) rfl rfl
theorem made64 (n : Nat) : madeCells #[Value.int .i64 0] n = (gensV (newA n)).toArray := by
  unfold madeCells gensV newA
  apply Array.toList_inj.1
  apply List.ext_getElem?
  intro i
  by_cases h : i < n
  · simp [h, Nat.mod_one]
  · simp [h]
theorem run_mk64 {n : Nat} (hn : n ≤ 65536) (w : World) : (Instr.makeSlice 25 (.int .i64 (n : Nat)) (.int .i64 (n : Nat))).run Tryz.prog w = .ok (.slice (some ⟨w.heap.size, 0, none⟩) n n) (w.alloc (.cells (gensV (newA n)).toArray 2)) := by
  have hi : (Tryz.prog.info? 2).map (fun i => (i.zero, i.size, i.bytes)) = some (some (.int .i64 0), 1, 8) := by kernel_rfl
  cases hq : Tryz.prog.info? 2 with
  | none => rw [hq] at hi; cases hi
  | some i =>
    rw [hq] at hi
    simp at hi
    obtain ⟨hz, hsz, hby⟩ := hi
    have hr := run_make (P := Tryz.prog) w 25 2 i (.int .i64 0) Tryz.underlying25 hq hz .i64 .i64 (n : Nat) (n : Nat) (by omega) (by omega) (by rw [hby]; omega) (by omega)
    rw [hr, hsz]
    simp only [Int.toNat_natCast, Nat.mul_one]
    rw [show (Value.int IntKind.i64 0).cells = #[Value.int .i64 0] from rfl, made64]
theorem own_of_blk {g n : Nat} {t : TypeId} {cs : List Value} (hn : cs.length = n) (hm : n ≤ maxLen) : ∀ h, blk g cs.toArray t h → own (some ⟨g, 0, none⟩) n n t 1 cs h := fun _ hb =>
  ⟨by omega, .inr ⟨g, cs.toArray, rfl, Nat.le_refl _, hm, by simp [hn], by simp [← hn], hb⟩⟩
theorem St.alloc2 {w0 w : World} {L : List As} (hs : St w0 L w) (cs cs' : Array Value) (t t' : TypeId) : St w0 (YtcnbmfaicbkhcaaGreatDoor.blk (w.heap.size + 1) cs' t' :: YtcnbmfaicbkhcaaGreatDoor.blk w.heap.size cs t :: L) ((w.alloc (.cells cs t)).alloc (.cells cs' t')) := by
  have h := (hs.alloc cs t).alloc cs' t'
  have e : (w.alloc (.cells cs t)).heap.size = w.heap.size + 1 := by simp
  rwa [e] at h
theorem anew_fin {w0 wx : World} {D T1 T2 T3 G n : Nat} {top : Int} {L M : List As} (hn : n ≤ 65536)
    (hs : St w0 (blk D #[.pointer (some ⟨T1, 0, none⟩), .pointer (some ⟨T2, 0, none⟩), .pointer (some ⟨T3, 0, none⟩), .int .i64 top, .slice (some ⟨G, 0, none⟩) n n, .int .i64 0] 191 :: M) wx)
    (hM : Ent M (HSet T1 [] :: HSet T2 [] :: HSet T3 [] :: blk G (gensV (newA n)).toArray 2 :: L)) :
    ∃ D' TF TL TR G, Value.pointer (some ⟨D, 0, none⟩) = .pointer (some ⟨D', 0, none⟩) ∧
      St w0 (blk D' (alC TF TL TR top G n n 0).toArray 191 :: HSet TF [] :: HSet TL [] :: HSet TR [] :: own (some ⟨G, 0, none⟩) n n 2 1 (gensV (newA n)) :: L) wx :=
  ⟨D, T1, T2, T3, G, rfl, hs.ent (Ent.cons _ (hM.trans (Ent.cons _ (Ent.cons _ (Ent.cons _ (Ent.head (own_of_blk (by simp [gensV, newA]) (by unfold maxLen; omega))))))))⟩
attribute [local irreducible] idxS addS okN memS remS errN insS delS nextS stA gnA
set_option maxHeartbeats 1000000 in
theorem anew_c {w0 w : World} {L : List As} (hs : St w0 L w) {n : Nat} {top : Int} (h1 : 1 ≤ n) (h2 : n ≤ 65536) (h3 : 1 ≤ top) (h4 : top ≤ 4294967295) :
    Calls Tryz.prog 176 #[.int .i64 (n : Nat), .int .i64 top] w fun e w' => ∃ D, e = .returned (.tuple #[.pointer (some ⟨D, 0, none⟩), .int .i64 0]) ∧ St w0 (AlB D top (newA n) :: L) w' := by
  go_enter Tryz.func176, Tryz.ntmps176
  go_upto_region 3 with (fail)
  go_cut [6] (fun v wx => ∃ D TF TL TR G, v = .pointer (some ⟨D, 0, none⟩) ∧
    St w0 (blk D (alC TF TL TR top G n n 0).toArray 191 :: HSet TF [] :: HSet TL [] :: HSet TR [] :: own (some ⟨G, 0, none⟩) n n 2 1 (gensV (newA n)) :: L) wx)
  case first =>
    have hmk := run_mk64 h2
    go_region_with (first
      | (go_at_call 242; refine (new0 hs.drew).mono ?_; clear hs; rintro e w' ⟨T, rfl, hs⟩)
      | (go_at_call 242; refine (new0 hs).mono ?_; clear hs; rintro e w' ⟨T, rfl, hs⟩)
      | (go_at_call 242; refine (new0 (hs.drew.alloc _ _)).mono ?_; clear hs; rintro e w' ⟨T, rfl, hs⟩)
      | (go_at_call 242; refine (new0 (hs.alloc _ _)).mono ?_; clear hs; rintro e w' ⟨T, rfl, hs⟩))
    all_goals
      clear hmk
      go_wp2
      go_meet
      first
        | exact anew_fin h2 (hs.alloc2 _ _ _ _) (Ent.step (Ent.skip (Ent.skip (Ent.skip (Ent.refl _)))) (Ent.step (Ent.skip (Ent.skip (Ent.refl _))) (Ent.step (Ent.skip (Ent.refl _)) (Ent.refl _))))
        | exact anew_fin h2 (hs.alloc _ _) (Ent.step (Ent.skip (Ent.skip (Ent.skip (Ent.refl _)))) (Ent.step (Ent.skip (Ent.skip (Ent.refl _))) (Ent.refl _)))
        | exact anew_fin h2 (hs.alloc _ _) (Ent.step (Ent.skip (Ent.skip (Ent.skip (Ent.refl _)))) (Ent.step (Ent.skip (Ent.refl _)) (Ent.step (Ent.refl _) (Ent.refl _))))
        | exact anew_fin h2 (hs.alloc _ _) (Ent.step (Ent.skip (Ent.skip (Ent.refl _))) (Ent.step (Ent.skip (Ent.refl _)) (Ent.step (Ent.refl _) (Ent.refl _))))
        | exact anew_fin h2 (hs.alloc _ _) (Ent.step (Ent.skip (Ent.skip (Ent.refl _))) (Ent.step (Ent.skip (Ent.refl _)) (Ent.refl _)))
  case rest =>
    obtain ⟨D, TF, TL, TR, G, rfl, hs⟩ := hcut
    go_wp2
    go_loopw [32] (fun cv wr => ∃ k : Nat, k ≤ n ∧ cv = .int .i64 (k : Nat) ∧ St w0 (blk D (alC TF TL TR top G n n 0).toArray 191 :: HSet TF (List.range k) :: HSet TL [] :: HSet TR [] :: own (some ⟨G, 0, none⟩) n n 2 1 (gensV (newA n)) :: L) wr) (fun cv _ => n - (intOf cv).toNat)
    case atStart => exact ⟨0, Nat.zero_le _, rfl, hs⟩
    case round =>
      clear hs
      obtain ⟨k, hk, rfl, hs⟩ := hrel
      obtain ⟨d0, _, _, _, _, _⟩ := alRd hs
      by_cases hlt : k < n
      · have hkm : k < 16777216 := by omega
        have HE : Hid (errN (k : Int) = 0) := errN_le hkm
        obtain ⟨b0, HD⟩ : ∃ b, Hid ((okN (k : Int) && !memS (List.range k) (k : Int)) = b) := ⟨_, rfl⟩
        have HA : Hid (addS (List.range k) (k : Int) = List.range (k + 1)) := by rw [Hid, addS_le hkm, ins_range]
        clear hkm
        go_wp2_with (first
          | (go_at_call 243; refine (add_v hs.rot HD HE HA).mono ?_; clear hs d0; rintro e w' ⟨rfl, hs⟩; replace hs := hs.rot))
        go_roundw
        case rel => exact ⟨k + 1, by omega, by go_num, hs⟩
        case measure => simp [intOf] <;> omega
      · obtain rfl : k = n := by omega
        have hok := alOk_new (n := k) h3 h4 (by omega) h2
        have H0 := Lib.hid (idx_new0 k).symm
        have HL : Hid (k = (newA k).length) := by simp [Hid, newA]
        have hs2 : St w0 (blk D (alC TF TL TR top G (newA k).length k (retA (newA k))).toArray 191 :: HSet TF (idxS 0 (newA k)) :: HSet TL (idxS 1 (newA k)) :: HSet TR (idxS 2 (newA k)) :: own (some ⟨G, 0, none⟩) (newA k).length k 2 1 (gensV (newA k)) :: L) wr := by
          rw [idx_new (s := 1) k (by decide), idx_new (s := 2) k (by decide), ← H0.out, ← HL.out]
          unfold retA
          rw [idx_new (s := 9) k (by decide)]
          exact hs
        have hs3 := Lib.hid (hs2.alshut hok)
        clear hs2 H0 HL hs hok
        go_wp2
        go_ret2
        exact ⟨D, rfl, hs3.out⟩
theorem anew_no {w0 w : World} {L : List As} (hs : St w0 L w) {n top : Int} (h : alMay n top = false) :
    Calls Tryz.prog 176 #[.int .i64 n, .int .i64 top] w fun e w' => e = .returned (.tuple #[.pointer none, .int .i64 1]) ∧ St w0 L w' := by
  by_cases h1 : n < 1
  · clear h
    go_enter Tryz.func176, Tryz.ntmps176
    go_wp2
    go_ret2
    exact ⟨rfl, hs⟩
  · by_cases h2 : 65536 < n
    · clear h
      go_enter Tryz.func176, Tryz.ntmps176
      go_wp2
      go_ret2
      exact ⟨rfl, hs⟩
    · by_cases h3 : top < 1
      · clear h
        go_enter Tryz.func176, Tryz.ntmps176
        go_wp2
        go_ret2
        exact ⟨rfl, hs⟩
      · have h4 : 4294967295 < top := by
          unfold alMay at h
          simp at h
          omega
        clear h
        go_enter Tryz.func176, Tryz.ntmps176
        go_wp2
        go_ret2
        exact ⟨rfl, hs⟩
end Go.Proofs.YtcnbmfaicbkhcaaGreatDoor
