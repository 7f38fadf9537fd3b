/-
  Handles (alloc.Alloc): the memory of an Alloc; handle, give, Create, Raise.
-/
import Derived.Test.YtkcbjkadalebjaaDoorAlLaw
import Derived.Test.YtkcbjkadalebjaaDoorHcp3
import Derived.Test.YtkcbjkadalebjaaDoorOnly
import Derived.Deep.DeepCutAuto
import Derived.Deep.CutBlock
set_option maxRecDepth 100000
namespace Go.Proofs.YtkcbjkadalebjaaDoor
open Go Go.RowKit
attribute [local irreducible] wpList Calls Code.wp

/-! ### One assertion out of the list to its head, and back -/
section
variable {w0 w : World} {a b c d e f g : As} {L : List As}
theorem St.up2 (hs : St w0 (a :: b :: c :: L) w) : St w0 (c :: a :: b :: L) w := hs.ent (Ent.pull c [a, b] L)
theorem St.dn2 (hs : St w0 (c :: a :: b :: L) w) : St w0 (a :: b :: c :: L) w := hs.ent (Ent.push c [a, b] L)
theorem St.up3 (hs : St w0 (a :: b :: c :: d :: L) w) : St w0 (d :: a :: b :: c :: L) w := hs.ent (Ent.pull d [a, b, c] L)
theorem St.dn3 (hs : St w0 (d :: a :: b :: c :: L) w) : St w0 (a :: b :: c :: d :: L) w := hs.ent (Ent.push d [a, b, c] L)
theorem St.up4 (hs : St w0 (a :: b :: c :: d :: e :: L) w) : St w0 (e :: a :: b :: c :: d :: L) w := hs.ent (Ent.pull e [a, b, c, d] L)
theorem St.dn4 (hs : St w0 (e :: a :: b :: c :: d :: L) w) : St w0 (a :: b :: c :: d :: e :: L) w := hs.ent (Ent.push e [a, b, c, d] L)
theorem St.up5 (hs : St w0 (a :: b :: c :: d :: e :: f :: L) w) : St w0 (f :: a :: b :: c :: d :: e :: L) w := hs.ent (Ent.pull f [a, b, c, d, e] L)
theorem St.dn5 (hs : St w0 (f :: a :: b :: c :: d :: e :: L) w) : St w0 (a :: b :: c :: d :: e :: f :: L) w := hs.ent (Ent.push f [a, b, c, d, e] L)
theorem St.up6 (hs : St w0 (a :: b :: c :: d :: e :: f :: g :: L) w) : St w0 (g :: a :: b :: c :: d :: e :: f :: L) w := hs.ent (Ent.pull g [a, b, c, d, e, f] L)
theorem St.dn6 (hs : St w0 (g :: a :: b :: c :: d :: e :: f :: L) w) : St w0 (a :: b :: c :: d :: e :: f :: g :: L) w := hs.ent (Ent.push g [a, b, c, d, e, f] L)
end
theorem Ent.pure {x : Prop} {L : List As} : Ent (pur x :: L) L := fun _ h => (star_pur h).2

/-! ### A handle -/
abbrev Hdl := Int × Int
def h2 (h : Hdl) : List Value := [.int .i64 h.1, .int .i64 h.2]
def hv (h : Hdl) : Value := .agg (h2 h).toArray
theorem h2_one (h : Hdl) : ∀ v ∈ h2 h, v.oneCell' = true := by
  intro v hv
  simp [h2] at hv
  rcases hv with rfl | rfl <;> rfl
theorem aggH : aggB Tryd.prog 30 = true := by kernel_rfl
theorem sizeH (h : Hdl) : (Tryd.prog.info? 30).map (·.size) = some (h2 h).length := by kernel_rfl
theorem zeroH : (Tryd.prog.info? 30).bind (·.zero) = some (hv (0, 0)) := by kernel_rfl
theorem build_h0 (w : World) : (Instr.build 30 #[]).run Tryd.prog w = .ok (hv (0, 0)) w := by kernel_rfl
theorem build_h2 (i g : Int) (w : World) : (Instr.build 30 #[(0, .int .i64 i), (1, .int .i64 g)]).run Tryd.prog w = .ok (hv (i, g)) w := by kernel_rfl
theorem WrA.slotH {w0 : World} {s : Nat} {u v : Hdl} {t : TypeId} {L : List As} : WrA w0 (YtkcbjkadalebjaaDoor.blk s (h2 u).toArray t :: L) ⟨s, 0, none⟩ (hv v).cells.toList (YtkcbjkadalebjaaDoor.blk s (h2 v).toArray t :: L) := by
  have := WrA.blk (w0 := w0) (g := s) (o := 0) (cs := h2 u) (t := t) (vs := h2 v) (L := L) (by simp [h2]) (h2_one v)
  rwa [splice_all (by simp [h2])] at this

/-! ### An Alloc -/
def gensV (cs : List ACell) : List Value := cs.map fun c => Value.int .i64 c.2
theorem gensV_len (cs : List ACell) : (gensV cs).length = cs.length := by simp [gensV]
theorem gensV_get {cs : List ACell} {i : Nat} (h : i < cs.length) : (gensV cs)[i]? = some (.int .i64 (gnA cs i)) := by
  simp [gensV, gnA, h]
theorem gensV_set {cs : List ACell} {i s : Nat} {g : Int} : (gensV cs).set i (.int .i64 g) = gensV (cs.set i (s, g)) := by
  unfold gensV
  rw [List.map_set]
def ptr (g : Nat) : Value := .pointer (some ⟨g, 0, none⟩)
def alC (TF TL TR : Nat) (top : Int) (G n cap ret : Nat) : List Value := [ptr TF, ptr TL, ptr TR, .int .i64 top, .slice (some ⟨G, 0, none⟩) n cap, .int .i64 (ret : Nat)]
def AlB (D : Nat) (top : Int) (cs : List ACell) : As := fun h => ∃ TF TL TR G cap, AlOk top cs ∧
  big [YtkcbjkadalebjaaDoor.blk D (alC TF TL TR top G cs.length cap (retA cs)).toArray 63, HSet TF (idxS 0 cs), HSet TL (idxS 1 cs), HSet TR (idxS 2 cs), YtkcbjkadalebjaaDoor.own (some ⟨G, 0, none⟩) cs.length cap 2 1 (gensV cs)] h
theorem St.alopen {w0 w : World} {D : Nat} {top : Int} {cs : List ACell} {L : List As} (hs : St w0 (AlB D top cs :: L) w) : AlOk top cs ∧ ∃ TF TL TR G cap,
    St w0 (YtkcbjkadalebjaaDoor.blk D (alC TF TL TR top G cs.length cap (retA cs)).toArray 63 :: HSet TF (idxS 0 cs) :: HSet TL (idxS 1 cs) :: HSet TR (idxS 2 cs) :: YtkcbjkadalebjaaDoor.own (some ⟨G, 0, none⟩) cs.length cap 2 1 (gensV cs) :: L) w := by
  obtain ⟨hb, x, r, hd, hx, y, z, hyz, e, ⟨TF, TL, TR, G, cap, hok, hh⟩, hz⟩ := hs
  refine ⟨hok, TF, TL, TR, G, cap, ?_⟩
  have h1 : St w0 (big [YtkcbjkadalebjaaDoor.blk D (alC TF TL TR top G cs.length cap (retA cs)).toArray 63, HSet TF (idxS 0 cs), HSet TL (idxS 1 cs), HSet TR (idxS 2 cs), YtkcbjkadalebjaaDoor.own (some ⟨G, 0, none⟩) cs.length cap 2 1 (gensV cs)] :: L) w := ⟨hb, x, r, hd, hx, y, z, hyz, e, hh, hz⟩
  exact h1.ent (Ent.flat _ L)
theorem Ent.unflat : ∀ (M L : List As), Ent (M ++ L) (big M :: L)
  | [], _ => fun _ h => emp_star h
  | _ :: M, L => fun _ h => star_assoc' (star_mono (fun _ y => y) (fun x => Ent.unflat M L x) h)
theorem St.alshut {w0 w : World} {D TF TL TR G cap : Nat} {top : Int} {cs : List ACell} {L : List As} (hok : AlOk top cs)
    (hs : St w0 (YtkcbjkadalebjaaDoor.blk D (alC TF TL TR top G cs.length cap (retA cs)).toArray 63 :: HSet TF (idxS 0 cs) :: HSet TL (idxS 1 cs) :: HSet TR (idxS 2 cs) :: YtkcbjkadalebjaaDoor.own (some ⟨G, 0, none⟩) cs.length cap 2 1 (gensV cs) :: L) w) : St w0 (AlB D top cs :: L) w :=
  (hs.ent (Ent.unflat [_, _, _, _, _] L)).conv fun _ h => ⟨TF, TL, TR, G, cap, hok, h⟩
/-- What the cells of an Alloc hold. -/
theorem alRd {w0 w : World} {D TF TL TR G n cap ret : Nat} {top : Int} {t : TypeId} {L : List As} (hs : St w0 (YtkcbjkadalebjaaDoor.blk D (alC TF TL TR top G n cap ret).toArray t :: L) w) :
    w.cell? ⟨D, 0, none⟩ = some (.pointer (some ⟨TF, 0, none⟩)) ∧ w.cell? ⟨D, 1, none⟩ = some (.pointer (some ⟨TL, 0, none⟩)) ∧ w.cell? ⟨D, 2, none⟩ = some (.pointer (some ⟨TR, 0, none⟩)) ∧
    w.cell? ⟨D, 3, none⟩ = some (.int .i64 top) ∧ w.cell? ⟨D, 4, none⟩ = some (.slice (some ⟨G, 0, none⟩) n cap) ∧ w.cell? ⟨D, 5, none⟩ = some (.int .i64 (ret : Nat)) :=
  ⟨Rd.blk (by rfl) w hs, Rd.blk (by rfl) w hs, Rd.blk (by rfl) w hs, Rd.blk (by rfl) w hs, Rd.blk (by rfl) w hs, Rd.blk (by rfl) w hs⟩
set_option maxHeartbeats 400000 in
theorem handle_c {w0 w : World} {L : List As} {D : Nat} {top : Int} {cs : List ACell} (hs : St w0 (AlB D top cs :: L) w) {i : Nat} (hi : i < cs.length) {g : Int} (hgn : Hid (gnA cs i = g)) :
    Calls Tryd.prog 41 #[.pointer (some ⟨D, 0, none⟩), .int .i64 (i : Nat)] w fun e w' => e = .returned (hv ((i : Int), g)) ∧ Grew w w' := by
  obtain ⟨hok, TF, TL, TR, G, cap, hs⟩ := hs.alopen
  have hg := Rd.own (gensV_get hi) _ hs.up4
  rw [hgn.out] at hg
  obtain ⟨_, _, _, _, d4, _⟩ := alRd hs
  have hlen : cs.length ≤ 65536 := hok.few
  have hcap := hs.up4.own_len
  generalize cs.length = n at *
  clear hok hgn
  go_enter Tryd.func41, Tryd.ntmps41
  go_upto_region 1 with (fail)
  have hw := (St.start w).alloc (h2 (0, 0)).toArray 30
  generalize w.heap.size = g4 at hw ⊢
  refine wp_gen hw ?_
  clear hw
  intro w1 hw
  replace hg := hw.made_grew.cell hg
  replace d4 := hw.made_grew.cell d4
  go_wp2_with (first
    | (refine wpl_buildS (build_h2 _ _) rfl ?_)
    | (refine wpl_store_agg (v := hv ((i : Int), g)) rfl rfl (sizeH _) hw WrA.slotH ?_; clear hw; intro w3 hw))
  refine bodyPost_at (results_cell1 Tryd.results41 rfl (hw.slot_run aggH (sizeH _))) rfl ?_
  exact ⟨rfl, hw.made_grew⟩
/-- What a give answers. -/
def giveV (s : Nat) (cs : List ACell) : Hdl × Int × List ACell := match idxS 0 cs with
  | i :: _ => (((i : Int), gnA cs i + 1), 0, cs.set i (s, gnA cs i + 1))
  | [] => ((0, 0), if 0 < (idxS 1 cs).length + (idxS 2 cs).length then 6 else 7, cs)
theorem giveV_some {s i : Nat} {l : List Nat} {cs : List ACell} (h : idxS 0 cs = i :: l) : giveV s cs = (((i : Int), gnA cs i + 1), 0, cs.set i (s, gnA cs i + 1)) := by unfold giveV; rw [h]
theorem giveV_none {s : Nat} {cs : List ACell} (h : idxS 0 cs = []) : giveV s cs = ((0, 0), if 0 < (idxS 1 cs).length + (idxS 2 cs).length then 6 else 7, cs) := by unfold giveV; rw [h]
theorem idx_head {s i : Nat} {l : List Nat} {cs : List ACell} (h : idxS s cs = i :: l) : i < cs.length ∧ stA cs i = s := mem_idxS.1 (by rw [h]; exact List.mem_cons_self)
theorem size_i64 : (Tryd.prog.info? 2).map (·.size) = some 1 := by kernel_rfl
theorem memS_nat' {S : List Nat} {i : Nat} (h : i ∈ S) : memS S (i : Int) = true := memS_nat.2 h
theorem remS_le {S : List Nat} {i : Nat} (h : i < 16777216) : remS S (i : Int) = delS i S := by unfold remS okN; rw [if_pos (decide_eq_true ⟨by omega, by omega⟩)]; simp
theorem errN_le {i : Nat} (h : i < 16777216) : errN (i : Int) = 0 := by unfold errN okN; rw [if_pos (decide_eq_true ⟨by omega, by omega⟩)]
theorem addS_le {S : List Nat} {i : Nat} (h : i < 16777216) : addS S (i : Int) = insS i S := by unfold addS okN; rw [if_pos (decide_eq_true ⟨by omega, by omega⟩)]; simp
attribute [local irreducible] idxS addS okN memS remS errN insS delS nextS stA gnA
set_option maxHeartbeats 1000000 in
theorem give1 {w0 w : World} {L : List As} {D TF TL TR G cap : Nat} {top : Int} {cs : List ACell} (hT : Tab w0) (hok : AlOk top cs)
    (hs : St w0 (blk D (alC TF TL TR top G cs.length cap (retA cs)).toArray 63 :: HSet TF (idxS 0 cs) :: HSet TL (idxS 1 cs) :: HSet TR (idxS 2 cs) :: own (some ⟨G, 0, none⟩) cs.length cap 2 1 (gensV cs) :: L) w)
    {v : Hdl} {x : Int} {c : List ACell} (HV : Hid (giveV 1 cs = (v, x, c))) :
    Calls Tryd.prog 31 #[.pointer (some ⟨D, 0, none⟩), .pointer (some ⟨TL, 0, none⟩)] w fun e w' => e = .returned (.tuple #[hv v, .int .i64 x]) ∧ St w0 (AlB D top c :: L) w' := by
  obtain ⟨hok, hs⟩ : AlOk top cs ∧ St w0 (blk D (alC TF TL TR top G cs.length cap (retA cs)).toArray 63 :: HSet TF (idxS 0 cs) :: HSet TL (idxS 1 cs) :: HSet TR (idxS 2 cs) :: own (some ⟨G, 0, none⟩) cs.length cap 2 1 (gensV cs) :: L) w := ⟨hok, hs⟩
  have hfew := hok.few
  cases hF : idxS 0 cs with
  | nil =>
    have HNX : Hid (nextS (idxS 0 cs) 0 = -1) := by rw [Hid, next_idx, hF]
    rw [giveV_none hF] at HV
    obtain ⟨l1, HL1⟩ : ∃ x, Hid ((idxS 1 cs).length = x) := ⟨_, rfl⟩
    obtain ⟨l2, HL2⟩ : ∃ x, Hid ((idxS 2 cs).length = x) := ⟨_, rfl⟩
    have hl1 : l1 ≤ 65536 := by have := idx_len 1 cs; rw [HL1.out] at this; omega
    have hl2 : l2 ≤ 65536 := by have := idx_len 2 cs; rw [HL2.out] at this; omega
    rw [HL1.out, HL2.out] at HV
    clear hF
    go_enter Tryd.func31, Tryd.ntmps31
    go_upto_region 4 with (first
      | (refine wpl_alloc zeroH hs ?_; clear hs; intro g4 w hs; replace hs : St w0 (blk g4 (h2 (0, 0)).toArray 30 :: _) w := hs; obtain ⟨d0, d1, d2, d3, d4, d5⟩ := alRd hs.rot)
      | (go_at_call 50; refine (next_v hs.up2 (hT.grew hs.below) HNX).mono ?_; clear d0 d1 d2 d3 d4 d5; rintro e w' ⟨rfl, hg⟩; replace hs := hs.grew hg; clear hg; obtain ⟨d0, d1, d2, d3, d4, d5⟩ := alRd hs.rot))
    refine wp_region_grow (by kernel_rfl) (by kernel_rfl) fun hne => ?_
    have g1 := fun p : GW _ => p.grew.cell d1
    have g2 := fun p : GW _ => p.grew.cell d2
    repeat (go_big_quiet_step ((first
      | (go_at_call 35; exact in_gsame (hlen_v (hs.up3.grew (GW.grew _)) HL1))
      | (go_at_call 35; exact in_gsame (hlen_v (hs.up4.grew (GW.grew _)) HL2)))))
    refine wpQuiet_nil ?_
    clear hne g1 g2 d0 d1 d2 d3 d4 d5
    intro u hu
    replace hs := hs.grew hu
    clear hu
    by_cases hc : 0 < l1 + l2
    · rw [if_pos hc] at HV
      go_wp2_with (first
        | (refine wpl_buildS (parts := []) build_h0 rfl ?_)
        | (refine wpl_store_agg (v := hv (0, 0)) rfl rfl (sizeH _) hs WrA.slotH ?_; clear hs; intro w3 hs))
      refine bodyPost_at (results_cell_tmp Tryd.results31 rfl (hs.slot_run aggH (sizeH _))) rfl ?_
      cases HV.out
      exact ⟨rfl, hs.drop.alshut hok⟩
    · rw [if_neg hc] at HV
      go_wp2_with (first
        | (refine wpl_buildS (parts := []) build_h0 rfl ?_)
        | (refine wpl_store_agg (v := hv (0, 0)) rfl rfl (sizeH _) hs WrA.slotH ?_; clear hs; intro w3 hs))
      refine bodyPost_at (results_cell_tmp Tryd.results31 rfl (hs.slot_run aggH (sizeH _))) rfl ?_
      cases HV.out
      exact ⟨rfl, hs.drop.alshut hok⟩
  | cons i l =>
    have HNX : Hid (nextS (idxS 0 cs) 0 = ((i : Nat) : Int)) := by rw [Hid, next_idx, hF]
    obtain ⟨hi, hst⟩ := idx_head hF
    rw [giveV_some hF] at HV
    have hgb := hok.gen0 i hi
    have hgt := hok.free i hi hst
    have htop := hok.top2
    obtain ⟨g, hg⟩ : ∃ g, gnA cs i = g := ⟨_, rfl⟩
    obtain ⟨cs', hcs'⟩ : ∃ c, c = cs.set i (1, g + 1) := ⟨_, rfl⟩
    rw [hg] at hgb hgt HV
    rw [← hcs'] at HV
    have hok' : AlOk top cs' := hcs' ▸ hok.set hi (by omega) (by omega) (fun h => absurd h (by decide))
    have him : i < 16777216 := by omega
    have HM : Hid (memS (idxS 0 cs) (i : Int) = true) := memS_nat' (mem_idxS.2 ⟨hi, hst⟩)
    have HE : Hid (errN (i : Int) = 0) := errN_le him
    have HR : Hid (remS (idxS 0 cs) (i : Int) = idxS 0 cs') := by rw [Hid, remS_le him, hcs', idxS_out hi (by decide)]
    obtain ⟨b0, HD⟩ : ∃ b, Hid ((okN (i : Int) && !memS (idxS 1 cs) (i : Int)) = b) := ⟨_, rfl⟩
    have HA : Hid (addS (idxS 1 cs) (i : Int) = idxS 1 cs') := by rw [Hid, addS_le him, hcs', idxS_in hi]
    have HO : Hid (idxS (3 - 1) cs = idxS (3 - 1) cs') := by rw [Hid, hcs', idxS_off hi (by decide) (by rw [hst]; decide)]
    have HRt : Hid (retA cs = retA cs') := by rw [Hid]; unfold retA; rw [hcs', idxS_off hi (by decide) (by rw [hst]; decide)]
    have HLn : Hid (cs'.length = cs.length) := by rw [Hid, hcs', List.length_set]
    have HG : Hid ((gensV cs).set i (.int .i64 (g + 1)) = gensV cs') := by rw [Hid, hcs', gensV_set]
    have HGN : Hid (gnA cs' i = g + 1) := by rw [Hid, hcs', gnA_set hi, if_pos rfl]
    have hgl : i < (gensV cs).length := by rw [gensV_len]; exact hi
    have hgv := gensV_get hi
    rw [hg] at hgv
    have HGV := Lib.hid hgv
    have hi2 : i < cs'.length := by rw [HLn.out]; exact hi
    clear hF hst hg hcs' hok hgv
    have hnl := hs.up4.own_len
    go_enter Tryd.func31, Tryd.ntmps31
    go_wp2_with (first
      | (refine wpl_alloc zeroH hs ?_; clear hs; intro g4 w hs; replace hs : St w0 (blk g4 (h2 (0, 0)).toArray 30 :: _) w := hs; obtain ⟨d0, d1, d2, d3, d4, d5⟩ := alRd hs.rot)
      | (go_at_call 50; refine (next_v hs.up2 (hT.grew hs.below) HNX).mono ?_; clear d0 d1 d2 d3 d4 d5; rintro e w' ⟨rfl, hg⟩; replace hs := hs.grew hg; clear hg; obtain ⟨d0, d1, d2, d3, d4, d5⟩ := alRd hs.rot)
      | (go_at_call 32; refine (remove_v hs.up2 HM HE HR).mono ?_; clear hs d0 d1 d2 d3 d4 d5; rintro e w' ⟨rfl, hs⟩; replace hs := hs.dn2; obtain ⟨d0, d1, d2, d3, d4, d5⟩ := alRd hs.rot)
      | (go_at_call 30; refine (add_v hs.up3 HD HE HA).mono ?_; clear hs d0 d1 d2 d3 d4 d5; rintro e w' ⟨rfl, hs⟩; replace hs := hs.dn3; obtain ⟨d0, d1, d2, d3, d4, d5⟩ := alRd hs.rot; have dg := Rd.own HGV.out _ hs.up5)
      | (refine wpl_store (ad := ⟨G, i, none⟩) (v := .int .i64 (g + 1)) rfl rfl rfl size_i64 hs.up5 (Wr.own hgl) ?_; clear hs d0 d1 d2 d3 d4 d5 dg; intro w3 hs; rw [HG.out] at hs; replace hs := hs.dn5.dn5; rw [HRt.out, HO.out, ← HLn.out] at hs; replace hs := (hs.alshut hok').rot)
      | (go_at_call 41; refine (handle_c hs.rot hi2 HGN).mono ?_; rintro e w' ⟨rfl, hg⟩; replace hs := hs.grew hg; clear hg)
      | (refine wpl_store_agg (v := hv ((i : Int), g + 1)) rfl rfl (sizeH _) hs WrA.slotH ?_; clear hs; intro w3 hs))
    refine bodyPost_at (results_cell_tmp Tryd.results31 rfl (hs.slot_run aggH (sizeH _))) rfl ?_
    cases HV.out
    exact ⟨rfl, hs.drop⟩
set_option maxHeartbeats 1000000 in
theorem give2 {w0 w : World} {L : List As} {D TF TL TR G cap : Nat} {top : Int} {cs : List ACell} (hT : Tab w0) (hok : AlOk top cs)
    (hs : St w0 (blk D (alC TF TL TR top G cs.length cap (retA cs)).toArray 63 :: HSet TF (idxS 0 cs) :: HSet TL (idxS 1 cs) :: HSet TR (idxS 2 cs) :: own (some ⟨G, 0, none⟩) cs.length cap 2 1 (gensV cs) :: L) w)
    {v : Hdl} {x : Int} {c : List ACell} (HV : Hid (giveV 2 cs = (v, x, c))) :
    Calls Tryd.prog 31 #[.pointer (some ⟨D, 0, none⟩), .pointer (some ⟨TR, 0, none⟩)] w fun e w' => e = .returned (.tuple #[hv v, .int .i64 x]) ∧ St w0 (AlB D top c :: L) w' := by
  obtain ⟨hok, hs⟩ : AlOk top cs ∧ St w0 (blk D (alC TF TL TR top G cs.length cap (retA cs)).toArray 63 :: HSet TF (idxS 0 cs) :: HSet TL (idxS 1 cs) :: HSet TR (idxS 2 cs) :: own (some ⟨G, 0, none⟩) cs.length cap 2 1 (gensV cs) :: L) w := ⟨hok, hs⟩
  have hfew := hok.few
  cases hF : idxS 0 cs with
  | nil =>
    have HNX : Hid (nextS (idxS 0 cs) 0 = -1) := by rw [Hid, next_idx, hF]
    rw [giveV_none hF] at HV
    obtain ⟨l1, HL1⟩ : ∃ x, Hid ((idxS 1 cs).length = x) := ⟨_, rfl⟩
    obtain ⟨l2, HL2⟩ : ∃ x, Hid ((idxS 2 cs).length = x) := ⟨_, rfl⟩
    have hl1 : l1 ≤ 65536 := by have := idx_len 1 cs; rw [HL1.out] at this; omega
    have hl2 : l2 ≤ 65536 := by have := idx_len 2 cs; rw [HL2.out] at this; omega
    rw [HL1.out, HL2.out] at HV
    clear hF
    go_enter Tryd.func31, Tryd.ntmps31
    go_upto_region 4 with (first
      | (refine wpl_alloc zeroH hs ?_; clear hs; intro g4 w hs; replace hs : St w0 (blk g4 (h2 (0, 0)).toArray 30 :: _) w := hs; obtain ⟨d0, d1, d2, d3, d4, d5⟩ := alRd hs.rot)
      | (go_at_call 50; refine (next_v hs.up2 (hT.grew hs.below) HNX).mono ?_; clear d0 d1 d2 d3 d4 d5; rintro e w' ⟨rfl, hg⟩; replace hs := hs.grew hg; clear hg; obtain ⟨d0, d1, d2, d3, d4, d5⟩ := alRd hs.rot))
    refine wp_region_grow (by kernel_rfl) (by kernel_rfl) fun hne => ?_
    have g1 := fun p : GW _ => p.grew.cell d1
    have g2 := fun p : GW _ => p.grew.cell d2
    repeat (go_big_quiet_step ((first
      | (go_at_call 35; exact in_gsame (hlen_v (hs.up3.grew (GW.grew _)) HL1))
      | (go_at_call 35; exact in_gsame (hlen_v (hs.up4.grew (GW.grew _)) HL2)))))
    refine wpQuiet_nil ?_
    clear hne g1 g2 d0 d1 d2 d3 d4 d5
    intro u hu
    replace hs := hs.grew hu
    clear hu
    by_cases hc : 0 < l1 + l2
    · rw [if_pos hc] at HV
      go_wp2_with (first
        | (refine wpl_buildS (parts := []) build_h0 rfl ?_)
        | (refine wpl_store_agg (v := hv (0, 0)) rfl rfl (sizeH _) hs WrA.slotH ?_; clear hs; intro w3 hs))
      refine bodyPost_at (results_cell_tmp Tryd.results31 rfl (hs.slot_run aggH (sizeH _))) rfl ?_
      cases HV.out
      exact ⟨rfl, hs.drop.alshut hok⟩
    · rw [if_neg hc] at HV
      go_wp2_with (first
        | (refine wpl_buildS (parts := []) build_h0 rfl ?_)
        | (refine wpl_store_agg (v := hv (0, 0)) rfl rfl (sizeH _) hs WrA.slotH ?_; clear hs; intro w3 hs))
      refine bodyPost_at (results_cell_tmp Tryd.results31 rfl (hs.slot_run aggH (sizeH _))) rfl ?_
      cases HV.out
      exact ⟨rfl, hs.drop.alshut hok⟩
  | cons i l =>
    have HNX : Hid (nextS (idxS 0 cs) 0 = ((i : Nat) : Int)) := by rw [Hid, next_idx, hF]
    obtain ⟨hi, hst⟩ := idx_head hF
    rw [giveV_some hF] at HV
    have hgb := hok.gen0 i hi
    have hgt := hok.free i hi hst
    have htop := hok.top2
    obtain ⟨g, hg⟩ : ∃ g, gnA cs i = g := ⟨_, rfl⟩
    obtain ⟨cs', hcs'⟩ : ∃ c, c = cs.set i (2, g + 1) := ⟨_, rfl⟩
    rw [hg] at hgb hgt HV
    rw [← hcs'] at HV
    have hok' : AlOk top cs' := hcs' ▸ hok.set hi (by omega) (by omega) (fun h => absurd h (by decide))
    have him : i < 16777216 := by omega
    have HM : Hid (memS (idxS 0 cs) (i : Int) = true) := memS_nat' (mem_idxS.2 ⟨hi, hst⟩)
    have HE : Hid (errN (i : Int) = 0) := errN_le him
    have HR : Hid (remS (idxS 0 cs) (i : Int) = idxS 0 cs') := by rw [Hid, remS_le him, hcs', idxS_out hi (by decide)]
    obtain ⟨b0, HD⟩ : ∃ b, Hid ((okN (i : Int) && !memS (idxS 2 cs) (i : Int)) = b) := ⟨_, rfl⟩
    have HA : Hid (addS (idxS 2 cs) (i : Int) = idxS 2 cs') := by rw [Hid, addS_le him, hcs', idxS_in hi]
    have HO : Hid (idxS (3 - 2) cs = idxS (3 - 2) cs') := by rw [Hid, hcs', idxS_off hi (by decide) (by rw [hst]; decide)]
    have HRt : Hid (retA cs = retA cs') := by rw [Hid]; unfold retA; rw [hcs', idxS_off hi (by decide) (by rw [hst]; decide)]
    have HLn : Hid (cs'.length = cs.length) := by rw [Hid, hcs', List.length_set]
    have HG : Hid ((gensV cs).set i (.int .i64 (g + 1)) = gensV cs') := by rw [Hid, hcs', gensV_set]
    have HGN : Hid (gnA cs' i = g + 1) := by rw [Hid, hcs', gnA_set hi, if_pos rfl]
    have hgl : i < (gensV cs).length := by rw [gensV_len]; exact hi
    have hgv := gensV_get hi
    rw [hg] at hgv
    have HGV := Lib.hid hgv
    have hi2 : i < cs'.length := by rw [HLn.out]; exact hi
    clear hF hst hg hcs' hok hgv
    have hnl := hs.up4.own_len
    go_enter Tryd.func31, Tryd.ntmps31
    go_wp2_with (first
      | (refine wpl_alloc zeroH hs ?_; clear hs; intro g4 w hs; replace hs : St w0 (blk g4 (h2 (0, 0)).toArray 30 :: _) w := hs; obtain ⟨d0, d1, d2, d3, d4, d5⟩ := alRd hs.rot)
      | (go_at_call 50; refine (next_v hs.up2 (hT.grew hs.below) HNX).mono ?_; clear d0 d1 d2 d3 d4 d5; rintro e w' ⟨rfl, hg⟩; replace hs := hs.grew hg; clear hg; obtain ⟨d0, d1, d2, d3, d4, d5⟩ := alRd hs.rot)
      | (go_at_call 32; refine (remove_v hs.up2 HM HE HR).mono ?_; clear hs d0 d1 d2 d3 d4 d5; rintro e w' ⟨rfl, hs⟩; replace hs := hs.dn2; obtain ⟨d0, d1, d2, d3, d4, d5⟩ := alRd hs.rot)
      | (go_at_call 30; refine (add_v hs.up4 HD HE HA).mono ?_; clear hs d0 d1 d2 d3 d4 d5; rintro e w' ⟨rfl, hs⟩; replace hs := hs.dn4; obtain ⟨d0, d1, d2, d3, d4, d5⟩ := alRd hs.rot; have dg := Rd.own HGV.out _ hs.up5)
      | (refine wpl_store (ad := ⟨G, i, none⟩) (v := .int .i64 (g + 1)) rfl rfl rfl size_i64 hs.up5 (Wr.own hgl) ?_; clear hs d0 d1 d2 d3 d4 d5 dg; intro w3 hs; rw [HG.out] at hs; replace hs := hs.dn5.dn5; rw [HRt.out, HO.out, ← HLn.out] at hs; replace hs := (hs.alshut hok').rot)
      | (go_at_call 41; refine (handle_c hs.rot hi2 HGN).mono ?_; rintro e w' ⟨rfl, hg⟩; replace hs := hs.grew hg; clear hg)
      | (refine wpl_store_agg (v := hv ((i : Int), g + 1)) rfl rfl (sizeH _) hs WrA.slotH ?_; clear hs; intro w3 hs))
    refine bodyPost_at (results_cell_tmp Tryd.results31 rfl (hs.slot_run aggH (sizeH _))) rfl ?_
    cases HV.out
    exact ⟨rfl, hs.drop⟩
set_option maxHeartbeats 1000000 in
theorem create_c {w0 w : World} {L : List As} {D : Nat} {top : Int} {cs : List ACell} (hT : Tab w0) (hs : St w0 (AlB D top cs :: L) w) {v : Hdl} {x : Int} {c : List ACell} (HV : Hid (giveV 1 cs = (v, x, c))) :
    Calls Tryd.prog 9 #[.pointer (some ⟨D, 0, none⟩)] w fun e w' => e = .returned (.tuple #[hv v, .int .i64 x]) ∧ St w0 (AlB D top c :: L) w' := by
  obtain ⟨hok, TF, TL, TR, G, cap, hs⟩ := hs.alopen
  obtain ⟨d0, d1, d2, d3, d4, d5⟩ := alRd hs
  go_enter Tryd.func9, Tryd.ntmps9
  go_wp2_with (first
    | (refine wpl_alloc zeroH hs ?_; clear hs d0 d1 d2 d3 d4 d5; intro g4 w hs; replace hs : St w0 (blk g4 (h2 (0, 0)).toArray 30 :: _) w := hs; obtain ⟨d0, d1, d2, d3, d4, d5⟩ := alRd hs.rot)
    | (go_at_call 31; refine (give1 hT hok hs.dn5 HV).mono ?_; clear hs d0 d1 d2 d3 d4 d5; rintro e w' ⟨rfl, hs⟩; replace hs := hs.rot)
    | (refine wpl_store_agg (v := hv v) rfl rfl (sizeH _) hs WrA.slotH ?_; clear hs; intro w3 hs))
  refine bodyPost_at (results_cell_tmp Tryd.results9 rfl (hs.slot_run aggH (sizeH _))) rfl ?_
  exact ⟨rfl, hs.drop⟩
set_option maxHeartbeats 1000000 in
theorem raise_c {w0 w : World} {L : List As} {D : Nat} {top : Int} {cs : List ACell} (hT : Tab w0) (hs : St w0 (AlB D top cs :: L) w) {v : Hdl} {x : Int} {c : List ACell} (HV : Hid (giveV 2 cs = (v, x, c))) :
    Calls Tryd.prog 15 #[.pointer (some ⟨D, 0, none⟩)] w fun e w' => e = .returned (.tuple #[hv v, .int .i64 x]) ∧ St w0 (AlB D top c :: L) w' := by
  obtain ⟨hok, TF, TL, TR, G, cap, hs⟩ := hs.alopen
  obtain ⟨d0, d1, d2, d3, d4, d5⟩ := alRd hs
  go_enter Tryd.func15, Tryd.ntmps15
  go_wp2_with (first
    | (refine wpl_alloc zeroH hs ?_; clear hs d0 d1 d2 d3 d4 d5; intro g4 w hs; replace hs : St w0 (blk g4 (h2 (0, 0)).toArray 30 :: _) w := hs; obtain ⟨d0, d1, d2, d3, d4, d5⟩ := alRd hs.rot)
    | (go_at_call 31; refine (give2 hT hok hs.dn5 HV).mono ?_; clear hs d0 d1 d2 d3 d4 d5; rintro e w' ⟨rfl, hs⟩; replace hs := hs.rot)
    | (refine wpl_store_agg (v := hv v) rfl rfl (sizeH _) hs WrA.slotH ?_; clear hs; intro w3 hs))
  refine bodyPost_at (results_cell_tmp Tryd.results15 rfl (hs.slot_run aggH (sizeH _))) rfl ?_
  exact ⟨rfl, hs.drop⟩
end Go.Proofs.YtkcbjkadalebjaaDoor
