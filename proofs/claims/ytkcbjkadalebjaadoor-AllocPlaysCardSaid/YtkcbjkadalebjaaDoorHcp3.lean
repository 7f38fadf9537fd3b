/-
  The contract of a set's Copy.
-/
import Derived.Test.YtkcbjkadalebjaaDoorHcp2
set_option maxRecDepth 100000
namespace Go.Proofs.YtkcbjkadalebjaaDoor
open Go Go.RowKit
attribute [local irreducible] wpList Calls Code.wp

theorem build_set_f (f : Nat → Value) (n : Int) (w : World) : (Instr.build 87 #[(0, .agg ((List.range 65).map f).toArray), (1, .int .i64 n)]).run Tryd.prog w = .ok (.agg ((List.range 65).map f ++ [Value.int .i64 n]).toArray) w := by kernel_rfl
theorem list_f (cs : List Value) {n : Nat} (h : cs.length = n) : (List.range n).map (fun i => cs.getD i undef) = cs := by
  subst h
  apply List.ext_getElem (by simp)
  intro i h1 h2
  simp [List.getD, h2]
theorem build_set2 {cs : List Value} (h : cs.length = 65) (n : Int) (w : World) : (Instr.build 87 #[(0, .agg cs.toArray), (1, .int .i64 n)]).run Tryd.prog w = .ok (.agg (cs ++ [Value.int .i64 n]).toArray) w := by
  have e := build_set_f (fun i => cs.getD i undef) n w
  rwa [list_f cs h] at e
theorem agg_node : (match Tryd.prog.underlying 85 with | some (.struct _) | some (.array _ _) => true | _ => false) = true := by kernel_rfl
theorem size_node : (Tryd.prog.info? 85).map (·.size) = some 65 := by kernel_rfl
theorem copy_shut {w0 w : World} {T T' c : Nat} {S : List Nat} {ks ks' : List Key} {G G' : Key → Option Nat} {W : Key → Nat} (hf : Fits T S ks G W) (h : Cop G 3 0 64 ks' G')
    (hs : St w0 (blk T' (cellsN G' W 3 0 ++ [Value.int .i64 (S.length : Nat)]).toArray 87 :: blk c (cellsN G' W 3 0).toArray 85 :: ks'.map (ndBlk G' W 0)) w) : St w0 [HSet T' S] w := by
  have h1 := hs.rot.drop
  have e : blk T' (cellsN G' W 3 0 ++ [Value.int .i64 (S.length : Nat)]).toArray 87 :: ks'.map (ndBlk G' W 0) = ((3, 0) :: ks').map (ndBlk (upd G' (3, 0) (some T')) W S.length) := by
    rw [List.map_cons, List.map_congr_left (h.top_rest (T' := T') (W := W) (n := S.length))]
    unfold ndBlk nodeTy
    rw [Cop.top_cells, upd_same]
    rfl
  rw [e] at h1
  exact h1.ent fun x hx => star_comm (emp_star ⟨_, _, _, h.fits hf, hx⟩)
theorem copy_h {w0 w : World} {L : List As} {T : Nat} {S : List Nat} (hs : St w0 (HSet T S :: L) w) :
    Calls Tryd.prog 54 #[.pointer (some ⟨T, 0, none⟩)] w fun e w' => ∃ T', e = .returned (.pointer (some ⟨T', 0, none⟩)) ∧ St w [HSet T' S] w' := by
  obtain ⟨ks, G, W, hf, hs⟩ := hs.hopen
  have hk : (3, 0) ∈ ks := (hf.mem _).2 (by rw [hf.top]; exact Option.some_ne_none T)
  have hrn := Rd.tbl_n (w0 := w0) (L := L) (W := W) (n := S.length) hk hf.top
  have HC := Lib.hid (copy_all (w0 := w0) (L := L) (W := W) (n := S.length) hf.mem hf.up 3 0 T (Nat.le_refl 3) hf.top)
  have HF := Lib.hid hf
  obtain ⟨n, HN⟩ : ∃ n : Nat, Hid (S.length = n) := ⟨_, rfl⟩
  rw [HN.out] at hrn hs HC
  have hm := St.start w
  clear hk hf
  go_enter Tryd.func54, Tryd.ntmps54
  go_wp2
  refine wp_region_chain [false, false, false, true, true, true, false, false, false, false, true, true, true] (by kernel_rfl) (by kernel_rfl) ?_
  intro wb hb
  have hne : Nonempty (GW wb) := ⟨⟨wb, Grew.refl _⟩⟩
  replace hs := hs.grew hb
  replace hm := hm.grew hb
  have hc1 := hrn.gall hs
  clear hb
  simp only [pickOps]
  repeat (go_big_quiet_step (fail))
  refine wpQuiet_nil ?_
  clear hne hc1
  intro u hu
  replace hs := hs.grew hu
  replace hm := hm.grew hu
  clear hu
  simp only [chainIx]
  refine wpChain_next rfl ?_
  go_wp2_with (first
    | (go_at_call 58; refine (HC.out _ hs).mono ?_; rintro e w2 ⟨c2, ks2, G2, rfl, h2, hm2⟩))
  refine ⟨hm2.made_grew, ?_⟩
  intro u2 hu2
  have hm0 := hm
  replace hm := hm2.grew hu2
  obtain ⟨cs, hcs⟩ : ∃ cs, Hid (cs = cellsN G2 W 3 0) := ⟨_, rfl⟩
  have hcl : cs.length = 65 := by rw [hcs.out, cellsN_len]
  rw [← hcs.out] at hm
  have hrd : ∀ j v, cs[j]? = some v → Rd u (blk c2 cs.toArray 85 :: ks2.map (ndBlk G2 W 0)) ⟨c2, 0 + j, none⟩ v := fun j v hj => by rw [Nat.zero_add]; exact Rd.blk (by simpa using hj)
  clear hs hm2 hu2
  refine wpChain_next rfl ?_
  go_wp2
  refine ⟨Grew.refl _, ?_⟩
  intro u3 hu3
  replace hm := hm.grew hu3
  refine wpChain_next rfl ?_
  refine wpl_load_agg (cs := cs) rfl agg_node (by rw [size_node, hcl]) hm hrd ?_
  refine wpList_nil ⟨rfl, Grew.refl _, ?_⟩
  intro u4 hu4
  replace hm := hm.grew hu4
  refine wpChain_next rfl ?_
  refine wpl_buildS (build_set2 hcl n) rfl ?_
  refine wpList_nil ⟨rfl, Grew.refl _, ?_⟩
  intro u5 hu5
  replace hm := hm.grew hu5
  refine wpChain_next rfl ?_
  refine wpl_box_v (v := .agg (cs ++ [Value.int .i64 n]).toArray) rfl (St.start u5) ?_
  intro T' w6 hm6
  refine wpList_nil ⟨rfl, hm6.made_grew, ?_⟩
  intro w7 hw7
  have hfin := (hm0.mades (hm.mades hm6)).grew hw7
  rw [hcs.out, ← HN.out, List.append_nil] at hfin
  replace hfin := copy_shut HF.out h2 hfin
  clear hm0 hm hm6 hw7 hrd HC HF hrn h2
  refine wpChain_last rfl ?_
  simp only [Act.put, List.setIfInBounds_toArray, List.set_cons_succ, List.set_cons_zero]
  go_wp2
  go_ret
  exact ⟨T', rfl, hfin⟩
end Go.Proofs.YtkcbjkadalebjaaDoor
