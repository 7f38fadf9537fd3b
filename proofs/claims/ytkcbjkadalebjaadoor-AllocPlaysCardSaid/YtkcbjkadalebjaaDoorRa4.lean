/-
  The document's Alloc (vivariumref5), 4: take, Create, Raise.
-/
import Derived.Test.YtkcbjkadalebjaaDoorRa3
set_option maxRecDepth 100000
namespace Go.Proofs.YtkcbjkadalebjaaDoor
open Go Go.RowKit
attribute [local irreducible] wpList Calls Code.wp

/-- How far the search for a free index has come. -/
structure TkI (c : List ACell) (i : Nat) (u : Bool) : Prop where
  le : i ≤ c.length
  no : ∀ j, j < i → stA c j ≠ 0
  used : u = true ↔ ∃ j, j < i ∧ stA c j ≠ 9
theorem tkI_start (c : List ACell) : TkI c 0 false := ⟨Nat.zero_le _, fun j h => absurd h (Nat.not_lt_zero j), ⟨fun h => (nomatch h), fun ⟨j, h, _⟩ => absurd h (Nat.not_lt_zero j)⟩⟩
theorem TkI.next {c : List ACell} {i : Nat} {u : Bool} (h : TkI c i u) (hi : i < c.length) (h0 : stA c i ≠ 0) : TkI c (i + 1) (u || !decide (stA c i = 9)) where
  le := hi
  no j hj := by
    rcases Nat.lt_or_ge j i with h1 | h1
    · exact h.no j h1
    · obtain rfl : j = i := by omega
      exact h0
  used := by
    rw [Bool.or_eq_true, h.used]
    constructor
    · rintro (⟨j, h1, h2'⟩ | h1)
      · exact ⟨j, by omega, h2'⟩
      · exact ⟨i, by omega, by simpa using h1⟩
    · rintro ⟨j, h1, h2'⟩
      rcases Nat.lt_or_ge j i with h3 | h3
      · exact .inl ⟨j, h3, h2'⟩
      · obtain rfl : j = i := by omega
        exact .inr (by simpa using h2')
theorem TkI.take {n s i : Nat} {c : List ACell} {u : Bool} {g : Int} (h : TkI c i u) (hf : c.length ≤ n) (hi : i < c.length) (h0 : stA c i = 0) (hg : gnA c i + 1 = g) : giveV s (padA n c) = (((i : Int), g), 0, padA n (c.set i (s, g))) := by
  rw [padA_set hi]
  exact giveV_at (by rw [padA_len hf]; omega) (by rw [stA_pad (by omega), if_pos hi]; exact h0) (fun j hj => by rw [stA_pad (by omega), if_pos (by omega)]; exact h.no j hj) (by rw [gnA_pad (by omega), if_pos hi]; exact hg)
theorem stA_snoc {c : List ACell} {j : Nat} (h : j < c.length) : stA (c ++ [(0, 0)]) j = stA c j := by
  unfold stA
  rw [List.getD_eq_getElem?_getD, List.getD_eq_getElem?_getD, List.getElem?_append_left h]
theorem gnA_snoc {c : List ACell} {j : Nat} (h : j < c.length) : gnA (c ++ [(0, 0)]) j = gnA c j := by
  unfold gnA
  rw [List.getD_eq_getElem?_getD, List.getD_eq_getElem?_getD, List.getElem?_append_left h]
theorem stA_last (c : List ACell) : stA (c ++ [(0, 0)]) c.length = 0 := by simp [stA]
theorem gnA_last (c : List ACell) : gnA (c ++ [(0, 0)]) c.length = 0 := by simp [gnA]
theorem TkI.more {c : List ACell} {u : Bool} (h : TkI c c.length u) : TkI (c ++ [(0, 0)]) c.length u where
  le := by simp
  no j hj := by rw [stA_snoc hj]; exact h.no j hj
  used := by
    rw [h.used]
    constructor
    · rintro ⟨j, h1, h2'⟩; exact ⟨j, h1, by rw [stA_snoc h1]; exact h2'⟩
    · rintro ⟨j, h1, h2'⟩; exact ⟨j, h1, by rw [stA_snoc h1] at h2'; exact h2'⟩
theorem RaOk.more {n : Nat} {top : Int} {c : List ACell} (h : RaOk n top c) (hn : c.length < n) : RaOk n top (c ++ [(0, 0)]) where
  fits := by simp; omega
  few := h.few
  top2 := h.top2
  top1 := h.top1
  gen j hj := by
    rcases Nat.lt_or_ge j c.length with h1 | h1
    · rw [gnA_snoc h1]; exact h.gen j h1
    · obtain rfl : j = c.length := by simp at hj; omega
      rw [gnA_last]; have := h.top1; omega
  st j hj := by
    rcases Nat.lt_or_ge j c.length with h1 | h1
    · rw [stA_snoc h1]; exact h.st j h1
    · obtain rfl : j = c.length := by simp at hj; omega
      exact .inl (stA_last c)
  free j hj h0 := by
    rcases Nat.lt_or_ge j c.length with h1 | h1
    · rw [stA_snoc h1] at h0; rw [gnA_snoc h1]; exact h.free j h1 h0
    · obtain rfl : j = c.length := by simp at hj; omega
      rw [gnA_last]; have := h.top1; omega
theorem TkI.none {n s : Nat} {top : Int} {c : List ACell} {u : Bool} (h : TkI c n u) (hok : RaOk n top c) : giveV s (padA n c) = ((0, 0), if u then 6 else 7, padA n c) := by
  have hl : c.length = n := Nat.le_antisymm hok.fits h.le
  have h0 : idxS 0 (padA n c) = [] := by
    refine List.eq_nil_iff_forall_not_mem.2 fun i hi => ?_
    obtain ⟨h1, h2'⟩ := mem_idxS.1 hi
    rw [padA_len hok.fits] at h1
    rw [stA_pad h1, if_pos (by omega)] at h2'
    exact h.no i h1 h2'
  rw [giveV_none h0, idxS_pad hok.fits (by decide), idxS_pad hok.fits (by decide)]
  cases hu : u with
  | true =>
    obtain ⟨j, hj, h9⟩ := h.used.1 hu
    have hst := hok.st j (by omega)
    have hn0 := h.no j hj
    have : 0 < (idxS 1 c).length + (idxS 2 c).length := by
      rcases hst with e | e | e | e
      · exact absurd e hn0
      · have := List.length_pos_of_mem (mem_idxS.2 ⟨show j < c.length by omega, e⟩); omega
      · have := List.length_pos_of_mem (mem_idxS.2 ⟨show j < c.length by omega, e⟩); omega
      · exact absurd e h9
    rw [if_pos this]
    rfl
  | false =>
    have hall : ∀ j, j < n → stA c j = 9 := fun j hj => Classical.byContradiction fun h9 => by
      have := h.used.2 ⟨j, hj, h9⟩
      rw [hu] at this
      cases this
    have e1 : idxS 1 c = [] := List.eq_nil_iff_forall_not_mem.2 fun i hi => by
      obtain ⟨h1, h2'⟩ := mem_idxS.1 hi
      rw [hall i (by omega)] at h2'; cases h2'
    have e2 : idxS 2 c = [] := List.eq_nil_iff_forall_not_mem.2 fun i hi => by
      obtain ⟨h1, h2'⟩ := mem_idxS.1 hi
      rw [hall i (by omega)] at h2'; cases h2'
    rw [e1, e2]
    rfl
def raC2 (n : Nat) (top : Int) (A : Option Addr) (m capA : Nat) (B : Option Addr) (q capB : Nat) : List Value := [.int .i64 (n : Nat), .int .i64 top, .slice A m capA, .slice B q capB]
theorem Wr.raS {w0 : World} {E n m capA q capB q' capB' : Nat} {A B B' : Option Addr} {top : Int} {t : TypeId} {L : List As} : Wr w0 (YtkcbjkadalebjaaDoor.blk E (raC2 n top A m capA B q capB).toArray t :: L) ⟨E, 3, none⟩ (.slice B' q' capB') (YtkcbjkadalebjaaDoor.blk E (raC2 n top A m capA B' q' capB').toArray t :: L) :=
  Wr.blk (k := 3) (v := .slice B' q' capB') (cs := (raC2 n top A m capA B q capB).toArray) (by simp [raC2])
theorem Wr.raG {w0 : World} {E n m capA m' capA' q capB : Nat} {A A' B : Option Addr} {top : Int} {t : TypeId} {L : List As} : Wr w0 (YtkcbjkadalebjaaDoor.blk E (raC2 n top A m capA B q capB).toArray t :: L) ⟨E, 2, none⟩ (.slice A' m' capA') (YtkcbjkadalebjaaDoor.blk E (raC2 n top A' m' capA' B q capB).toArray t :: L) :=
  Wr.blk (k := 2) (v := .slice A' m' capA') (cs := (raC2 n top A m capA B q capB).toArray) (by simp [raC2])
theorem raRd2 {w0 w : World} {E n m capA q capB : Nat} {A B : Option Addr} {top : Int} {t : TypeId} {L : List As} (hs : St w0 (blk E (raC2 n top A m capA B q capB).toArray t :: L) w) :
    w.cell? ⟨E, 0, none⟩ = some (.int .i64 (n : Nat)) ∧ w.cell? ⟨E, 1, none⟩ = some (.int .i64 top) ∧ w.cell? ⟨E, 2, none⟩ = some (.slice A m capA) ∧ w.cell? ⟨E, 3, none⟩ = some (.slice B q capB) :=
  ⟨Rd.blk (by rfl) w hs, Rd.blk (by rfl) w hs, Rd.blk (by rfl) w hs, Rd.blk (by rfl) w hs⟩
theorem elem64 : ElemOk Tryd.prog 61 2 1 8 := ElemOk.of Tryd.underlying61 (z := .int .i64 0) (by kernel_rfl) rfl (by decide)
theorem size_sl : (Tryd.prog.info? 39).map (·.size) = some 1 := by kernel_rfl
theorem size_sl64 : (Tryd.prog.info? 61).map (·.size) = some 1 := by kernel_rfl
theorem stsV_app (c : List ACell) : stsV c ++ [Value.int .i64 0] = stsV (c ++ [(0, 0)]) := by simp [stsV]
theorem gensV_app (c : List ACell) : gensV c ++ [Value.int .i64 0] = gensV (c ++ [(0, 0)]) := by simp [gensV]
attribute [local irreducible] idxS addS okN memS remS errN insS delS nextS stA gnA stV atA hsV mergeA giveV delA newA bsV padA idxU
set_option maxHeartbeats 2000000 in
theorem take_c {w0 w : World} {L : List As} {E n s : Nat} {top : Int} {c : List ACell} (hs12 : s = 1 ∨ s = 2) (hs : St w0 (RaB E n top c :: L) w) {v : Hdl} {x : Int} {d : List ACell} (HV : Hid (giveV s (padA n c) = (v, x, d))) :
    Calls Tryd.prog 38 #[.pointer (some ⟨E, 0, none⟩), .int .i64 (s : Nat)] w fun e w' => ∃ c', padA n c' = d ∧ e = .returned (.tuple #[hv v, .int .i64 x]) ∧ St w0 (RaB E n top c' :: L) w' := by
  obtain ⟨hok, A, capA, B, capB, hs⟩ := hs.raopen
  replace hs : St w0 (blk E (raC2 n top A c.length capA B c.length capB).toArray 73 :: own A c.length capA 2 1 (gensV c) :: own B c.length capB 3 1 (stsV c) :: L) w := hs
  have hn := hok.few
  have hcn := hok.fits
  go_enter Tryd.func38, Tryd.ntmps38
  go_wp2_with (first
    | (refine wpl_alloc zeroH hs ?_; clear hs; intro g4 w hs; replace hs : St w0 (blk g4 (h2 (0, 0)).toArray 30 :: _) w := hs))
  go_loopw [6, 7] (fun uv iv wr => ∃ (i : Nat) (u : Bool), i ≤ n ∧ uv = .bool u ∧ iv = .int .i64 (i : Nat) ∧ TkI c i u ∧ St w0 (blk g4 (h2 (0, 0)).toArray 30 :: blk E (raC2 n top A c.length capA B c.length capB).toArray 73 :: own A c.length capA 2 1 (gensV c) :: own B c.length capB 3 1 (stsV c) :: L) wr) (fun _ iv _ => n - (intOf iv).toNat)
  case atStart => exact ⟨0, false, Nat.zero_le _, rfl, rfl, tkI_start c, hs⟩
  case round =>
    clear hs
    obtain ⟨i, u, hi, rfl, rfl, HI, hs⟩ := hrel
    obtain ⟨d0, d1, d2, d3⟩ := raRd2 hs.rot
    have hna := hs.up2.own_len
    have hnb := hs.up3.own_len
    by_cases hlt : i < n
    · by_cases hil : i < c.length
      · obtain ⟨gA, rfl⟩ := hs.up2.own_at (by omega)
        obtain ⟨gB, rfl⟩ := hs.up3.own_at (by omega)
        by_cases h0 : stA c i = 0
        · have hokc := hok
          have hpad : padA n c = padA n c := rfl
          have hgt := hokc.free i hil h0
          have hgb := hokc.gen i hil
          have htop := hokc.top2
          obtain ⟨g, hg⟩ : ∃ g, gnA c i = g := ⟨_, rfl⟩
          have hg0 := Lib.hid hg
          have hv0 := HI.take (s := s) (n := n) hokc.fits hil h0 (show gnA c i + 1 = g + 1 by rw [hg])
          have dg := Rd.own (gensV_get hil) _ hs.up2
          have ds := Rd.own (stsV_get hil) _ hs.up3
          rw [hg] at dg hgt hgb
          rw [h0] at ds
          have hok' : RaOk n top (c.set i (s, g + 1)) := hokc.set hil (by omega) (by omega) (by omega) (fun h => by omega)
          have HS : Hid ((stsV c).set i (.int .i64 (s : Nat)) = stsV (c.set i (s, g + 1))) := stsV_set
          have HG : Hid ((gensV c).set i (.int .i64 (g + 1)) = gensV (c.set i (s, g + 1))) := gensV_set
          have HGN : Hid (gnA (c.set i (s, g + 1)) i = g + 1) := by rw [Hid, gnA_set hil, if_pos rfl]
          have hl1 : i < (stsV c).length := by rw [stsV_len]; exact hil
          have hl2' : i < (gensV c).length := by rw [gensV_len]; exact hil
          have hil' : i < (c.set i (s, g + 1)).length := by rw [List.length_set]; exact hil
          have HL' : Hid ((c.set i (s, g + 1)).length = c.length) := by rw [Hid, List.length_set]
          rw [hpad] at HV
          rw [hv0] at HV
          cases HV.out
          have hna := hs.up2.own_len
          have hnb := hs.up3.own_len
          generalize hce : c.set i (s, g + 1) = c' at *
          have HCE := Lib.hid hce
          clear hce
          clear hv0 h0 hg HI hokc
          go_wp2_with (first
            | (refine wpl_store (ad := ⟨gB, i, none⟩) (v := .int .i64 (s : Nat)) rfl rfl rfl size_int3 hs.up3 (Wr.own hl1) ?_; clear hs d0 d1 d2 d3 dg ds; intro w3 hs; rw [HS.out] at hs; replace hs := hs.dn3; obtain ⟨d0, d1, d2, d3⟩ := raRd2 hs.rot; have dg := Rd.own (gensV_get hil) _ hs.up2; rw [hg0.out] at dg)
            | (refine wpl_store (ad := ⟨gA, i, none⟩) (v := .int .i64 (g + 1)) rfl rfl rfl size_i64 hs.up2 (Wr.own hl2') ?_; clear hs d0 d1 d2 d3 dg; intro w3 hs; rw [HG.out] at hs; replace hs := hs.dn2; obtain ⟨d0, d1, d2, d3⟩ := raRd2 hs.rot; have dg := Rd.own (gensV_get hil') _ hs.up2; rw [HGN.out] at dg)
            | (refine wpl_buildS (build_h2 _ _) rfl ?_)
            | (refine wpl_store_agg (v := hv ((i : Int), g + 1)) rfl rfl (sizeH _) hs WrA.slotH ?_; clear hs; intro w4 hs))
          refine bodyPost_at (results_cell_tmp Tryd.results38 rfl (hs.slot_run aggH (sizeH _))) rfl ?_
          exact ⟨c', by first | rfl | rw [HCE.out], rfl, hs.drop.rashut hok' (by first | exact HL'.out | exact HL'.out.trans HLC.out)⟩
        · have ds := Rd.own (stsV_get hil) _ hs.up3
          have HI2 := HI.next hil h0
          obtain ⟨q, hq⟩ : ∃ q, stA c i = q := ⟨_, rfl⟩
          rw [hq] at ds h0 HI2
          have e0 : ((q : Int) == 0) = false := by simp; omega
          clear HI hq HV
          cases u with
          | true =>
            go_wp2
            go_roundw
            case rel => first | exact ⟨i + 1, true, by omega, rfl, by go_num, HI2, hs⟩ | ((repeat apply Exists.intro); refine ⟨?_, rfl⟩; exact ⟨i + 1, true, by omega, rfl, by go_num, HI2, hs⟩)
            case measure => simp [intOf] <;> omega
          | false =>
            by_cases h9 : q = 9
            · subst h9
              go_wp2
              go_roundw
              case rel => first | exact ⟨i + 1, false, by omega, rfl, by go_num, HI2, hs⟩ | ((repeat apply Exists.intro); refine ⟨?_, rfl⟩; exact ⟨i + 1, false, by omega, rfl, by go_num, HI2, hs⟩)
              case measure => simp [intOf] <;> omega
            · have e9 : ((q : Int) != 9) = true := by simp; omega
              have HI3 : TkI c (i + 1) true := by simpa [h9] using HI2
              clear HI2
              go_wp2
              go_roundw
              case rel => first | exact ⟨i + 1, true, by omega, by first | rfl | rw [e9], by go_num, HI3, hs⟩ | ((repeat apply Exists.intro); refine ⟨?_, rfl⟩; exact ⟨i + 1, true, by omega, by first | rfl | rw [e9], by go_num, HI3, hs⟩)
              case measure => simp [intOf] <;> omega
      · obtain rfl : i = c.length := Nat.le_antisymm HI.le (by omega)
        have HX1 : Hid (stsV c ++ [Value.int .i64 0] = stsV (c ++ [(0, 0)])) := stsV_app c
        have HX2 : Hid (gensV c ++ [Value.int .i64 0] = gensV (c ++ [(0, 0)])) := gensV_app c
        go_upto_region 8 with (first
          | (refine wpl_build1 (v := .int .i64 0) elem24 (by decide) rfl rfl hs ?_; clear hs d0 d1 d3; intro gb w2 hs; replace hs : St w0 (blk gb #[.int .i64 0] 3 :: _) w2 := hs)
          | (refine wpl_append (B := some ⟨gb, 0, none⟩) (m := 1) (news := [.int .i64 0]) elem24 rfl rfl hs (Ent.skip (Ent.skip (Ent.skip (Ent.skip (Ent.refl _))))) RdS.blk rfl (ints_one _) (by unfold maxLen; omega) (by omega) ?_; clear hs d2; intro B' capB' w3 hs; rw [HX1.out] at hs; replace hs := hs.rot.drop; obtain ⟨d0, d1, d2, d3⟩ := raRd2 hs.up2)
          | (refine wpl_store (ad := ⟨E, 3, none⟩) (v := .slice B' (c.length + 1) capB') rfl rfl rfl size_sl hs.up2 Wr.raS ?_; clear hs d0 d1 d2 d3; intro w3 hs; obtain ⟨d0, d1, d2, d3⟩ := raRd2 hs)
          | (refine wpl_build1 (v := .int .i64 0) elem64 (by decide) rfl rfl hs ?_; clear hs d0 d1 d2; intro gb2 w2 hs; replace hs : St w0 (blk gb2 #[.int .i64 0] 2 :: _) w2 := hs)
          | (refine wpl_append (B := some ⟨gb2, 0, none⟩) (m := 1) (news := [.int .i64 0]) elem64 rfl rfl hs (Ent.skip (Ent.skip (Ent.skip (Ent.skip (Ent.refl _))))) RdS.blk rfl (ints_one _) (by unfold maxLen; omega) (by omega) ?_; clear hs d3; intro A' capA' w3 hs; rw [HX2.out] at hs; replace hs := hs.rot.drop; obtain ⟨d0, d1, d2, d3⟩ := raRd2 hs.rot)
          | (refine wpl_store (ad := ⟨E, 2, none⟩) (v := .slice A' (c.length + 1) capA') rfl rfl rfl size_sl64 hs.rot Wr.raG ?_; clear hs d0 d1 d2 d3; intro w3 hs; obtain ⟨d0, d1, d2, d3⟩ := raRd2 hs))
        have hokc := hok.more hlt
        have hpad := (padA_more hlt).symm
        have h0 := stA_last c
        have HIm := HI.more
        have hil2 : c.length < (c ++ [(0, 0)]).length := by simp
        have HLC : Hid ((c ++ [(0, 0)]).length = c.length + 1) := by simp [Hid]
        clear HI HX1 HX2 hil hok hna hnb
        generalize c ++ [(0, 0)] = c1 at *
        generalize c.length = i at *
        replace hs := hs.up3
        obtain ⟨gA, rfl⟩ := hs.up2.own_at (by omega)
        obtain ⟨gB, rfl⟩ := hs.up3.own_at (by omega)
        have HI := HIm
        have hil := hil2
        clear HIm hil2
        have hgt := hokc.free i hil h0
        have hgb := hokc.gen i hil
        have htop := hokc.top2
        obtain ⟨g, hg⟩ : ∃ g, gnA c1 i = g := ⟨_, rfl⟩
        have hg0 := Lib.hid hg
        have hv0 := HI.take (s := s) (n := n) hokc.fits hil h0 (show gnA c1 i + 1 = g + 1 by rw [hg])
        have dg := Rd.own (gensV_get hil) _ hs.up2
        have ds := Rd.own (stsV_get hil) _ hs.up3
        rw [hg] at dg hgt hgb
        rw [h0] at ds
        have hok' : RaOk n top (c1.set i (s, g + 1)) := hokc.set hil (by omega) (by omega) (by omega) (fun h => by omega)
        have HS : Hid ((stsV c1).set i (.int .i64 (s : Nat)) = stsV (c1.set i (s, g + 1))) := stsV_set
        have HG : Hid ((gensV c1).set i (.int .i64 (g + 1)) = gensV (c1.set i (s, g + 1))) := gensV_set
        have HGN : Hid (gnA (c1.set i (s, g + 1)) i = g + 1) := by rw [Hid, gnA_set hil, if_pos rfl]
        have hl1 : i < (stsV c1).length := by rw [stsV_len]; exact hil
        have hl2' : i < (gensV c1).length := by rw [gensV_len]; exact hil
        have hil' : i < (c1.set i (s, g + 1)).length := by rw [List.length_set]; exact hil
        have HL' : Hid ((c1.set i (s, g + 1)).length = c1.length) := by rw [Hid, List.length_set]
        rw [hpad] at HV
        rw [hv0] at HV
        cases HV.out
        have hna := hs.up2.own_len
        have hnb := hs.up3.own_len
        generalize hce : c1.set i (s, g + 1) = c' at *
        have HCE := Lib.hid hce
        clear hce
        clear hv0 h0 hg HI hokc
        go_wp2_with (first
          | (refine wpl_store (ad := ⟨gB, i, none⟩) (v := .int .i64 (s : Nat)) rfl rfl rfl size_int3 hs.up3 (Wr.own hl1) ?_; clear hs d0 d1 d2 d3 dg ds; intro w3 hs; rw [HS.out] at hs; replace hs := hs.dn3; obtain ⟨d0, d1, d2, d3⟩ := raRd2 hs.rot; have dg := Rd.own (gensV_get hil) _ hs.up2; rw [hg0.out] at dg)
          | (refine wpl_store (ad := ⟨gA, i, none⟩) (v := .int .i64 (g + 1)) rfl rfl rfl size_i64 hs.up2 (Wr.own hl2') ?_; clear hs d0 d1 d2 d3 dg; intro w3 hs; rw [HG.out] at hs; replace hs := hs.dn2; obtain ⟨d0, d1, d2, d3⟩ := raRd2 hs.rot; have dg := Rd.own (gensV_get hil') _ hs.up2; rw [HGN.out] at dg)
          | (refine wpl_buildS (build_h2 _ _) rfl ?_)
          | (refine wpl_store_agg (v := hv ((i : Int), g + 1)) rfl rfl (sizeH _) hs WrA.slotH ?_; clear hs; intro w4 hs))
        refine bodyPost_at (results_cell_tmp Tryd.results38 rfl (hs.slot_run aggH (sizeH _))) rfl ?_
        exact ⟨c', by first | rfl | rw [HCE.out], rfl, hs.drop.rashut hok' (by first | exact HL'.out | exact HL'.out.trans HLC.out)⟩
    · obtain rfl : i = n := by omega
      have hv0 := HI.none (s := s) hok
      rw [hv0] at HV
      cases u with
      | true =>
        cases HV.out
        clear HV hv0 HI
        go_wp2_with (first
          | (refine wpl_buildS (parts := []) build_h0 rfl ?_)
          | (refine wpl_store_agg (v := hv (0, 0)) rfl rfl (sizeH _) hs WrA.slotH ?_; clear hs; intro w4 hs))
        refine bodyPost_at (results_cell_tmp Tryd.results38 rfl (hs.slot_run aggH (sizeH _))) rfl ?_
        exact ⟨c, rfl, rfl, hs.drop.rashut hok rfl⟩
      | false =>
        cases HV.out
        clear HV hv0 HI
        go_wp2_with (first
          | (refine wpl_buildS (parts := []) build_h0 rfl ?_)
          | (refine wpl_store_agg (v := hv (0, 0)) rfl rfl (sizeH _) hs WrA.slotH ?_; clear hs; intro w4 hs))
        refine bodyPost_at (results_cell_tmp Tryd.results38 rfl (hs.slot_run aggH (sizeH _))) rfl ?_
        exact ⟨c, rfl, rfl, hs.drop.rashut hok rfl⟩
set_option maxHeartbeats 1000000 in
theorem create_r {w0 w : World} {L : List As} {E n : Nat} {top : Int} {c : List ACell} (hs : St w0 (RaB E n top c :: L) w) {v : Hdl} {x : Int} {d : List ACell} (HV : Hid (giveV 1 (padA n c) = (v, x, d))) :
    Calls Tryd.prog 21 #[.pointer (some ⟨E, 0, none⟩)] w fun e w' => ∃ c', padA n c' = d ∧ e = .returned (.tuple #[hv v, .int .i64 x]) ∧ St w0 (RaB E n top c' :: L) w' := by
  go_enter Tryd.func21, Tryd.ntmps21
  go_wp2_with (first
    | (refine wpl_alloc zeroH hs ?_; clear hs; intro g4 w hs; replace hs : St w0 (blk g4 (h2 (0, 0)).toArray 30 :: _) w := hs)
    | (go_at_call 38; refine (take_c (s := 1) (by decide) hs.rot HV).mono ?_; clear hs; rintro e w' ⟨c', hp, rfl, hs⟩; replace hs := hs.rot)
    | (refine wpl_store_agg (v := hv v) rfl rfl (sizeH _) hs WrA.slotH ?_; clear hs; intro w3 hs))
  refine bodyPost_at (results_cell_tmp Tryd.results21 rfl (hs.slot_run aggH (sizeH _))) rfl ?_
  exact ⟨c', hp, rfl, hs.drop⟩
set_option maxHeartbeats 1000000 in
theorem raise_r {w0 w : World} {L : List As} {E n : Nat} {top : Int} {c : List ACell} (hs : St w0 (RaB E n top c :: L) w) {v : Hdl} {x : Int} {d : List ACell} (HV : Hid (giveV 2 (padA n c) = (v, x, d))) :
    Calls Tryd.prog 22 #[.pointer (some ⟨E, 0, none⟩)] w fun e w' => ∃ c', padA n c' = d ∧ e = .returned (.tuple #[hv v, .int .i64 x]) ∧ St w0 (RaB E n top c' :: L) w' := by
  go_enter Tryd.func22, Tryd.ntmps22
  go_wp2_with (first
    | (refine wpl_alloc zeroH hs ?_; clear hs; intro g4 w hs; replace hs : St w0 (blk g4 (h2 (0, 0)).toArray 30 :: _) w := hs)
    | (go_at_call 38; refine (take_c (s := 2) (by decide) hs.rot HV).mono ?_; clear hs; rintro e w' ⟨c', hp, rfl, hs⟩; replace hs := hs.rot)
    | (refine wpl_store_agg (v := hv v) rfl rfl (sizeH _) hs WrA.slotH ?_; clear hs; intro w3 hs))
  refine bodyPost_at (results_cell_tmp Tryd.results22 rfl (hs.slot_run aggH (sizeH _))) rfl ?_
  exact ⟨c', hp, rfl, hs.drop⟩
end Go.Proofs.YtkcbjkadalebjaaDoor
