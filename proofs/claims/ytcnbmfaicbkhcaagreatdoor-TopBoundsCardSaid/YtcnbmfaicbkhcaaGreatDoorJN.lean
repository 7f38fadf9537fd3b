/-
  XJN: joined of XSb XSb2 XSb3 XSb4 XSb5 XSb6 XTa XTa2.
-/
import Derived.Test.YtcnbmfaicbkhcaaGreatDoorJM
import Derived.Test.YtcnbmfaicbkhcaaGreatDoorWo10
import Derived.Test.YtcnbmfaicbkhcaaGreatDoorWo11
import Derived.Test.YtcnbmfaicbkhcaaGreatDoorOpsB
import Derived.Test.YtcnbmfaicbkhcaaGreatDoorWo7
import Derived.Deep.CutRange
import Derived.Deep.CutBlock
import Derived.Test.YtcnbmfaicbkhcaaGreatDoorEnLw
/-
  A script (script.Script): its memory; acts and replies as values.
-/
set_option maxRecDepth 100000
namespace Go.Proofs.YtcnbmfaicbkhcaaGreatDoor
open Go Go.RowKit
/-! ### Replies -/
structure RpP where
  e : Int
  h : Hdl
  v : V3
  f : Bool
  n : Int
  l : List Int
  ev : List Ev
  rh : Hdl
  rc : List V3
  rt : List Bool
  rep : V3
  dn : List V3
  stg : Int
  lost : Bool
  rrep : V3
/-- A reply that tells an error alone. -/
def RpP.err (e : Int) : RpP := ⟨e, (0, 0), V3.z, false, 0, [], [], (0, 0), [], [], V3.z, [], 0, false, V3.z⟩
def rpC (r : RpP) (V1 V2 V3' V4 V5 : Value) : List Value := [.int .i64 r.e, .int .i64 r.h.1, .int .i64 r.h.2, .int .i64 r.v.k, .int .i64 r.v.a, .int .i64 r.v.b, .bool r.f, .int .i64 r.n, V1, V2, .int .i64 r.rh.1, .int .i64 r.rh.2, V3', V4, .int .i64 r.rep.k, .int .i64 r.rep.a, .int .i64 r.rep.b, V5, .int .i64 r.stg, .bool r.lost, .int .i64 r.rrep.k, .int .i64 r.rrep.a, .int .i64 r.rrep.b]
def bsV (l : List Bool) : List Value := l.map Value.bool
structure Sls5 where
  A1 : Option Addr
  c1 : Nat
  A2 : Option Addr
  c2 : Nat
  A3 : Option Addr
  c3 : Nat
  A4 : Option Addr
  c4 : Nat
  A5 : Option Addr
  c5 : Nat
def Sls5.nil : Sls5 := ⟨none, 0, none, 0, none, 0, none, 0, none, 0⟩
def rpS (r : RpP) (s : Sls5) : List Value := rpC r (.slice s.A1 r.l.length s.c1) (.slice s.A2 r.ev.length s.c2) (.slice s.A3 r.rc.length s.c3) (.slice s.A4 r.rt.length s.c4) (.slice s.A5 r.dn.length s.c5)
/-- What a reply owns. -/
def RpO (r : RpP) (s : Sls5) : As := star (own s.A1 r.l.length s.c1 3 1 (vI r.l)) (star (own s.A2 r.ev.length s.c2 238 2 (es2 r.ev)) (star (own s.A3 r.rc.length s.c3 41 3 (cs3 r.rc)) (star (own s.A4 r.rt.length s.c4 4 1 (bsV r.rt)) (own s.A5 r.dn.length s.c5 105 3 (cs3 r.dn)))))
/-- The value v is the reply r. -/
def RpB (v : Value) (r : RpP) : As := fun h => ∃ s : Sls5, v = .agg (rpS r s).toArray ∧ RpO r s h
theorem St.rpshut {w0 w : World} {L : List As} {r : RpP} {s : Sls5} {v : Value} (hv : v = .agg (rpS r s).toArray) (hs : St w0 (RpO r s :: L) w) : St w0 (RpB v r :: L) w := hs.conv fun _ h => ⟨s, hv, h⟩
theorem own_nil0 (e : TypeId) (size : Nat) : ∀ h, emp h → own none 0 0 e size [] h := fun _ h => ⟨by simp, .inl ⟨rfl, rfl, rfl, h⟩⟩
theorem rpo_nil {r : RpP} (h1 : r.l = []) (h2 : r.ev = []) (h3 : r.rc = []) (h4 : r.rt = []) (h5 : r.dn = []) : ∀ h, emp h → RpO r Sls5.nil h := fun h he => by
  unfold RpO Sls5.nil
  rw [h1, h2, h3, h4, h5]
  have one : ∀ (p q : As), (∀ h, emp h → p h) → (∀ h, emp h → q h) → ∀ h, emp h → star p q h := fun p q hp hq h he => star_mono hp hq (emp_star he)
  exact one _ _ (own_nil0 _ _) (one _ _ (own_nil0 _ _) (one _ _ (own_nil0 _ _) (one _ _ (own_nil0 _ _) (own_nil0 _ _)))) h he
/-- A reply without lists. -/
theorem St.rpnil {w0 w : World} {L : List As} {r : RpP} {v : Value} (hs : St w0 L w) (h1 : r.l = []) (h2 : r.ev = []) (h3 : r.rc = []) (h4 : r.rt = []) (h5 : r.dn = []) (hv : v = .agg (rpS r Sls5.nil).toArray) : St w0 (RpB v r :: L) w :=
  St.rpshut hv (hs.ent fun _ h => star_mono (rpo_nil h1 h2 h3 h4 h5) (fun _ h => h) (emp_star h))
/-- .. with numbers. -/
theorem St.rplist {w0 w : World} {L : List As} {r : RpP} {v : Value} {A : Option Addr} {n c : Nat} (hs : St w0 (own A n c 3 1 (vI r.l) :: L) w) (h1 : r.l.length = n) (h2 : r.ev = []) (h3 : r.rc = []) (h4 : r.rt = []) (h5 : r.dn = []) (hv : v = .agg (rpS r { Sls5.nil with A1 := A, c1 := c }).toArray) : St w0 (RpB v r :: L) w := by
  subst h1
  refine St.rpshut hv (hs.conv fun h hh => ?_)
  unfold RpO Sls5.nil
  rw [h2, h3, h4, h5]
  have one : ∀ (p q : As), (∀ h, emp h → p h) → (∀ h, emp h → q h) → ∀ h, emp h → star p q h := fun p q hp hq h he => star_mono hp hq (emp_star he)
  exact star_comm (star_mono (one _ _ (own_nil0 _ _) (one _ _ (own_nil0 _ _) (one _ _ (own_nil0 _ _) (own_nil0 _ _)))) (fun _ h => h) (emp_star hh))
theorem sizeRep (r : RpP) (s : Sls5) : (Tryz.prog.info? 53).map (·.size) = some (rpS r s).length := by kernel_rfl
theorem sizeRepv (r : RpP) (s : Sls5) : (Tryz.prog.info? 53).map (·.size) = some (Value.agg (rpS r s).toArray).cells.size := by kernel_rfl
theorem aggRep : aggB Tryz.prog 53 = true := by kernel_rfl
theorem zeroRep : (Tryz.prog.info? 53).bind (·.zero) = some (.agg (rpS (RpP.err 0) Sls5.nil).toArray) := by kernel_rfl
theorem rpS_one (r : RpP) (s : Sls5) : ∀ u ∈ rpS r s, u.oneCell' = true := by
  intro u hu
  simp only [rpS, rpC, List.mem_cons, List.not_mem_nil, or_false] at hu
  rcases hu with rfl | rfl | rfl | rfl | rfl | rfl | rfl | rfl | rfl | rfl | rfl | rfl | rfl | rfl | rfl | rfl | rfl | rfl | rfl | rfl | rfl | rfl | rfl <;> rfl
theorem WrA.slotRep {w0 : World} {g : Nat} {r r' : RpP} {s s' : Sls5} {t : TypeId} {L : List As} : WrA w0 (YtcnbmfaicbkhcaaGreatDoor.blk g (rpS r s).toArray t :: L) ⟨g, 0, none⟩ (Value.agg (rpS r' s').toArray).cells.toList (YtcnbmfaicbkhcaaGreatDoor.blk g (rpS r' s').toArray t :: L) := by
  have := WrA.blk (w0 := w0) (g := g) (o := 0) (cs := rpS r s) (t := t) (vs := rpS r' s') (L := L) (by simp [rpS, rpC]) (rpS_one r' s')
  rwa [splice_all (by simp [rpS, rpC])] at this
/-! ### Acts, as memory reads them -/
structure InsP where
  op : Int
  r : Int
  s : Int
  n : Int
def c4i (x : InsP) : List Value := [.int .i64 x.op, .int .i64 x.r, .int .i64 x.s, .int .i64 x.n]
structure SysP where
  rd : List Int
  wr : List Int
  rr : List Int
  rw' : List Int
  al : Bool
  plan : List ColP
  code : List InsP
  after : List Int
structure ActP where
  k : Int
  h : Int
  c : Int
  n : Int
  v : V3
  plan : List ColP
  sys : List SysP
  picks : List Int
/-- The value V is a slice that reads as n elements of cells xs. -/
def SlR (w0 : World) (L : List As) (V : Value) (n : Nat) (xs : List Value) : Prop := ∃ A cap, V = .slice A n cap ∧ n ≤ cap ∧ (A = none → n = 0 ∧ cap = 0) ∧ RdS w0 L A xs
section
variable {w0 w : World} {L : List As} {p : As} {V : Value} {n : Nat} {xs : List Value}
theorem SlR.tail (h : SlR w0 L V n xs) : SlR w0 (p :: L) V n xs := let ⟨A, cap, h1, h2, h3, h4⟩ := h; ⟨A, cap, h1, h2, h3, h4.tail⟩
theorem SlR.here (h : SlR w0 L V n xs) (hs : St w0 L w) : SlR w [] V n xs := let ⟨A, cap, h1, h2, h3, h4⟩ := h; ⟨A, cap, h1, h2, h3, h4.hereP hs⟩
theorem SlR.ent {M : List As} (h : SlR w0 M V n xs) (hc : Ent L M) : SlR w0 L V n xs := let ⟨A, cap, h1, h2, h3, h4⟩ := h; ⟨A, cap, h1, h2, h3, h4.ent hc⟩
theorem SlR.nil : SlR w0 L (.slice none 0 0) 0 [] := ⟨none, 0, rfl, Nat.le_refl _, fun _ => ⟨rfl, rfl⟩, RdS.nil⟩
theorem SlR.one (h : SlR w0 L V n xs) : V.oneCell' = true := by obtain ⟨A, cap, rfl, _⟩ := h; rfl
end
def SysW (w0 : World) (L : List As) (cs : List Value) (x : SysP) : Prop := ∃ V1 V2 V3' V4 V5 V6 V7, cs = [V1, V2, V3', V4, .bool x.al, V5, V6, V7] ∧ SlR w0 L V1 x.rd.length (vI x.rd) ∧ SlR w0 L V2 x.wr.length (vI x.wr) ∧ SlR w0 L V3' x.rr.length (vI x.rr) ∧ SlR w0 L V4 x.rw'.length (vI x.rw') ∧
  SlR w0 L V5 x.plan.length (x.plan.flatMap c2c) ∧ SlR w0 L V6 x.code.length (x.code.flatMap c4i) ∧ SlR w0 L V7 x.after.length (vI x.after)
/-- Rows of systems. -/
def SysL (w0 : World) (L : List As) (css : List (List Value)) (l : List SysP) : Prop := css.length = l.length ∧ ∀ (i : Nat) (cs : List Value) (x : SysP), css[i]? = some cs → l[i]? = some x → SysW w0 L cs x
def actC (x : ActP) (V1 V2 V3' : Value) : List Value := [.int .i64 x.k, .int .i64 x.h, .int .i64 x.c, .int .i64 x.n, .int .i64 x.v.k, .int .i64 x.v.a, .int .i64 x.v.b, V1, V2, V3']
def ActW (w0 : World) (L : List As) (cs : List Value) (x : ActP) : Prop := ∃ V1 V2 V3' css, cs = actC x V1 V2 V3' ∧ SlR w0 L V1 x.plan.length (x.plan.flatMap c2c) ∧ SlR w0 L V2 x.sys.length css.flatten ∧ SysL w0 L css x.sys ∧ SlR w0 L V3' x.picks.length (vI x.picks)
section
variable {w0 w : World} {L : List As} {p : As}
theorem SysW.tail {cs : List Value} {x : SysP} (h : SysW w0 L cs x) : SysW w0 (p :: L) cs x := by
  obtain ⟨V1, V2, V3', V4, V5, V6, V7, h0, h1, h2, h3, h4, h5, h6, h7⟩ := h
  exact ⟨V1, V2, V3', V4, V5, V6, V7, h0, h1.tail, h2.tail, h3.tail, h4.tail, h5.tail, h6.tail, h7.tail⟩
theorem SysW.here {cs : List Value} {x : SysP} (h : SysW w0 L cs x) (hs : St w0 L w) : SysW w [] cs x := by
  obtain ⟨V1, V2, V3', V4, V5, V6, V7, h0, h1, h2, h3, h4, h5, h6, h7⟩ := h
  exact ⟨V1, V2, V3', V4, V5, V6, V7, h0, h1.here hs, h2.here hs, h3.here hs, h4.here hs, h5.here hs, h6.here hs, h7.here hs⟩
theorem SysL.tail {css : List (List Value)} {l : List SysP} (h : SysL w0 L css l) : SysL w0 (p :: L) css l := ⟨h.1, fun i cs x h1 h2 => (h.2 i cs x h1 h2).tail⟩
theorem SysL.here {css : List (List Value)} {l : List SysP} (h : SysL w0 L css l) (hs : St w0 L w) : SysL w [] css l := ⟨h.1, fun i cs x h1 h2 => (h.2 i cs x h1 h2).here hs⟩
theorem SysL.nil : SysL w0 L [] [] := ⟨rfl, fun i cs x h => by simp at h⟩
theorem ActW.tail {cs : List Value} {x : ActP} (h : ActW w0 L cs x) : ActW w0 (p :: L) cs x := by
  obtain ⟨V1, V2, V3', css, h0, h1, h2, h3, h4⟩ := h
  exact ⟨V1, V2, V3', css, h0, h1.tail, h2.tail, h3.tail, h4.tail⟩
theorem ActW.here {cs : List Value} {x : ActP} (h : ActW w0 L cs x) (hs : St w0 L w) : ActW w [] cs x := by
  obtain ⟨V1, V2, V3', css, h0, h1, h2, h3, h4⟩ := h
  exact ⟨V1, V2, V3', css, h0, h1.here hs, h2.here hs, h3.here hs, h4.here hs⟩
theorem ActW.one {cs : List Value} {x : ActP} (h : ActW w0 L cs x) : ∀ u ∈ cs, u.oneCell' = true := by
  obtain ⟨V1, V2, V3', css, rfl, h1, h2, h3, h4⟩ := h
  intro u hu
  simp only [actC, List.mem_cons, List.not_mem_nil, or_false] at hu
  rcases hu with rfl | rfl | rfl | rfl | rfl | rfl | rfl | rfl | rfl | rfl <;> first | rfl | exact h1.one | exact h2.one | exact h4.one
theorem ActW.len {cs : List Value} {x : ActP} (h : ActW w0 L cs x) : cs.length = 10 := by obtain ⟨V1, V2, V3', css, rfl, _⟩ := h; rfl
end
/-! ### The script -/
/-- A cursor: its columns, what is left, the row, whether it stands on one, whether it is closed. -/
structure CurS where
  cols : List ColP
  left : List Nat
  at_ : Int
  on : Bool
  closed : Bool
structure ScrS where
  w : WoS
  hl : List Hdl
  cur : Option CurS
def scC (W : Nat) (A : Option Addr) (n cap : Nat) (C : Option Addr) : List Value := [.pointer (some ⟨W, 0, none⟩), .slice A n cap, .pointer C]
/-- The script's own block, and its handles. -/
def ScB (S W : Nat) (C : Option Addr) (hl : List Hdl) : As := fun h => ∃ A cap, star (YtcnbmfaicbkhcaaGreatDoor.blk S (scC W A hl.length cap C).toArray 142) (own A hl.length cap 39 2 (hsV hl)) h
section
variable {w0 w : World} {L : List As} {S W : Nat} {C : Option Addr} {hl : List Hdl}
theorem St.scopen (hs : St w0 (ScB S W C hl :: L) w) : ∃ A cap, St w0 (YtcnbmfaicbkhcaaGreatDoor.blk S (scC W A hl.length cap C).toArray 142 :: own A hl.length cap 39 2 (hsV hl) :: L) w := by
  obtain ⟨hb, x, r, hd, hx, y, z, hyz, e, ⟨A, cap, hh⟩, hz⟩ := hs
  exact ⟨A, cap, (St.ent (L := star _ _ :: L) ⟨hb, x, r, hd, hx, y, z, hyz, e, hh, hz⟩ (Ent.open2 fun _ h => h))⟩
theorem St.scshut {A : Option Addr} {n cap : Nat} (hn : hl.length = n) (hs : St w0 (YtcnbmfaicbkhcaaGreatDoor.blk S (scC W A n cap C).toArray 142 :: own A n cap 39 2 (hsV hl) :: L) w) : St w0 (ScB S W C hl :: L) w := by
  subst hn
  exact (hs.ent (Ent.shut2 (p := star _ _) fun _ h => h)).conv fun _ h => ⟨A, cap, h⟩
end
/-- The handle that an act names. -/
def nameH (hl : List Hdl) (i : Int) : Hdl := if 0 ≤ i then hl.getD i.toNat (-1, 0) else (-1, 0)
def hasH (hl : List Hdl) (i : Int) : Bool := decide (0 ≤ i ∧ i < (hl.length : Int))
end Go.Proofs.YtcnbmfaicbkhcaaGreatDoor

/-
  A script (script.Script): Handle, named, told.
-/
set_option maxRecDepth 100000
namespace Go.Proofs.YtcnbmfaicbkhcaaGreatDoor
open Go Go.RowKit
attribute [local irreducible] wpList Calls Code.wp nameH hasH
theorem size_slH : (Tryz.prog.info? 66).map (·.size) = some 1 := by kernel_rfl
theorem nameH_in {hl : List Hdl} {k : Nat} {x : Hdl} (h : hl[k]? = some x) : nameH hl (k : Nat) = x := by
  unfold nameH
  rw [if_pos (by omega), Int.toNat_natCast, List.getD_eq_getElem?_getD, h]
  rfl
theorem nameH_out {hl : List Hdl} {i : Int} (h : hasH hl i = false) : nameH hl i = (-1, 0) := by
  have h2 := of_decide_eq_false (by unfold hasH at h; exact h)
  unfold nameH
  by_cases h0 : 0 ≤ i
  · rw [if_pos h0, List.getD_eq_getElem?_getD, List.getElem?_eq_none (by omega)]; rfl
  · rw [if_neg h0]
set_option maxHeartbeats 2000000 in
theorem schandle_c {w0 w : World} {L : List As} {S W : Nat} {C : Option Addr} {hl : List Hdl} (hs : St w0 (ScB S W C hl :: L) w) {i : Int} {b : Bool} (hb : Hid (hasH hl i = b)) {x : Hdl} (hx : Hid ((if b then nameH hl i else (0, 0)) = x)) :
    Calls Tryz.prog 19 #[.pointer (some ⟨S, 0, none⟩), .int .i64 i] w fun r w' => r = .returned (.tuple #[hv x, .bool b]) ∧ Grew w w' := by
  obtain ⟨A, cap, hs1⟩ := hs.scopen
  obtain ⟨n, hn⟩ : ∃ n, Hid (hl.length = n) := ⟨_, rfl⟩
  rw [hn.out] at hs1
  have hw := St.start w
  have HS := Lib.hid hs1
  have c1 : World.cell? w ⟨S, 1, none⟩ = some (.slice A n cap) := Rd.blk (by rfl) _ hs1
  clear hs hs1
  by_cases h1 : i < 0
  · obtain rfl : b = false := by rw [← hb.out]; unfold hasH; simp; omega
    obtain rfl : x = (0, 0) := hx.out.symm
    clear hb hx c1
    go_enter Tryz.func19, Tryz.ntmps19
    go_wp2_with (first
      | (refine wpl_alloc zeroH hw ?_; clear hw; intro g4 w1 hw; replace hw : St w [blk g4 (h2 (0, 0)).toArray 39] w1 := hw)
      | (refine wpl_buildS (parts := []) build_h0 rfl ?_)
      | (refine wpl_store_agg (v := hv (0, 0)) rfl rfl (sizeHd _) hw WrA.slotH ?_; clear hw; intro w3 hw))
    refine bodyPost_at (results_cell_tmp Tryz.results19 rfl (hw.slot_run aggH (sizeHd _))) rfl ?_
    exact ⟨rfl, hw.made_grew⟩
  · obtain ⟨k, rfl⟩ := Int.eq_ofNat_of_zero_le (by omega : 0 ≤ i)
    by_cases h2' : n ≤ k
    · obtain rfl : b = false := by rw [← hb.out]; unfold hasH; simp [hn.out]; omega
      obtain rfl : x = (0, 0) := hx.out.symm
      have d2 : decide ((k : Int) ≥ (n : Int)) = true := decide_eq_true (by omega)
      clear hb hx h1
      go_enter Tryz.func19, Tryz.ntmps19
      go_wp2_with (first
        | (refine wpl_alloc zeroH hw ?_; clear hw; intro g4 w1 hw; replace hw : St w [blk g4 (h2 (0, 0)).toArray 39] w1 := hw; replace c1 := hw.made_grew.cell c1)
        | (refine wpl_buildS (parts := []) build_h0 rfl ?_)
        | (refine wpl_store_agg (v := hv (0, 0)) rfl rfl (sizeHd _) hw WrA.slotH ?_; clear hw; intro w3 hw))
      refine bodyPost_at (results_cell_tmp Tryz.results19 rfl (hw.slot_run aggH (sizeHd _))) rfl ?_
      exact ⟨rfl, hw.made_grew⟩
    · obtain ⟨y, hy⟩ : ∃ y, hl[k]? = some y := ⟨_, List.getElem?_eq_getElem (by rw [hn.out]; omega)⟩
      obtain rfl : b = true := by rw [← hb.out]; unfold hasH; simp [hn.out]; omega
      obtain rfl : x = y := by rw [← hx.out, if_pos rfl, nameH_in hy]
      obtain ⟨gA, rfl⟩ := HS.out.rot.own_at (by omega)
      have d2 : decide ((k : Int) ≥ (n : Int)) = false := decide_eq_false (by omega)
      have hr : ∀ j u, (h2 x)[j]? = some u → World.cell? w ⟨gA, k * 2 + j, none⟩ = some u := fun j u hu => Rd.own (hsV_get hy j u hu) _ HS.out.rot
      have HR := Lib.hid hr
      have hk2 : (k : Int) < (n : Int) := by omega
      clear hb hx h1 hy hr
      go_enter Tryz.func19, Tryz.ntmps19
      go_wp2_with (first
        | (refine wpl_alloc zeroH hw ?_; clear hw; intro g4 w1 hw; replace hw : St w [blk g4 (h2 (0, 0)).toArray 39] w1 := hw; replace c1 := hw.made_grew.cell c1)
        | (refine wpl_load_agg (cs := h2 x) (b := gA) (o := k * 2) rfl aggH (sizeHd _) hw (fun j u hu => Rd.old (HR.out j u hu)) ?_)
        | (refine wpl_store_agg (v := hv x) rfl rfl (sizeHd _) hw WrA.slotH ?_; clear hw; intro w3 hw))
      refine bodyPost_at (results_cell_tmp Tryz.results19 rfl (hw.slot_run aggH (sizeHd _))) rfl ?_
      exact ⟨rfl, hw.made_grew⟩
theorem build_hm1 (w : World) : (Instr.build 39 #[(0, .int .i64 (-1))]).run Tryz.prog w = .ok (hv (-1, 0)) w := by kernel_rfl
set_option maxHeartbeats 2000000 in
theorem named_c {w0 w : World} {L : List As} {S W : Nat} {C : Option Addr} {hl : List Hdl} (hs : St w0 (ScB S W C hl :: L) w) {a : ActP} {V1 V2 V3' : Value} {x : Hdl} (hx : Hid (nameH hl a.h = x)) :
    Calls Tryz.prog 211 #[.pointer (some ⟨S, 0, none⟩), .agg (actC a V1 V2 V3').toArray] w fun r w' => r = .returned (hv x) ∧ Grew w w' := by
  obtain ⟨b, HB⟩ : ∃ b, Hid (hasH hl a.h = b) := ⟨_, rfl⟩
  have hw := St.start w
  have HS := Lib.hid hs
  clear hs
  cases b
  · obtain rfl : x = (-1, 0) := by rw [← hx.out]; exact nameH_out HB.out
    go_enter Tryz.func211, Tryz.ntmps211
    go_upto_region 1 with (first
      | (refine wpl_box_v (v := .agg (actC a V1 V2 V3').toArray) rfl hw ?_; clear hw; intro g3 w1 hw; replace hw : St w [blk g3 (actC a V1 V2 V3').toArray 70] w1 := hw)
      | (refine wpl_alloc zeroH hw ?_; clear hw; intro g4 w1 hw; replace hw : St w [blk g4 (h2 (0, 0)).toArray 39, blk g3 (actC a V1 V2 V3').toArray 70] w1 := hw))
    have c1 : World.cell? _ ⟨g3, 1, none⟩ = some (.int .i64 a.h) := Rd.blk (by rfl) _ hw.rot
    go_wp2_with (first
      | (go_at_call 19; refine (schandle_c (HS.out.grew hw.made_grew) HB (Lib.hid rfl)).mono ?_; rintro r w' ⟨rfl, hg⟩; replace hw := hw.grew hg; clear hg c1)
      | (refine wpl_alloc zeroH hw ?_; clear hw; intro g5 w1 hw)
      | (refine wpl_store_agg (v := hv (0, 0)) rfl rfl (sizeHd _) hw WrA.slotH ?_; clear hw; intro w3 hw)
      | (refine wpl_buildS (parts := [(0, .int .i64 (-1))]) build_hm1 rfl ?_)
      | (refine wpl_store_agg (v := hv (-1, 0)) rfl rfl (sizeHd _) hw.rot WrA.slotH ?_; clear hw; intro w3 hw))
    refine bodyPost_at (results_cell1 Tryz.results211 rfl (hw.slot_run aggH (sizeHd _))) rfl ?_
    exact ⟨rfl, hw.made_grew⟩
  · go_enter Tryz.func211, Tryz.ntmps211
    go_upto_region 1 with (first
      | (refine wpl_box_v (v := .agg (actC a V1 V2 V3').toArray) rfl hw ?_; clear hw; intro g3 w1 hw; replace hw : St w [blk g3 (actC a V1 V2 V3').toArray 70] w1 := hw)
      | (refine wpl_alloc zeroH hw ?_; clear hw; intro g4 w1 hw; replace hw : St w [blk g4 (h2 (0, 0)).toArray 39, blk g3 (actC a V1 V2 V3').toArray 70] w1 := hw))
    have c1 : World.cell? _ ⟨g3, 1, none⟩ = some (.int .i64 a.h) := Rd.blk (by rfl) _ hw.rot
    go_wp2_with (first
      | (go_at_call 19; refine (schandle_c (x := x) (HS.out.grew hw.made_grew) HB (Lib.hid hx.out)).mono ?_; rintro r w' ⟨rfl, hg⟩; replace hw := hw.grew hg; clear hg c1)
      | (refine wpl_alloc zeroH hw ?_; clear hw; intro g5 w1 hw; replace hw : St w (blk g5 (h2 (0, 0)).toArray 39 :: _) w1 := hw)
      | (refine wpl_store_agg (v := hv x) rfl rfl (sizeHd _) hw WrA.slotH ?_; clear hw; intro w3 hw)
      | (refine wpl_load_agg (cs := h2 x) (b := g5) (o := 0) rfl aggH (sizeHd _) hw (fun j u hu => by rw [Nat.zero_add]; exact Rd.blk (by simpa using hu)) ?_)
      | (refine wpl_store_agg (v := hv x) rfl rfl (sizeHd _) hw.rot WrA.slotH ?_; clear hw; intro w3 hw))
    refine bodyPost_at (results_cell1 Tryz.results211 rfl (hw.slot_run aggH (sizeHd _))) rfl ?_
    exact ⟨rfl, hw.made_grew⟩
/-! ### told -/
def rpTold (h : Hdl) (e : Int) : RpP := { RpP.err e with h := h }
theorem build_rtold (h : Hdl) (e : Int) (w : World) : (Instr.build 53 #[(0, .int .i64 e), (1, hv h)]).run Tryz.prog w = .ok (.agg (rpS (rpTold h e) Sls5.nil).toArray) w := by kernel_rfl
theorem elemHd : ElemOk Tryz.prog 66 39 2 16 := ElemOk.of Tryz.underlying66 (z := hv (0, 0)) (by kernel_rfl) rfl (by decide)
theorem hsV_snoc (l : List Hdl) (h : Hdl) : hsV (l ++ [h]) = hsV l ++ h2 h := by simp [hsV]
set_option maxHeartbeats 2000000 in
theorem told_e {w0 w : World} {L : List As} (hs : St w0 L w) {p : Value} {h : Hdl} {e : Int} (h0 : e ≠ 0) :
    Calls Tryz.prog 210 #[p, hv h, .int .i64 e] w fun r w' => r = .returned (.agg (rpS (rpTold h e) Sls5.nil).toArray) ∧ St w0 L w' := by
  have d0 : (e == 0) = false := by simpa using h0
  go_enter Tryz.func210, Tryz.ntmps210
  go_wp2_with (first
    | (refine wpl_box_v (v := hv h) rfl hs ?_; clear hs; intro g4 w1 hs; replace hs : St w0 (blk g4 (h2 h).toArray 39 :: L) w1 := hs)
    | (refine wpl_load_agg (cs := h2 h) (b := g4) (o := 0) rfl aggH (sizeHd _) hs.rot (fun j u hu => by rw [Nat.zero_add]; exact Rd.blk (by simpa using hu)) ?_)
    | (refine wpl_alloc zeroRep hs ?_; clear hs; intro g6 w1 hs; replace hs : St w0 (blk g6 (rpS (RpP.err 0) Sls5.nil).toArray 53 :: blk g4 (h2 h).toArray 39 :: L) w1 := hs)
    | (refine wpl_buildS (build_rtold h e) rfl ?_)
    | (refine wpl_store_agg (v := .agg (rpS (rpTold h e) Sls5.nil).toArray) rfl rfl (sizeRepv _ _) hs WrA.slotRep ?_; clear hs; intro w3 hs))
  refine bodyPost_at (results_cell1 Tryz.results210 rfl (hs.slot_run aggRep (sizeRep _ _))) rfl ?_
  exact ⟨rfl, hs.drop.drop⟩
set_option maxHeartbeats 4000000 in
theorem told_c {w0 w : World} {L : List As} {S W : Nat} {C : Option Addr} {hl : List Hdl} (hs : St w0 (ScB S W C hl :: L) w) (hlb : hl.length ≤ 1000000) {h : Hdl} :
    Calls Tryz.prog 210 #[.pointer (some ⟨S, 0, none⟩), hv h, .int .i64 0] w fun r w' => r = .returned (.agg (rpS (rpTold h 0) Sls5.nil).toArray) ∧ St w0 (ScB S W C (hl ++ [h]) :: L) w' := by
  obtain ⟨A, cap, hs⟩ := hs.scopen
  obtain ⟨n, hn⟩ : ∃ n, Hid (hl.length = n) := ⟨_, rfl⟩
  rw [hn.out] at hs hlb
  go_enter Tryz.func210, Tryz.ntmps210
  go_upto_region 2 with (first
    | (refine wpl_box_v (v := hv h) rfl hs ?_; clear hs; intro g4 w1 hs; replace hs : St w0 (blk g4 (h2 h).toArray 39 :: blk S (scC W A n cap C).toArray 142 :: own A n cap 39 2 (hsV hl) :: L) w1 := hs)
    | (refine wpl_alloc zeroRep hs ?_; clear hs; intro g6 w1 hs; replace hs : St w0 (blk g6 (rpS (RpP.err 0) Sls5.nil).toArray 53 :: blk g4 (h2 h).toArray 39 :: blk S (scC W A n cap C).toArray 142 :: own A n cap 39 2 (hsV hl) :: L) w1 := hs))
  replace hs : St w0 (blk S (scC W A n cap C).toArray 142 :: blk g4 (h2 h).toArray 39 :: blk g6 (rpS (RpP.err 0) Sls5.nil).toArray 53 :: own A n cap 39 2 (hsV hl) :: L) _ := hs.up2.ent (Ent.cons _ (Ent.swap _ _ _))
  have hsN := hs.only2
  refine wp_region_plain [false, false, false, false, false, false, true, true, false, false, true] hsN (by kernel_rfl) (by kernel_rfl) fun hne => ?_
  have q0 := (Rd.blk (w0 := w0) (g := S) (k := 1) (cs := (scC W A n cap C).toArray) (v := .slice A n cap) (t := 142) (L := [blk g4 (h2 h).toArray 39]) (by rfl)).alln
  have q1 := ((Rd.blk (w0 := w0) (g := g4) (k := 0) (cs := (h2 h).toArray) (v := .int .i64 h.1) (t := 39) (L := []) (by rfl)).tail (p := blk S (scC W A n cap C).toArray 142)).alln
  have q2 := ((Rd.blk (w0 := w0) (g := g4) (k := 1) (cs := (h2 h).toArray) (v := .int .i64 h.2) (t := 39) (L := []) (by rfl)).tail (p := blk S (scC W A n cap C).toArray 142)).alln
  simp only [pickOps]
  repeat (go_big_quiet_step (fail))
  refine wpQuiet_nil ?_
  clear hne q0 q1 q2 hsN
  simp only [chainIx]
  replace hs := hs.drew
  refine wpChainP_next rfl ?_
  refine wpl_build1 (v := hv h) elemHd (by decide) rfl rfl hs ?_
  clear hs
  intro G w5 hs
  replace hs : St w0 (blk G (h2 h).toArray 39 :: _) w5 := hs
  refine wpList_nil ⟨rfl, hs.drop.only2, ?_⟩
  refine wpChainP_next rfl ?_
  refine wpl_append (A := A) (n := n) (cap := cap) (xs := hsV hl) (B := some ⟨G, 0, none⟩) (m := 1) (news := h2 h) elemHd rfl rfl hs (Ent.skip (Ent.skip (Ent.skip (Ent.skip (Ent.refl _))))) RdS.blk rfl (by intro u hu; simp [h2] at hu; rcases hu with rfl | rfl <;> rfl) (by unfold maxLen; omega) (by omega) ?_
  clear hs
  intro A2 cap2 w6 hs
  rw [← hsV_snoc] at hs
  refine wpList_nil ⟨rfl, hs.drop.drop.only2, ?_⟩
  refine wpChain_last rfl ?_
  replace hs := hs.up2
  refine wpl_store (v := .slice A2 (n + 1) cap2) rfl rfl rfl size_slH hs (Wr.blk (by simp [scC])) ?_
  clear hs
  intro w7 hs
  replace hs : St w0 (blk g6 (rpS (RpP.err 0) Sls5.nil).toArray 53 :: blk g4 (h2 h).toArray 39 :: blk S (scC W A2 (n + 1) cap2 C).toArray 142 :: own A2 (n + 1) cap2 39 2 (hsV (hl ++ [h])) :: L) w7 := (hs.up2.drop.ent (M := blk g6 _ _ :: blk g4 _ _ :: blk S _ _ :: own A2 _ _ _ _ _ :: L) (by (repeat first | exact Ent.refl _ | refine Ent.step (by repeat first | exact Ent.refl _ | apply Ent.skip) ?_)))
  refine wpList_nil ⟨rfl, ?_⟩
  go_wp2_with (first
    | (refine wpl_load_agg (cs := h2 h) (b := g4) (o := 0) rfl aggH (sizeHd _) hs.rot (fun j u hu => by rw [Nat.zero_add]; exact Rd.blk (by simpa using hu)) ?_)
    | (refine wpl_buildS (build_rtold h 0) rfl ?_)
    | (refine wpl_store_agg (v := .agg (rpS (rpTold h 0) Sls5.nil).toArray) rfl rfl (sizeRepv _ _) hs WrA.slotRep ?_; clear hs; intro w3 hs))
  refine bodyPost_at (results_cell1 Tryz.results210 rfl (hs.slot_run aggRep (sizeRep _ _))) rfl ?_
  exact ⟨rfl, hs.drop.drop.scshut (by rw [List.length_append, hn.out]; rfl)⟩
end Go.Proofs.YtcnbmfaicbkhcaaGreatDoor

/-
  A script (script.Script): create.
-/
set_option maxRecDepth 100000
namespace Go.Proofs.YtcnbmfaicbkhcaaGreatDoor
open Go Go.RowKit
attribute [local irreducible] wpList Calls Code.wp nameH hasH planE compsN WoS.rows
theorem rpnil_told {w0 w : World} {L : List As} {h : Hdl} {e : Int} (hs : St w0 L w) : St w0 (RpB (.agg (rpS (rpTold h e) Sls5.nil).toArray) (rpTold h e) :: L) w := hs.rpnil rfl rfl rfl rfl rfl rfl
def addH (hl : List Hdl) (h : Hdl) (e : Int) : List Hdl := if e = 0 then hl ++ [h] else hl
theorem Rd.scw {w0 : World} {L : List As} {S W : Nat} {C : Option Addr} {hl : List Hdl} : Rd w0 (ScB S W C hl :: L) ⟨S, 0, none⟩ (.pointer (some ⟨W, 0, none⟩)) := fun w hs => by
  obtain ⟨A, cap, h⟩ := hs.scopen
  exact Rd.blk (by rfl) _ h
set_option maxHeartbeats 2000000 in
theorem sccreate_c {w0 w : World} {L : List As} {S W E A R X Q n : Nat} {C : Option Addr} {hl : List Hdl} {s : WoS} (hT : Tab w0) (hs : St w0 (ScB S W C hl :: WoB W E A R X Q n s :: L) w) (hlb : hl.length ≤ 1000000) (a : ActP) (V1 V2 V3' : Value) {d : Hdl} {x : Int} {s' : WoS} (HV : Hid (s.create = (d, x, s'))) {hl' : List Hdl} (HL : Hid (addH hl d x = hl')) :
    Calls Tryz.prog 134 #[.pointer (some ⟨S, 0, none⟩), .agg (actC a V1 V2 V3').toArray] w fun r w' => ∃ v, r = .returned v ∧ St w0 (RpB v (rpTold d x) :: ScB S W C hl' :: WoB W E A R X Q n s' :: L) w' ∧ ∃ z, v = .agg (rpS (rpTold d x) z).toArray := by
  go_enter Tryz.func134, Tryz.ntmps134
  go_upto_region 1 with (first
    | (refine wpl_box_v (v := .agg (actC a V1 V2 V3').toArray) rfl hs ?_; clear hs; intro g3 w1 hs; replace hs : St w0 (blk g3 (actC a V1 V2 V3').toArray 70 :: ScB S W C hl :: WoB W E A R X Q n s :: L) w1 := hs)
    | (refine wpl_alloc zeroRep hs ?_; clear hs; intro g4 w1 hs; replace hs : St w0 (blk g4 (rpS (RpP.err 0) Sls5.nil).toArray 53 :: blk g3 (actC a V1 V2 V3').toArray 70 :: ScB S W C hl :: WoB W E A R X Q n s :: L) w1 := hs))
  have c0 : World.cell? _ ⟨S, 0, none⟩ = some (.pointer (some ⟨W, 0, none⟩)) := Rd.scw _ hs.drop.drop
  by_cases h0 : x = 0
  · subst h0
    obtain rfl : hl ++ [d] = hl' := HL.out
    go_wp2_with (first
      | (go_at_call 35; refine (wo_create hT (hs.up3) HV).mono ?_; clear hs c0; rintro r w' ⟨rfl, hs⟩; replace hs := hs.up3)
      | (go_at_call 210; refine (told_c hs hlb).mono ?_; clear hs; rintro r w' ⟨rfl, hs⟩)
      | (refine wpl_store_agg (v := .agg (rpS (rpTold d 0) Sls5.nil).toArray) rfl rfl (sizeRepv _ _) (hs.up2) WrA.slotRep ?_; clear hs; intro w3 hs))
    refine bodyPost_at (results_cell1 Tryz.results134 rfl (hs.slot_run aggRep (sizeRep _ _))) rfl ?_
    exact ⟨_, rfl, rpnil_told hs.drop.up2.drop, _, rfl⟩
  · obtain rfl : hl = hl' := by rw [← HL.out]; unfold addH; rw [if_neg h0]
    go_wp2_with (first
      | (go_at_call 35; refine (wo_create hT (hs.up3) HV).mono ?_; clear hs c0; rintro r w' ⟨rfl, hs⟩; replace hs := hs.up3)
      | (go_at_call 210; refine (told_e hs h0).mono ?_; clear hs; rintro r w' ⟨rfl, hs⟩)
      | (refine wpl_store_agg (v := .agg (rpS (rpTold d x) Sls5.nil).toArray) rfl rfl (sizeRepv _ _) (hs.up2) WrA.slotRep ?_; clear hs; intro w3 hs))
    refine bodyPost_at (results_cell1 Tryz.results134 rfl (hs.slot_run aggRep (sizeRep _ _))) rfl ?_
    exact ⟨_, rfl, rpnil_told hs.drop.up2.drop, _, rfl⟩
/-! ### remove -/
def rpN (n : Int) (e : Int) : RpP := { RpP.err e with n := n }
theorem build_rn (m e : Int) (w : World) : (Instr.build 53 #[(0, .int .i64 e), (4, .int .i64 m)]).run Tryz.prog w = .ok (.agg (rpS (rpN m e) Sls5.nil).toArray) w := by kernel_rfl
theorem rpnil_n {w0 w : World} {L : List As} {m e : Int} (hs : St w0 L w) : St w0 (RpB (.agg (rpS (rpN m e) Sls5.nil).toArray) (rpN m e) :: L) w := hs.rpnil rfl rfl rfl rfl rfl rfl
theorem actN {w0 : World} {S W g3 : Nat} {C : Option Addr} {hl : List Hdl} {a : ActP} {V1 V2 V3' : Value} {t : TypeId} (i : Nat) {v : Value} (h : (actC a V1 V2 V3').toArray[i]? = some v) : Rd w0 [ScB S W C hl, YtcnbmfaicbkhcaaGreatDoor.blk g3 (actC a V1 V2 V3').toArray t] ⟨g3, i, none⟩ v := (Rd.blk h).tail
set_option maxHeartbeats 4000000 in
theorem scremove_c {w0 w : World} {L : List As} {S W E A R X Q n : Nat} {C : Option Addr} {hl : List Hdl} {s : WoS} (hs : St w0 (ScB S W C hl :: WoB W E A R X Q n s :: L) w) (hev : ∀ x ∈ s.e.l, x.2.evs.length < 4611686018427387904) (a : ActP) (V1 V2 V3' : Value) {d : Hdl} (HD : Hid (nameH hl a.h = d)) {m x : Int} {s' : WoS} (HV : Hid (s.del d = (m, x, s'))) :
    Calls Tryz.prog 136 #[.pointer (some ⟨S, 0, none⟩), .agg (actC a V1 V2 V3').toArray] w fun r w' => ∃ v, r = .returned v ∧ St w0 (RpB v (rpN m x) :: ScB S W C hl :: WoB W E A R X Q n s' :: L) w' ∧ ∃ z, v = .agg (rpS (rpN m x) z).toArray := by
  go_enter Tryz.func136, Tryz.ntmps136
  go_upto_region 1 with (first
    | (refine wpl_box_v (v := .agg (actC a V1 V2 V3').toArray) rfl hs ?_; clear hs; intro g3 w1 hs; replace hs : St w0 (blk g3 (actC a V1 V2 V3').toArray 70 :: ScB S W C hl :: WoB W E A R X Q n s :: L) w1 := hs)
    | (refine wpl_alloc zeroRep hs ?_; clear hs; intro g4 w1 hs; replace hs : St w0 (blk g4 (rpS (RpP.err 0) Sls5.nil).toArray 53 :: blk g3 (actC a V1 V2 V3').toArray 70 :: ScB S W C hl :: WoB W E A R X Q n s :: L) w1 := hs))
  replace hs : St w0 (ScB S W C hl :: blk g3 (actC a V1 V2 V3').toArray 70 :: blk g4 (rpS (RpP.err 0) Sls5.nil).toArray 53 :: WoB W E A R X Q n s :: L) _ := hs.up2.ent (Ent.cons _ (Ent.swap _ _ _))
  simp only [Act.put, List.setIfInBounds_toArray, List.set_cons_succ, List.set_cons_zero]
  refine wp_mix 2 [0, 1, 2, 3, 4, 5] [6, 7, 8, 9, 10, 11, 12] hs.only2 (by kernel_rfl) (by kernel_rfl) fun hne => ?_
  have r0 := (show Rd w0 [ScB S W C hl, YtcnbmfaicbkhcaaGreatDoor.blk g3 (actC a V1 V2 V3').toArray 70] ⟨S, 0, none⟩ (.pointer (some ⟨W, 0, none⟩)) from Rd.scw).alln
  have q0 := (actN (w0 := w0) (S := S) (W := W) (C := C) (hl := hl) (g3 := g3) (a := a) (V1 := V1) (V2 := V2) (V3' := V3') (t := 70) 0 (v := .int .i64 a.k) (by rfl)).alln
  have q1 := (actN (w0 := w0) (S := S) (W := W) (C := C) (hl := hl) (g3 := g3) (a := a) (V1 := V1) (V2 := V2) (V3' := V3') (t := 70) 1 (v := .int .i64 a.h) (by rfl)).alln
  have q2 := (actN (w0 := w0) (S := S) (W := W) (C := C) (hl := hl) (g3 := g3) (a := a) (V1 := V1) (V2 := V2) (V3' := V3') (t := 70) 2 (v := .int .i64 a.c) (by rfl)).alln
  have q3 := (actN (w0 := w0) (S := S) (W := W) (C := C) (hl := hl) (g3 := g3) (a := a) (V1 := V1) (V2 := V2) (V3' := V3') (t := 70) 3 (v := .int .i64 a.n) (by rfl)).alln
  have q4 := (actN (w0 := w0) (S := S) (W := W) (C := C) (hl := hl) (g3 := g3) (a := a) (V1 := V1) (V2 := V2) (V3' := V3') (t := 70) 4 (v := .int .i64 a.v.k) (by rfl)).alln
  have q5 := (actN (w0 := w0) (S := S) (W := W) (C := C) (hl := hl) (g3 := g3) (a := a) (V1 := V1) (V2 := V2) (V3' := V3') (t := 70) 5 (v := .int .i64 a.v.a) (by rfl)).alln
  have q6 := (actN (w0 := w0) (S := S) (W := W) (C := C) (hl := hl) (g3 := g3) (a := a) (V1 := V1) (V2 := V2) (V3' := V3') (t := 70) 6 (v := .int .i64 a.v.b) (by rfl)).alln
  have q7 := (actN (w0 := w0) (S := S) (W := W) (C := C) (hl := hl) (g3 := g3) (a := a) (V1 := V1) (V2 := V2) (V3' := V3') (t := 70) 7 (v := V1) (by rfl)).alln
  have q8 := (actN (w0 := w0) (S := S) (W := W) (C := C) (hl := hl) (g3 := g3) (a := a) (V1 := V1) (V2 := V2) (V3' := V3') (t := 70) 8 (v := V2) (by rfl)).alln
  have q9 := (actN (w0 := w0) (S := S) (W := W) (C := C) (hl := hl) (g3 := g3) (a := a) (V1 := V1) (V2 := V2) (V3' := V3') (t := 70) 9 (v := V3') (by rfl)).alln
  simp only [opsAt, List.getElem?_toArray, List.getElem?_cons_succ, List.getElem?_cons_zero]
  repeat (go_big_quiet_step (fail))
  refine wpQuiet_nil ?_
  clear hne r0 q0 q1 q2 q3 q4 q5 q6 q7 q8 q9
  replace hs := hs.drew
  refine wpMix_next [6] (by kernel_rfl) (by simp) (fun c hc => ?_)
  simp only [List.mem_singleton] at hc
  subst hc
  refine ⟨_, rfl, ?_⟩
  go_wp2_with (first
    | (go_at_call 211; refine (named_c hs HD).mono ?_; rintro r w' ⟨rfl, hg⟩; replace hs := hs.grew hg; clear hg))
  refine mix_quiet [] [7, 8, 9, 10, 11, 12] hs.only2 (by kernel_rfl) (by kernel_rfl) fun hne => ?_
  simp only [opsAt]
  refine wpQuiet_nil ?_
  clear hne
  refine wpMix_next [7] (by kernel_rfl) (by simp) (fun c hc => ?_)
  simp only [List.mem_singleton] at hc
  subst hc
  refine ⟨_, rfl, ?_⟩
  go_wp2_with (first
    | (go_at_call 39; refine (wo_del hs.up3 hev HV).mono ?_; clear hs; rintro r w' ⟨rfl, hs⟩; replace hs := hs.dn3))
  refine mix_quiet [8, 9, 10, 11, 12] [] hs.only2 (by kernel_rfl) (by kernel_rfl) fun hne => ?_
  simp only [opsAt, List.getElem?_toArray, List.getElem?_cons_succ, List.getElem?_cons_zero]
  repeat (go_big_quiet_step (fail))
  refine wpQuiet_nil ?_
  clear hne
  refine wpMix_end ?_
  go_wp2_with (first
    | (refine wpl_buildS (build_rn m x) rfl ?_)
    | (refine wpl_store_agg (v := .agg (rpS (rpN m x) Sls5.nil).toArray) rfl rfl (sizeRepv _ _) (hs.up2) WrA.slotRep ?_; clear hs; intro w3 hs))
  refine bodyPost_at (results_cell1 Tryz.results136 rfl (hs.slot_run aggRep (sizeRep _ _))) rfl ?_
  exact ⟨_, rfl, rpnil_n (hs.drop.rot.drop), _, rfl⟩
/-! ### insert -/
def rpV (v : V3) (b : Bool) (e : Int) : RpP := { RpP.err e with v := v, f := b }
theorem build_rv (v : V3) (b : Bool) (e : Int) (w : World) : (Instr.build 53 #[(0, .int .i64 e), (2, val3 v), (3, .bool b)]).run Tryz.prog w = .ok (.agg (rpS (rpV v b e) Sls5.nil).toArray) w := by kernel_rfl
theorem rpnil_v {w0 w : World} {L : List As} {v : V3} {b : Bool} {e : Int} (hs : St w0 L w) : St w0 (RpB (.agg (rpS (rpV v b e) Sls5.nil).toArray) (rpV v b e) :: L) w := hs.rpnil rfl rfl rfl rfl rfl rfl
set_option maxHeartbeats 4000000 in
theorem scinsert_c {w0 w : World} {L : List As} {S W E A R X Q n : Nat} {C : Option Addr} {hl : List Hdl} {s : WoS} (hs : St w0 (ScB S W C hl :: WoB W E A R X Q n s :: L) w) (hev : ∀ x ∈ s.e.l, x.2.evs.length < 4611686018427387904) (a : ActP) (V1 V2 V3' : Value) {d : Hdl} (HD : Hid (nameH hl a.h = d)) {u : V3} {b : Bool} {x : Int} {s' : WoS} (HV : Hid (s.ins d a.c a.v = (u, b, x, s'))) :
    Calls Tryz.prog 137 #[.pointer (some ⟨S, 0, none⟩), .agg (actC a V1 V2 V3').toArray] w fun r w' => ∃ v, r = .returned v ∧ St w0 (RpB v (rpV u b x) :: ScB S W C hl :: WoB W E A R X Q n s' :: L) w' ∧ ∃ z, v = .agg (rpS (rpV u b x) z).toArray := by
  go_enter Tryz.func137, Tryz.ntmps137
  go_upto_region 1 with (first
    | (refine wpl_box_v (v := .agg (actC a V1 V2 V3').toArray) rfl hs ?_; clear hs; intro g3 w1 hs; replace hs : St w0 (blk g3 (actC a V1 V2 V3').toArray 70 :: ScB S W C hl :: WoB W E A R X Q n s :: L) w1 := hs)
    | (refine wpl_alloc zeroRep hs ?_; clear hs; intro g4 w1 hs; replace hs : St w0 (blk g4 (rpS (RpP.err 0) Sls5.nil).toArray 53 :: blk g3 (actC a V1 V2 V3').toArray 70 :: ScB S W C hl :: WoB W E A R X Q n s :: L) w1 := hs))
  replace hs : St w0 (ScB S W C hl :: blk g3 (actC a V1 V2 V3').toArray 70 :: blk g4 (rpS (RpP.err 0) Sls5.nil).toArray 53 :: WoB W E A R X Q n s :: L) _ := hs.up2.ent (Ent.cons _ (Ent.swap _ _ _))
  simp only [Act.put, List.setIfInBounds_toArray, List.set_cons_succ, List.set_cons_zero]
  go_cut [5, 6, 7] from 8 to 23 (fun pv bv ev wx => ∃ g5, pv = .pointer (some ⟨g5, 0, none⟩) ∧ bv = .bool b ∧ ev = .int .i64 x ∧ St w0 (ScB S W C hl :: blk g3 (actC a V1 V2 V3').toArray 70 :: blk g4 (rpS (RpP.err 0) Sls5.nil).toArray 53 :: WoB W E A R X Q n s' :: blk g5 (YtcnbmfaicbkhcaaGreatDoor.c3 u).toArray 41 :: L) wx)
  case first =>
    refine wp_mix 4 [0, 1, 2, 3, 4, 5, 7, 8, 9, 10] [6, 11, 12, 13, 14, 15, 16, 17, 18, 19] hs.only2 (by kernel_rfl) (by kernel_rfl) fun hne => ?_
    have r0 := (show Rd w0 [ScB S W C hl, YtcnbmfaicbkhcaaGreatDoor.blk g3 (actC a V1 V2 V3').toArray 70] ⟨S, 0, none⟩ (.pointer (some ⟨W, 0, none⟩)) from Rd.scw).alln
    have q0 := (actN (w0 := w0) (S := S) (W := W) (C := C) (hl := hl) (g3 := g3) (a := a) (V1 := V1) (V2 := V2) (V3' := V3') (t := 70) 0 (v := .int .i64 a.k) (by rfl)).alln
    have q1 := (actN (w0 := w0) (S := S) (W := W) (C := C) (hl := hl) (g3 := g3) (a := a) (V1 := V1) (V2 := V2) (V3' := V3') (t := 70) 1 (v := .int .i64 a.h) (by rfl)).alln
    have q2 := (actN (w0 := w0) (S := S) (W := W) (C := C) (hl := hl) (g3 := g3) (a := a) (V1 := V1) (V2 := V2) (V3' := V3') (t := 70) 2 (v := .int .i64 a.c) (by rfl)).alln
    have q3 := (actN (w0 := w0) (S := S) (W := W) (C := C) (hl := hl) (g3 := g3) (a := a) (V1 := V1) (V2 := V2) (V3' := V3') (t := 70) 3 (v := .int .i64 a.n) (by rfl)).alln
    have q4 := (actN (w0 := w0) (S := S) (W := W) (C := C) (hl := hl) (g3 := g3) (a := a) (V1 := V1) (V2 := V2) (V3' := V3') (t := 70) 4 (v := .int .i64 a.v.k) (by rfl)).alln
    have q5 := (actN (w0 := w0) (S := S) (W := W) (C := C) (hl := hl) (g3 := g3) (a := a) (V1 := V1) (V2 := V2) (V3' := V3') (t := 70) 5 (v := .int .i64 a.v.a) (by rfl)).alln
    have q6 := (actN (w0 := w0) (S := S) (W := W) (C := C) (hl := hl) (g3 := g3) (a := a) (V1 := V1) (V2 := V2) (V3' := V3') (t := 70) 6 (v := .int .i64 a.v.b) (by rfl)).alln
    have q7 := (actN (w0 := w0) (S := S) (W := W) (C := C) (hl := hl) (g3 := g3) (a := a) (V1 := V1) (V2 := V2) (V3' := V3') (t := 70) 7 (v := V1) (by rfl)).alln
    have q8 := (actN (w0 := w0) (S := S) (W := W) (C := C) (hl := hl) (g3 := g3) (a := a) (V1 := V1) (V2 := V2) (V3' := V3') (t := 70) 8 (v := V2) (by rfl)).alln
    have q9 := (actN (w0 := w0) (S := S) (W := W) (C := C) (hl := hl) (g3 := g3) (a := a) (V1 := V1) (V2 := V2) (V3' := V3') (t := 70) 9 (v := V3') (by rfl)).alln
    simp only [opsAt, List.getElem?_toArray, List.getElem?_cons_succ, List.getElem?_cons_zero]
    repeat (go_big_quiet_step (fail))
    refine wpQuiet_nil ?_
    clear hne r0 q0 q1 q2 q3 q4 q5 q6 q7 q8 q9
    replace hs := hs.drew
    refine wpMix_next [6, 16] (by kernel_rfl) (by simp) (fun c hc => ?_)
    simp only [List.mem_cons, List.not_mem_nil, or_false] at hc
    rcases hc with rfl | rfl
    · skip
      refine ⟨_, rfl, ?_⟩
      go_wp2_with (first
        | (go_at_call 211; refine (named_c hs HD).mono ?_; rintro r w ⟨rfl, hg⟩; replace hs := hs.grew hg; clear hg))
      refine mix_quiet [] [11, 12, 13, 14, 15, 16, 17, 18, 19] hs.only2 (by kernel_rfl) (by kernel_rfl) fun hne => ?_
      simp only [opsAt]
      refine wpQuiet_nil ?_
      clear hne
      refine wpMix_next [11, 16] (by kernel_rfl) (by simp) (fun c hc => ?_)
      simp only [List.mem_cons, List.not_mem_nil, or_false] at hc
      rcases hc with rfl | rfl
      · skip
        refine ⟨_, rfl, ?_⟩
        go_wp2_with (first
          | (go_at_call 36; refine (wo_ins hs.up3 hev HV).mono ?_; clear hs; rintro r w ⟨rfl, hs⟩; replace hs := hs.dn3))
        replace hs : St w0 (ScB S W C hl :: blk g3 (actC a V1 V2 V3').toArray 70 :: blk g4 (rpS (RpP.err 0) Sls5.nil).toArray 53 :: WoB W E A R X Q n s' :: L) w := hs.ent (by (repeat first | exact Ent.refl _ | refine Ent.step (by repeat first | exact Ent.refl _ | apply Ent.skip) ?_))
        refine mix_quiet [12, 13, 14, 15] [16, 17, 18, 19] hs.only2 (by kernel_rfl) (by kernel_rfl) fun hne => ?_
        simp only [opsAt, List.getElem?_toArray, List.getElem?_cons_succ, List.getElem?_cons_zero]
        repeat (go_big_quiet_step (fail))
        refine wpQuiet_nil ?_
        clear hne
        refine wpMix_next [16] (by kernel_rfl) (by simp) (fun c hc => ?_)
        simp only [List.mem_singleton] at hc
        subst hc
        refine ⟨_, rfl, ?_⟩
        refine wpl_alloc zero3 hs ?_
        clear hs
        intro g5 w hs
        replace hs : St w0 (blk g5 (YtcnbmfaicbkhcaaGreatDoor.c3 V3.z).toArray 41 :: _) w := hs
        replace hs : St w0 (ScB S W C hl :: blk g3 (actC a V1 V2 V3').toArray 70 :: blk g4 (rpS (RpP.err 0) Sls5.nil).toArray 53 :: WoB W E A R X Q n s' :: blk g5 (YtcnbmfaicbkhcaaGreatDoor.c3 V3.z).toArray 41 :: L) w := hs.ent (by (repeat first | exact Ent.refl _ | refine Ent.step (by repeat first | exact Ent.refl _ | apply Ent.skip) ?_))
        refine wpList_nil ⟨rfl, ?_⟩
        refine mix_quiet [] [17, 18, 19] hs.only2 (by kernel_rfl) (by kernel_rfl) fun hne => ?_
        simp only [opsAt]
        refine wpQuiet_nil ?_
        clear hne
        refine wpMix_next [17] (by kernel_rfl) (by simp) (fun c hc => ?_)
        simp only [List.mem_singleton] at hc
        subst hc
        refine ⟨_, rfl, ?_⟩
        refine wpl_store_agg (v := val3 u) rfl rfl (size3 _) hs.up4 WrA.slot3 ?_
        clear hs
        intro w hs
        replace hs : St w0 (ScB S W C hl :: blk g3 (actC a V1 V2 V3').toArray 70 :: blk g4 (rpS (RpP.err 0) Sls5.nil).toArray 53 :: WoB W E A R X Q n s' :: blk g5 (YtcnbmfaicbkhcaaGreatDoor.c3 u).toArray 41 :: L) w := hs.ent (by (repeat first | exact Ent.refl _ | refine Ent.step (by repeat first | exact Ent.refl _ | apply Ent.skip) ?_))
        refine wpList_nil ⟨rfl, ?_⟩
        refine mix_quiet [18, 19] [] hs.only2 (by kernel_rfl) (by kernel_rfl) fun hne => ?_
        simp only [opsAt, List.getElem?_toArray, List.getElem?_cons_succ, List.getElem?_cons_zero]
        try simp only [Act.put, List.setIfInBounds_toArray, List.set_cons_succ, List.set_cons_zero]
        repeat (go_big_quiet_step (fail))
        refine wpQuiet_nil ?_
        clear hne
        refine wpMix_end ?_
        go_wp2
        go_meet
        exact ⟨g5, rfl, rfl, rfl, hs⟩
      · skip
        refine ⟨_, rfl, ?_⟩
        refine wpl_alloc zero3 hs ?_
        clear hs
        intro g5 w hs
        replace hs : St w0 (blk g5 (YtcnbmfaicbkhcaaGreatDoor.c3 V3.z).toArray 41 :: _) w := hs
        replace hs : St w0 (ScB S W C hl :: blk g3 (actC a V1 V2 V3').toArray 70 :: blk g4 (rpS (RpP.err 0) Sls5.nil).toArray 53 :: WoB W E A R X Q n s :: blk g5 (YtcnbmfaicbkhcaaGreatDoor.c3 V3.z).toArray 41 :: L) w := hs.ent (by (repeat first | exact Ent.refl _ | refine Ent.step (by repeat first | exact Ent.refl _ | apply Ent.skip) ?_))
        refine wpList_nil ⟨rfl, ?_⟩
        refine mix_quiet [] [11, 12, 13, 14, 15, 17, 18, 19] hs.only2 (by kernel_rfl) (by kernel_rfl) fun hne => ?_
        simp only [opsAt]
        refine wpQuiet_nil ?_
        clear hne
        refine wpMix_next [11] (by kernel_rfl) (by simp) (fun c hc => ?_)
        simp only [List.mem_singleton] at hc
        subst hc
        refine ⟨_, rfl, ?_⟩
        go_wp2_with (first
          | (go_at_call 36; refine (wo_ins hs.up3 hev HV).mono ?_; clear hs; rintro r w ⟨rfl, hs⟩; replace hs := hs.dn3))
        replace hs : St w0 (ScB S W C hl :: blk g3 (actC a V1 V2 V3').toArray 70 :: blk g4 (rpS (RpP.err 0) Sls5.nil).toArray 53 :: WoB W E A R X Q n s' :: blk g5 (YtcnbmfaicbkhcaaGreatDoor.c3 V3.z).toArray 41 :: L) w := hs.ent (by (repeat first | exact Ent.refl _ | refine Ent.step (by repeat first | exact Ent.refl _ | apply Ent.skip) ?_))
        refine mix_quiet [12, 13, 14, 15] [17, 18, 19] hs.only2 (by kernel_rfl) (by kernel_rfl) fun hne => ?_
        simp only [opsAt, List.getElem?_toArray, List.getElem?_cons_succ, List.getElem?_cons_zero]
        repeat (go_big_quiet_step (fail))
        refine wpQuiet_nil ?_
        clear hne
        refine wpMix_next [17] (by kernel_rfl) (by simp) (fun c hc => ?_)
        simp only [List.mem_singleton] at hc
        subst hc
        refine ⟨_, rfl, ?_⟩
        refine wpl_store_agg (v := val3 u) rfl rfl (size3 _) hs.up4 WrA.slot3 ?_
        clear hs
        intro w hs
        replace hs : St w0 (ScB S W C hl :: blk g3 (actC a V1 V2 V3').toArray 70 :: blk g4 (rpS (RpP.err 0) Sls5.nil).toArray 53 :: WoB W E A R X Q n s' :: blk g5 (YtcnbmfaicbkhcaaGreatDoor.c3 u).toArray 41 :: L) w := hs.ent (by (repeat first | exact Ent.refl _ | refine Ent.step (by repeat first | exact Ent.refl _ | apply Ent.skip) ?_))
        refine wpList_nil ⟨rfl, ?_⟩
        refine mix_quiet [18, 19] [] hs.only2 (by kernel_rfl) (by kernel_rfl) fun hne => ?_
        simp only [opsAt, List.getElem?_toArray, List.getElem?_cons_succ, List.getElem?_cons_zero]
        try simp only [Act.put, List.setIfInBounds_toArray, List.set_cons_succ, List.set_cons_zero]
        repeat (go_big_quiet_step (fail))
        refine wpQuiet_nil ?_
        clear hne
        refine wpMix_end ?_
        go_wp2
        go_meet
        exact ⟨g5, rfl, rfl, rfl, hs⟩
    · skip
      refine ⟨_, rfl, ?_⟩
      refine wpl_alloc zero3 hs ?_
      clear hs
      intro g5 w hs
      replace hs : St w0 (blk g5 (YtcnbmfaicbkhcaaGreatDoor.c3 V3.z).toArray 41 :: _) w := hs
      replace hs : St w0 (ScB S W C hl :: blk g3 (actC a V1 V2 V3').toArray 70 :: blk g4 (rpS (RpP.err 0) Sls5.nil).toArray 53 :: WoB W E A R X Q n s :: blk g5 (YtcnbmfaicbkhcaaGreatDoor.c3 V3.z).toArray 41 :: L) w := hs.ent (by (repeat first | exact Ent.refl _ | refine Ent.step (by repeat first | exact Ent.refl _ | apply Ent.skip) ?_))
      refine wpList_nil ⟨rfl, ?_⟩
      refine mix_quiet [] [6, 11, 12, 13, 14, 15, 17, 18, 19] hs.only2 (by kernel_rfl) (by kernel_rfl) fun hne => ?_
      simp only [opsAt]
      refine wpQuiet_nil ?_
      clear hne
      refine wpMix_next [6] (by kernel_rfl) (by simp) (fun c hc => ?_)
      simp only [List.mem_singleton] at hc
      subst hc
      refine ⟨_, rfl, ?_⟩
      go_wp2_with (first
        | (go_at_call 211; refine (named_c hs HD).mono ?_; rintro r w ⟨rfl, hg⟩; replace hs := hs.grew hg; clear hg))
      refine mix_quiet [] [11, 12, 13, 14, 15, 17, 18, 19] hs.only2 (by kernel_rfl) (by kernel_rfl) fun hne => ?_
      simp only [opsAt]
      refine wpQuiet_nil ?_
      clear hne
      refine wpMix_next [11] (by kernel_rfl) (by simp) (fun c hc => ?_)
      simp only [List.mem_singleton] at hc
      subst hc
      refine ⟨_, rfl, ?_⟩
      go_wp2_with (first
        | (go_at_call 36; refine (wo_ins hs.up3 hev HV).mono ?_; clear hs; rintro r w ⟨rfl, hs⟩; replace hs := hs.dn3))
      replace hs : St w0 (ScB S W C hl :: blk g3 (actC a V1 V2 V3').toArray 70 :: blk g4 (rpS (RpP.err 0) Sls5.nil).toArray 53 :: WoB W E A R X Q n s' :: blk g5 (YtcnbmfaicbkhcaaGreatDoor.c3 V3.z).toArray 41 :: L) w := hs.ent (by (repeat first | exact Ent.refl _ | refine Ent.step (by repeat first | exact Ent.refl _ | apply Ent.skip) ?_))
      refine mix_quiet [12, 13, 14, 15] [17, 18, 19] hs.only2 (by kernel_rfl) (by kernel_rfl) fun hne => ?_
      simp only [opsAt, List.getElem?_toArray, List.getElem?_cons_succ, List.getElem?_cons_zero]
      repeat (go_big_quiet_step (fail))
      refine wpQuiet_nil ?_
      clear hne
      refine wpMix_next [17] (by kernel_rfl) (by simp) (fun c hc => ?_)
      simp only [List.mem_singleton] at hc
      subst hc
      refine ⟨_, rfl, ?_⟩
      refine wpl_store_agg (v := val3 u) rfl rfl (size3 _) hs.up4 WrA.slot3 ?_
      clear hs
      intro w hs
      replace hs : St w0 (ScB S W C hl :: blk g3 (actC a V1 V2 V3').toArray 70 :: blk g4 (rpS (RpP.err 0) Sls5.nil).toArray 53 :: WoB W E A R X Q n s' :: blk g5 (YtcnbmfaicbkhcaaGreatDoor.c3 u).toArray 41 :: L) w := hs.ent (by (repeat first | exact Ent.refl _ | refine Ent.step (by repeat first | exact Ent.refl _ | apply Ent.skip) ?_))
      refine wpList_nil ⟨rfl, ?_⟩
      refine mix_quiet [18, 19] [] hs.only2 (by kernel_rfl) (by kernel_rfl) fun hne => ?_
      simp only [opsAt, List.getElem?_toArray, List.getElem?_cons_succ, List.getElem?_cons_zero]
      try simp only [Act.put, List.setIfInBounds_toArray, List.set_cons_succ, List.set_cons_zero]
      repeat (go_big_quiet_step (fail))
      refine wpQuiet_nil ?_
      clear hne
      refine wpMix_end ?_
      go_wp2
      go_meet
      exact ⟨g5, rfl, rfl, rfl, hs⟩
  case rest =>
    clear hs
    obtain ⟨g5, rfl, rfl, rfl, hs⟩ := hcut
    go_wp2_with (first
      | (refine wpl_load_agg (cs := YtcnbmfaicbkhcaaGreatDoor.c3 u) (b := g5) (o := 0) rfl agg3 (by kernel_rfl) hs.up4 (fun j u hu => by rw [Nat.zero_add]; exact Rd.blk (by simpa using hu)) ?_)
      | (refine wpl_buildS (build_rv u b x) rfl ?_)
      | (refine wpl_store_agg (v := .agg (rpS (rpV u b x) Sls5.nil).toArray) rfl rfl (sizeRepv _ _) (hs.up2) WrA.slotRep ?_; clear hs; intro w3 hs))
    refine bodyPost_at (results_cell1 Tryz.results137 rfl (hs.slot_run aggRep (sizeRep _ _))) rfl ?_
    exact ⟨_, rfl, rpnil_v (hs.drop.rot.drop.up2.drop), _, rfl⟩
/-! ### rows -/
def rpL (l : List Int) (e : Int) : RpP := { RpP.err e with l := l }
theorem build_rl (A : Option Addr) (l : List Int) (z c : Nat) (hz : l.length = z) (e : Int) (w : World) : (Instr.build 53 #[(0, .int .i64 e), (5, .slice A z c)]).run Tryz.prog w = .ok (.agg (rpS (rpL l e) { Sls5.nil with A1 := A, c1 := c }).toArray) w := by subst hz; kernel_rfl
theorem plist_l {w0 w : World} {L : List As} {A : Option Addr} {z c : Nat} {l : List Int} {e : Int} (hs : St w0 (own A z c 3 1 (vI l) :: L) w) (hz : l.length = z) : St w0 (RpB (.agg (rpS (rpL l e) { Sls5.nil with A1 := A, c1 := c }).toArray) (rpL l e) :: L) w := hs.rplist hz rfl rfl rfl rfl rfl
/-- What rows answers. -/
def WoS.rowsE (s : WoS) (l : List ColP) : List Nat × Int := if planE s.e.l.length l = 0 then (s.rows l, 0) else ([], planE s.e.l.length l)
theorem rowsof_v {w0 w : World} {L : List As} {W E A R X Q n : Nat} {s : WoS} (hT : Tab w) (hb : St w0 (WoB W E A R X Q n s :: L) w) (hN12 : s.e.l.length ≤ 12) {l : List ColP} {V : Value} (hr : SlR w [] V l.length (l.flatMap c2c)) (hlb : l.length ≤ 1000000) {o : List Nat} {e : Int} (ho : Hid (s.rowsE l = (o, e))) {z : Nat} (hz : Hid (o.length = z)) :
    Calls Tryz.prog 38 #[.pointer (some ⟨W, 0, none⟩), V] w fun r w' => ∃ A cp, r = .returned (.tuple #[.slice A z cp, .int .i64 e]) ∧ St w [own A z cp 3 1 (vI (natI o))] w' := by
  obtain ⟨D, cap, rfl, h1, h2, h3⟩ := hr
  have h4 := ho.out
  unfold WoS.rowsE at h4
  by_cases h0 : planE s.e.l.length l = 0
  · rw [if_pos h0] at h4
    cases h4
    exact rowsof_c hT hb (Lib.hid rfl) hN12 (Lib.hid rfl) (by omega) h1 h3 h0 (Lib.hid rfl) hz
  · rw [if_neg h0] at h4
    cases h4
    obtain rfl : 0 = z := hz.out
    refine (rowsof_e hb (Lib.hid rfl) (Lib.hid rfl) (by omega) h1 h3 (Lib.hid rfl) h0).mono ?_
    rintro r w' ⟨rfl, hg⟩
    exact ⟨none, 0, rfl, ((St.start w).grew hg).own_nil _ _⟩
set_option maxHeartbeats 4000000 in
theorem scrows_c {w0 w : World} {L : List As} {S W E A R X Q n : Nat} {C : Option Addr} {hl : List Hdl} {s : WoS} (hT : Tab w0) (hs : St w0 (ScB S W C hl :: WoB W E A R X Q n s :: L) w) (hN12 : s.e.l.length ≤ 12) (a : ActP) (V1 V2 V3' : Value) (hr : SlR w0 L V1 a.plan.length (a.plan.flatMap c2c)) (hlb : a.plan.length ≤ 1000000) {o : List Nat} {e : Int} (ho : Hid (s.rowsE a.plan = (o, e))) :
    Calls Tryz.prog 149 #[.pointer (some ⟨S, 0, none⟩), .agg (actC a V1 V2 V3').toArray] w fun r w' => ∃ v, r = .returned v ∧ St w0 (RpB v (rpL (natI o) e) :: ScB S W C hl :: WoB W E A R X Q n s :: L) w' ∧ ∃ z, v = .agg (rpS (rpL (natI o) e) z).toArray := by
  obtain ⟨z, hz⟩ : ∃ z, Hid (o.length = z) := ⟨_, rfl⟩
  have HR := Lib.hid hr
  have HT := Lib.hid hT
  clear hr hT
  go_enter Tryz.func149, Tryz.ntmps149
  go_upto_region 1 with (first
    | (refine wpl_box_v (v := .agg (actC a V1 V2 V3').toArray) rfl hs ?_; clear hs; intro g3 w1 hs; replace hs : St w0 (blk g3 (actC a V1 V2 V3').toArray 70 :: ScB S W C hl :: WoB W E A R X Q n s :: L) w1 := hs)
    | (refine wpl_alloc zeroRep hs ?_; clear hs; intro g4 w1 hs; replace hs : St w0 (blk g4 (rpS (RpP.err 0) Sls5.nil).toArray 53 :: blk g3 (actC a V1 V2 V3').toArray 70 :: ScB S W C hl :: WoB W E A R X Q n s :: L) w1 := hs))
  replace hs : St w0 (ScB S W C hl :: blk g3 (actC a V1 V2 V3').toArray 70 :: blk g4 (rpS (RpP.err 0) Sls5.nil).toArray 53 :: WoB W E A R X Q n s :: L) _ := hs.up2.ent (Ent.cons _ (Ent.swap _ _ _))
  simp only [Act.put, List.setIfInBounds_toArray, List.set_cons_succ, List.set_cons_zero]
  refine wp_mix 1 [0, 1, 2, 3, 4, 5] [6, 7, 8, 9, 10, 11] hs.only2 (by kernel_rfl) (by kernel_rfl) fun hne => ?_
  have r0 := (show Rd w0 [ScB S W C hl, YtcnbmfaicbkhcaaGreatDoor.blk g3 (actC a V1 V2 V3').toArray 70] ⟨S, 0, none⟩ (.pointer (some ⟨W, 0, none⟩)) from Rd.scw).alln
  have q0 := (actN (w0 := w0) (S := S) (W := W) (C := C) (hl := hl) (g3 := g3) (a := a) (V1 := V1) (V2 := V2) (V3' := V3') (t := 70) 0 (v := .int .i64 a.k) (by rfl)).alln
  have q1 := (actN (w0 := w0) (S := S) (W := W) (C := C) (hl := hl) (g3 := g3) (a := a) (V1 := V1) (V2 := V2) (V3' := V3') (t := 70) 1 (v := .int .i64 a.h) (by rfl)).alln
  have q2 := (actN (w0 := w0) (S := S) (W := W) (C := C) (hl := hl) (g3 := g3) (a := a) (V1 := V1) (V2 := V2) (V3' := V3') (t := 70) 2 (v := .int .i64 a.c) (by rfl)).alln
  have q3 := (actN (w0 := w0) (S := S) (W := W) (C := C) (hl := hl) (g3 := g3) (a := a) (V1 := V1) (V2 := V2) (V3' := V3') (t := 70) 3 (v := .int .i64 a.n) (by rfl)).alln
  have q4 := (actN (w0 := w0) (S := S) (W := W) (C := C) (hl := hl) (g3 := g3) (a := a) (V1 := V1) (V2 := V2) (V3' := V3') (t := 70) 4 (v := .int .i64 a.v.k) (by rfl)).alln
  have q5 := (actN (w0 := w0) (S := S) (W := W) (C := C) (hl := hl) (g3 := g3) (a := a) (V1 := V1) (V2 := V2) (V3' := V3') (t := 70) 5 (v := .int .i64 a.v.a) (by rfl)).alln
  have q6 := (actN (w0 := w0) (S := S) (W := W) (C := C) (hl := hl) (g3 := g3) (a := a) (V1 := V1) (V2 := V2) (V3' := V3') (t := 70) 6 (v := .int .i64 a.v.b) (by rfl)).alln
  have q7 := (actN (w0 := w0) (S := S) (W := W) (C := C) (hl := hl) (g3 := g3) (a := a) (V1 := V1) (V2 := V2) (V3' := V3') (t := 70) 7 (v := V1) (by rfl)).alln
  have q8 := (actN (w0 := w0) (S := S) (W := W) (C := C) (hl := hl) (g3 := g3) (a := a) (V1 := V1) (V2 := V2) (V3' := V3') (t := 70) 8 (v := V2) (by rfl)).alln
  have q9 := (actN (w0 := w0) (S := S) (W := W) (C := C) (hl := hl) (g3 := g3) (a := a) (V1 := V1) (V2 := V2) (V3' := V3') (t := 70) 9 (v := V3') (by rfl)).alln
  simp only [opsAt, List.getElem?_toArray, List.getElem?_cons_succ, List.getElem?_cons_zero]
  repeat (go_big_quiet_step (fail))
  refine wpQuiet_nil ?_
  clear hne r0 q0 q1 q2 q3 q4 q5 q6 q7 q8 q9
  replace hs := hs.drew
  refine wpMix_next [6] (by kernel_rfl) (by simp) (fun c hc => ?_)
  simp only [List.mem_singleton] at hc
  subst hc
  refine ⟨_, rfl, ?_⟩
  go_wp2_with (first
    | (go_at_call 38; refine (rowsof_v (HT.out.st hs) hs.up3 hN12 (HR.out.tail.tail.tail.tail.here hs) hlb ho hz).mono ?_; rintro r w ⟨A2, cp, rfl, hm⟩; replace hs := (hs.made hm).up4.up4.up4.up4; clear hm))
  refine mix_quiet [7, 8, 9, 10, 11] [] hs.only2 (by kernel_rfl) (by kernel_rfl) fun hne => ?_
  simp only [opsAt, List.getElem?_toArray, List.getElem?_cons_succ, List.getElem?_cons_zero]
  repeat (go_big_quiet_step (fail))
  refine wpQuiet_nil ?_
  clear hne
  refine wpMix_end ?_
  have HZ2 : (natI o).length = z := by rw [natI_len]; exact hz.out
  go_wp2_with (first
    | (refine wpl_buildS (build_rl A2 (natI o) z cp HZ2 e) rfl ?_)
    | (refine wpl_store_agg (v := .agg (rpS (rpL (natI o) e) { Sls5.nil with A1 := A2, c1 := cp }).toArray) rfl rfl (sizeRepv _ _) (hs.up2) WrA.slotRep ?_; clear hs; intro w3 hs))
  refine bodyPost_at (results_cell1 Tryz.results149 rfl (hs.slot_run aggRep (sizeRep _ _))) rfl ?_
  exact ⟨_, rfl, (plist_l hs.drop.up3 HZ2).up2.drop, _, rfl⟩
end Go.Proofs.YtcnbmfaicbkhcaaGreatDoor

/-
  A script (script.Script): the table of acts; Do. (Printed by gen_sb4.py.)
-/
set_option maxRecDepth 100000
namespace Go.Proofs.YtcnbmfaicbkhcaaGreatDoor
open Go Go.RowKit
attribute [local irreducible] wpList Calls Code.wp nameH hasH
def fnsV : List Value := [.nilFunc, .func (Fn.func 134) #[] #[], .func (Fn.func 135) #[] #[], .func (Fn.func 136) #[] #[], .func (Fn.func 137) #[] #[], .func (Fn.func 138) #[] #[], .func (Fn.func 139) #[] #[], .func (Fn.func 140) #[] #[], .func (Fn.func 141) #[] #[], .func (Fn.func 142) #[] #[], .func (Fn.func 143) #[] #[], .func (Fn.func 144) #[] #[], .func (Fn.func 145) #[] #[], .func (Fn.func 146) #[] #[], .func (Fn.func 147) #[] #[], .func (Fn.func 148) #[] #[], .func (Fn.func 149) #[] #[], .func (Fn.func 150) #[] #[], .func (Fn.func 151) #[] #[], .func (Fn.func 152) #[] #[], .func (Fn.func 153) #[] #[], .func (Fn.func 154) #[] #[]]
theorem zeroFns : (Tryz.prog.info? 194).bind (·.zero) = some (.agg (List.replicate 22 Value.nilFunc).toArray) := by kernel_rfl
theorem aggFns : aggB Tryz.prog 194 = true := by kernel_rfl
theorem sizeFns (l : List Value) (h : l.length = 22) : (Tryz.prog.info? 194).map (·.size) = some l.length := by rw [h]; kernel_rfl
theorem sizeFnv : (Tryz.prog.info? 194).map (·.size) = some (Value.agg fnsV.toArray).cells.size := by kernel_rfl
theorem fns_one : ∀ u ∈ fnsV, u.oneCell' = true := by decide
theorem build_fns (w : World) : (Instr.build 194 #[(1, .func (Fn.func 134) #[] #[]), (2, .func (Fn.func 135) #[] #[]), (3, .func (Fn.func 136) #[] #[]), (4, .func (Fn.func 137) #[] #[]), (5, .func (Fn.func 138) #[] #[]), (6, .func (Fn.func 139) #[] #[]), (7, .func (Fn.func 140) #[] #[]), (8, .func (Fn.func 141) #[] #[]), (9, .func (Fn.func 142) #[] #[]), (10, .func (Fn.func 143) #[] #[]), (11, .func (Fn.func 144) #[] #[]), (12, .func (Fn.func 145) #[] #[]), (13, .func (Fn.func 146) #[] #[]), (14, .func (Fn.func 147) #[] #[]), (15, .func (Fn.func 148) #[] #[]), (16, .func (Fn.func 149) #[] #[]), (17, .func (Fn.func 150) #[] #[]), (18, .func (Fn.func 151) #[] #[]), (19, .func (Fn.func 152) #[] #[]), (20, .func (Fn.func 153) #[] #[]), (21, .func (Fn.func 154) #[] #[])]).run Tryz.prog w = .ok (.agg fnsV.toArray) w := by kernel_rfl
theorem WrA.slotFns {w0 : World} {g : Nat} {u : List Value} {t : TypeId} {L : List As} (hu : u.length = 22) : WrA w0 (YtcnbmfaicbkhcaaGreatDoor.blk g u.toArray t :: L) ⟨g, 0, none⟩ (Value.agg fnsV.toArray).cells.toList (YtcnbmfaicbkhcaaGreatDoor.blk g fnsV.toArray t :: L) := by
  have := WrA.blk (w0 := w0) (g := g) (o := 0) (cs := u) (t := t) (vs := fnsV) (L := L) (by rw [hu]; exact Nat.le_refl 22) fns_one
  rwa [splice_all (by rw [hu]; rfl)] at this
theorem fns_c {w : World} : Calls Tryz.prog 70 #[] w fun r w' => r = .returned (.agg fnsV.toArray) ∧ Grew w w' := by
  have hw := St.start w
  go_enter Tryz.func70, Tryz.ntmps70
  go_wp2_with (first
    | (refine wpl_alloc zeroFns hw ?_; clear hw; intro g0 w1 hw; replace hw : St w [blk g0 (List.replicate 22 Value.nilFunc).toArray 194] w1 := hw)
    | (refine wpl_buildS build_fns rfl ?_)
    | (refine wpl_store_agg (v := .agg fnsV.toArray) rfl rfl sizeFnv hw (WrA.slotFns (by rfl)) ?_; clear hw; intro w3 hw))
  refine bodyPost_at (results_cell1 Tryz.results70 rfl (hw.slot_run aggFns (sizeFns _ rfl))) rfl ?_
  exact ⟨rfl, hw.made_grew⟩
end Go.Proofs.YtcnbmfaicbkhcaaGreatDoor

/-
  A script (script.Script): Do, kind by kind. (Printed by gen_sb4.py.)
-/
set_option maxRecDepth 100000
namespace Go.Proofs.YtcnbmfaicbkhcaaGreatDoor
open Go Go.RowKit
attribute [local irreducible] wpList Calls Code.wp nameH hasH
def RpP.fin (r : RpP) : RpP := if r.e = 0 then r else RpP.err r.e
theorem build_rerr (e : Int) (w : World) : (Instr.build 53 #[(0, .int .i64 e)]).run Tryz.prog w = .ok (.agg (rpS (RpP.err e) Sls5.nil).toArray) w := by kernel_rfl
set_option maxHeartbeats 4000000 in
theorem scdo_create {w0 w : World} {L : List As} {S W E A R X Q n : Nat} {C : Option Addr} {hl : List Hdl} {s : WoS} (hs : St w0 (ScB S W C hl :: WoB W E A R X Q n s :: L) w) {a : ActP} (hk : a.k = 1) {V1 V2 V3' : Value} {rp : RpP} {m1 m2 : As}
    (HC : Hid (∀ (K : List As) (w : World), St w0 (ScB S W C hl :: WoB W E A R X Q n s :: (K ++ L)) w → Calls Tryz.prog 134 #[.pointer (some ⟨S, 0, none⟩), .agg (actC a V1 V2 V3').toArray] w fun r w' => ∃ v, r = .returned v ∧ St w0 (RpB v rp :: m1 :: m2 :: (K ++ L)) w' ∧ ∃ z, v = .agg (rpS rp z).toArray)) :
    Calls Tryz.prog 21 #[.pointer (some ⟨S, 0, none⟩), .agg (actC a V1 V2 V3').toArray] w fun r w' => ∃ v, r = .returned v ∧ St w0 (RpB v rp.fin :: m1 :: m2 :: L) w' ∧ ∃ z, v = .agg (rpS rp.fin z).toArray := by
  obtain ⟨k, ah, ac, an, av, ap, asy, apk⟩ := a
  obtain rfl : k = 1 := hk
  go_enter Tryz.func21, Tryz.ntmps21
  go_upto_region 1 with (first
    | (refine wpl_box_v (v := .agg (actC ⟨1, ah, ac, an, av, ap, asy, apk⟩ V1 V2 V3').toArray) rfl hs ?_; clear hs; intro g3 w1 hs; replace hs : St w0 (blk g3 (actC ⟨1, ah, ac, an, av, ap, asy, apk⟩ V1 V2 V3').toArray 70 :: ScB S W C hl :: WoB W E A R X Q n s :: L) w1 := hs)
    | (refine wpl_alloc zeroRep hs ?_; clear hs; intro g4 w1 hs; replace hs : St w0 (blk g4 (rpS (RpP.err 0) Sls5.nil).toArray 53 :: blk g3 (actC ⟨1, ah, ac, an, av, ap, asy, apk⟩ V1 V2 V3').toArray 70 :: ScB S W C hl :: WoB W E A R X Q n s :: L) w1 := hs))
  have c0 : World.cell? _ ⟨g3, 0, none⟩ = some (.int .i64 1) := Rd.blk (by rfl) _ hs.rot
  go_upto_region 4 with (first
    | (go_at_call 70; refine fns_c.mono ?_; rintro r w ⟨rfl, hg⟩; replace hs := hs.grew hg; clear hg c0)
    | (refine wpl_alloc zeroFns hs ?_; clear hs; intro g5 w1 hs; replace hs : St w0 (blk g5 (List.replicate 22 Value.nilFunc).toArray 194 :: _) w1 := hs)
    | (refine wpl_store_agg (v := .agg fnsV.toArray) rfl rfl sizeFnv hs (WrA.slotFns (by rfl)) ?_; clear hs; intro w3 hs))
  replace hs : St w0 (blk g3 (actC ⟨1, ah, ac, an, av, ap, asy, apk⟩ V1 V2 V3').toArray 70 :: blk g5 fnsV.toArray 194 :: ScB S W C hl :: WoB W E A R X Q n s :: blk g4 (rpS (RpP.err 0) Sls5.nil).toArray 53 :: L) _ := hs.ent (by (repeat first | exact Ent.refl _ | refine Ent.step (by repeat first | exact Ent.refl _ | apply Ent.skip) ?_))
  simp only [Act.put, List.setIfInBounds_toArray, List.set_cons_succ, List.set_cons_zero]
  go_cut [6] from 17 to 23 (fun pv wx => ∃ g6 z, pv = .pointer (some ⟨g6, 0, none⟩) ∧ St w0 (blk g6 (rpS rp z).toArray 53 :: blk g4 (rpS (RpP.err 0) Sls5.nil).toArray 53 :: RpB (.agg (rpS rp z).toArray) rp :: m1 :: m2 :: blk g3 (actC ⟨1, ah, ac, an, av, ap, asy, apk⟩ V1 V2 V3').toArray 70 :: blk g5 fnsV.toArray 194 :: L) wx)
  case first =>
    refine wp_mix 3 [0, 1, 2, 3, 4, 5] [6, 7, 8] hs.only2 (by kernel_rfl) (by kernel_rfl) fun hne => ?_
    have r0 := ((show Rd w0 [blk g5 fnsV.toArray 194] ⟨g5, 1, none⟩ (.func (Fn.func 134) #[] #[]) from Rd.blk (by rfl)).tail (p := blk g3 (actC ⟨1, ah, ac, an, av, ap, asy, apk⟩ V1 V2 V3').toArray 70)).alln
    have q0 := (show Rd w0 [blk g3 (actC ⟨1, ah, ac, an, av, ap, asy, apk⟩ V1 V2 V3').toArray 70, blk g5 fnsV.toArray 194] ⟨g3, 0, none⟩ (.int .i64 1) from Rd.blk (by rfl)).alln
    have q1 := (show Rd w0 [blk g3 (actC ⟨1, ah, ac, an, av, ap, asy, apk⟩ V1 V2 V3').toArray 70, blk g5 fnsV.toArray 194] ⟨g3, 1, none⟩ (.int .i64 ah) from Rd.blk (by rfl)).alln
    have q2 := (show Rd w0 [blk g3 (actC ⟨1, ah, ac, an, av, ap, asy, apk⟩ V1 V2 V3').toArray 70, blk g5 fnsV.toArray 194] ⟨g3, 2, none⟩ (.int .i64 ac) from Rd.blk (by rfl)).alln
    have q3 := (show Rd w0 [blk g3 (actC ⟨1, ah, ac, an, av, ap, asy, apk⟩ V1 V2 V3').toArray 70, blk g5 fnsV.toArray 194] ⟨g3, 3, none⟩ (.int .i64 an) from Rd.blk (by rfl)).alln
    have q4 := (show Rd w0 [blk g3 (actC ⟨1, ah, ac, an, av, ap, asy, apk⟩ V1 V2 V3').toArray 70, blk g5 fnsV.toArray 194] ⟨g3, 4, none⟩ (.int .i64 av.k) from Rd.blk (by rfl)).alln
    have q5 := (show Rd w0 [blk g3 (actC ⟨1, ah, ac, an, av, ap, asy, apk⟩ V1 V2 V3').toArray 70, blk g5 fnsV.toArray 194] ⟨g3, 5, none⟩ (.int .i64 av.a) from Rd.blk (by rfl)).alln
    have q6 := (show Rd w0 [blk g3 (actC ⟨1, ah, ac, an, av, ap, asy, apk⟩ V1 V2 V3').toArray 70, blk g5 fnsV.toArray 194] ⟨g3, 6, none⟩ (.int .i64 av.b) from Rd.blk (by rfl)).alln
    have q7 := (show Rd w0 [blk g3 (actC ⟨1, ah, ac, an, av, ap, asy, apk⟩ V1 V2 V3').toArray 70, blk g5 fnsV.toArray 194] ⟨g3, 7, none⟩ (V1) from Rd.blk (by rfl)).alln
    have q8 := (show Rd w0 [blk g3 (actC ⟨1, ah, ac, an, av, ap, asy, apk⟩ V1 V2 V3').toArray 70, blk g5 fnsV.toArray 194] ⟨g3, 8, none⟩ (V2) from Rd.blk (by rfl)).alln
    have q9 := (show Rd w0 [blk g3 (actC ⟨1, ah, ac, an, av, ap, asy, apk⟩ V1 V2 V3').toArray 70, blk g5 fnsV.toArray 194] ⟨g3, 9, none⟩ (V3') from Rd.blk (by rfl)).alln
    simp only [opsAt, List.getElem?_toArray, List.getElem?_cons_succ, List.getElem?_cons_zero]
    repeat (go_big_quiet_step (fail))
    refine wpQuiet_nil ?_
    clear hne r0 q0 q1 q2 q3 q4 q5 q6 q7 q8 q9
    replace hs := hs.drew
    refine wpMix_next [6, 7] (by kernel_rfl) (by simp) (fun c hc => ?_)
    simp only [List.mem_cons, List.not_mem_nil, or_false] at hc
    rcases hc with rfl | rfl
    · skip
      refine ⟨_, rfl, ?_⟩
      have hsC : St w0 (ScB S W C hl :: WoB W E A R X Q n s :: ([blk g3 (actC ⟨1, ah, ac, an, av, ap, asy, apk⟩ V1 V2 V3').toArray 70, blk g5 fnsV.toArray 194, blk g4 (rpS (RpP.err 0) Sls5.nil).toArray 53] ++ L)) _ := hs.ent (by show Ent _ (ScB S W C hl :: WoB W E A R X Q n s :: blk g3 (actC ⟨1, ah, ac, an, av, ap, asy, apk⟩ V1 V2 V3').toArray 70 :: blk g5 fnsV.toArray 194 :: blk g4 (rpS (RpP.err 0) Sls5.nil).toArray 53 :: L); (repeat first | exact Ent.refl _ | refine Ent.step (by repeat first | exact Ent.refl _ | apply Ent.skip) ?_))
      clear hs
      go_wp2_with (first
        | (go_at_call 134; refine (HC.out _ _ hsC).mono ?_; clear hsC; rintro r w ⟨v, rfl, hs, z, rfl⟩))
      replace hs : St w0 (RpB (.agg (rpS rp z).toArray) rp :: m1 :: m2 :: blk g3 (actC ⟨1, ah, ac, an, av, ap, asy, apk⟩ V1 V2 V3').toArray 70 :: blk g5 fnsV.toArray 194 :: blk g4 (rpS (RpP.err 0) Sls5.nil).toArray 53 :: L) w := hs
      replace hs : St w0 (blk g3 (actC ⟨1, ah, ac, an, av, ap, asy, apk⟩ V1 V2 V3').toArray 70 :: blk g5 fnsV.toArray 194 :: RpB (.agg (rpS rp z).toArray) rp :: m1 :: m2 :: blk g4 (rpS (RpP.err 0) Sls5.nil).toArray 53 :: L) w := hs.ent (by (repeat first | exact Ent.refl _ | refine Ent.step (by repeat first | exact Ent.refl _ | apply Ent.skip) ?_))
      refine mix_quiet [] [7, 8] hs.only2 (by kernel_rfl) (by kernel_rfl) fun hne => ?_
      simp only [opsAt]
      refine wpQuiet_nil ?_
      clear hne
      refine wpMix_next [7] (by kernel_rfl) (by simp) (fun c hc => ?_)
      simp only [List.mem_singleton] at hc
      subst hc
      refine ⟨_, rfl, ?_⟩
      refine wpl_alloc zeroRep hs ?_
      clear hs
      intro g6 w hs
      replace hs : St w0 (blk g6 (rpS (RpP.err 0) Sls5.nil).toArray 53 :: _) w := hs
      replace hs : St w0 (blk g3 (actC ⟨1, ah, ac, an, av, ap, asy, apk⟩ V1 V2 V3').toArray 70 :: blk g5 fnsV.toArray 194 :: RpB (.agg (rpS rp z).toArray) rp :: m1 :: m2 :: blk g4 (rpS (RpP.err 0) Sls5.nil).toArray 53 :: blk g6 (rpS (RpP.err 0) Sls5.nil).toArray 53 :: L) w := hs.ent (by (repeat first | exact Ent.refl _ | refine Ent.step (by repeat first | exact Ent.refl _ | apply Ent.skip) ?_))
      refine wpList_nil ⟨rfl, ?_⟩
      refine mix_quiet [] [8] hs.only2 (by kernel_rfl) (by kernel_rfl) fun hne => ?_
      simp only [opsAt]
      refine wpQuiet_nil ?_
      clear hne
      refine wpMix_next [8] (by kernel_rfl) (by simp) (fun c hc => ?_)
      simp only [List.mem_singleton] at hc
      subst hc
      refine ⟨_, rfl, ?_⟩
      replace hs : St w0 (blk g6 (rpS (RpP.err 0) Sls5.nil).toArray 53 :: blk g3 (actC ⟨1, ah, ac, an, av, ap, asy, apk⟩ V1 V2 V3').toArray 70 :: blk g5 fnsV.toArray 194 :: RpB (.agg (rpS rp z).toArray) rp :: m1 :: m2 :: blk g4 (rpS (RpP.err 0) Sls5.nil).toArray 53 :: L) w := hs.ent (by (repeat first | exact Ent.refl _ | refine Ent.step (by repeat first | exact Ent.refl _ | apply Ent.skip) ?_))
      refine wpl_store_agg (v := .agg (rpS rp z).toArray) rfl rfl (sizeRepv _ _) hs WrA.slotRep ?_
      clear hs
      intro w hs
      replace hs : St w0 (blk g3 (actC ⟨1, ah, ac, an, av, ap, asy, apk⟩ V1 V2 V3').toArray 70 :: blk g5 fnsV.toArray 194 :: RpB (.agg (rpS rp z).toArray) rp :: m1 :: m2 :: blk g4 (rpS (RpP.err 0) Sls5.nil).toArray 53 :: blk g6 (rpS rp z).toArray 53 :: L) w := hs.ent (by (repeat first | exact Ent.refl _ | refine Ent.step (by repeat first | exact Ent.refl _ | apply Ent.skip) ?_))
      refine wpList_nil ⟨rfl, ?_⟩
      refine mix_quiet [] [] hs.only2 (by kernel_rfl) (by kernel_rfl) fun hne => ?_
      simp only [opsAt]
      refine wpQuiet_nil ?_
      clear hne
      refine wpMix_end ?_
      go_wp2
      go_meet
      exact ⟨g6, z, rfl, hs.ent (by (repeat first | exact Ent.refl _ | refine Ent.step (by repeat first | exact Ent.refl _ | apply Ent.skip) ?_))⟩
    · skip
      refine ⟨_, rfl, ?_⟩
      refine wpl_alloc zeroRep hs ?_
      clear hs
      intro g6 w hs
      replace hs : St w0 (blk g6 (rpS (RpP.err 0) Sls5.nil).toArray 53 :: _) w := hs
      replace hs : St w0 (blk g3 (actC ⟨1, ah, ac, an, av, ap, asy, apk⟩ V1 V2 V3').toArray 70 :: blk g5 fnsV.toArray 194 :: ScB S W C hl :: WoB W E A R X Q n s :: blk g4 (rpS (RpP.err 0) Sls5.nil).toArray 53 :: blk g6 (rpS (RpP.err 0) Sls5.nil).toArray 53 :: L) w := hs.ent (by (repeat first | exact Ent.refl _ | refine Ent.step (by repeat first | exact Ent.refl _ | apply Ent.skip) ?_))
      refine wpList_nil ⟨rfl, ?_⟩
      refine mix_quiet [] [6, 8] hs.only2 (by kernel_rfl) (by kernel_rfl) fun hne => ?_
      simp only [opsAt]
      refine wpQuiet_nil ?_
      clear hne
      refine wpMix_next [6] (by kernel_rfl) (by simp) (fun c hc => ?_)
      simp only [List.mem_singleton] at hc
      subst hc
      refine ⟨_, rfl, ?_⟩
      have hsC : St w0 (ScB S W C hl :: WoB W E A R X Q n s :: ([blk g3 (actC ⟨1, ah, ac, an, av, ap, asy, apk⟩ V1 V2 V3').toArray 70, blk g5 fnsV.toArray 194, blk g4 (rpS (RpP.err 0) Sls5.nil).toArray 53, blk g6 (rpS (RpP.err 0) Sls5.nil).toArray 53] ++ L)) _ := hs.ent (by show Ent _ (ScB S W C hl :: WoB W E A R X Q n s :: blk g3 (actC ⟨1, ah, ac, an, av, ap, asy, apk⟩ V1 V2 V3').toArray 70 :: blk g5 fnsV.toArray 194 :: blk g4 (rpS (RpP.err 0) Sls5.nil).toArray 53 :: blk g6 (rpS (RpP.err 0) Sls5.nil).toArray 53 :: L); (repeat first | exact Ent.refl _ | refine Ent.step (by repeat first | exact Ent.refl _ | apply Ent.skip) ?_))
      clear hs
      go_wp2_with (first
        | (go_at_call 134; refine (HC.out _ _ hsC).mono ?_; clear hsC; rintro r w ⟨v, rfl, hs, z, rfl⟩))
      replace hs : St w0 (RpB (.agg (rpS rp z).toArray) rp :: m1 :: m2 :: blk g3 (actC ⟨1, ah, ac, an, av, ap, asy, apk⟩ V1 V2 V3').toArray 70 :: blk g5 fnsV.toArray 194 :: blk g4 (rpS (RpP.err 0) Sls5.nil).toArray 53 :: blk g6 (rpS (RpP.err 0) Sls5.nil).toArray 53 :: L) w := hs
      replace hs : St w0 (blk g3 (actC ⟨1, ah, ac, an, av, ap, asy, apk⟩ V1 V2 V3').toArray 70 :: blk g5 fnsV.toArray 194 :: RpB (.agg (rpS rp z).toArray) rp :: m1 :: m2 :: blk g4 (rpS (RpP.err 0) Sls5.nil).toArray 53 :: blk g6 (rpS (RpP.err 0) Sls5.nil).toArray 53 :: L) w := hs.ent (by (repeat first | exact Ent.refl _ | refine Ent.step (by repeat first | exact Ent.refl _ | apply Ent.skip) ?_))
      refine mix_quiet [] [8] hs.only2 (by kernel_rfl) (by kernel_rfl) fun hne => ?_
      simp only [opsAt]
      refine wpQuiet_nil ?_
      clear hne
      refine wpMix_next [8] (by kernel_rfl) (by simp) (fun c hc => ?_)
      simp only [List.mem_singleton] at hc
      subst hc
      refine ⟨_, rfl, ?_⟩
      replace hs : St w0 (blk g6 (rpS (RpP.err 0) Sls5.nil).toArray 53 :: blk g3 (actC ⟨1, ah, ac, an, av, ap, asy, apk⟩ V1 V2 V3').toArray 70 :: blk g5 fnsV.toArray 194 :: RpB (.agg (rpS rp z).toArray) rp :: m1 :: m2 :: blk g4 (rpS (RpP.err 0) Sls5.nil).toArray 53 :: L) w := hs.ent (by (repeat first | exact Ent.refl _ | refine Ent.step (by repeat first | exact Ent.refl _ | apply Ent.skip) ?_))
      refine wpl_store_agg (v := .agg (rpS rp z).toArray) rfl rfl (sizeRepv _ _) hs WrA.slotRep ?_
      clear hs
      intro w hs
      replace hs : St w0 (blk g3 (actC ⟨1, ah, ac, an, av, ap, asy, apk⟩ V1 V2 V3').toArray 70 :: blk g5 fnsV.toArray 194 :: RpB (.agg (rpS rp z).toArray) rp :: m1 :: m2 :: blk g4 (rpS (RpP.err 0) Sls5.nil).toArray 53 :: blk g6 (rpS rp z).toArray 53 :: L) w := hs.ent (by (repeat first | exact Ent.refl _ | refine Ent.step (by repeat first | exact Ent.refl _ | apply Ent.skip) ?_))
      refine wpList_nil ⟨rfl, ?_⟩
      refine mix_quiet [] [] hs.only2 (by kernel_rfl) (by kernel_rfl) fun hne => ?_
      simp only [opsAt]
      refine wpQuiet_nil ?_
      clear hne
      refine wpMix_end ?_
      go_wp2
      go_meet
      exact ⟨g6, z, rfl, hs.ent (by (repeat first | exact Ent.refl _ | refine Ent.step (by repeat first | exact Ent.refl _ | apply Ent.skip) ?_))⟩
  case rest =>
    clear hs
    obtain ⟨g6, z, rfl, hs⟩ := hcut
    have c6 : World.cell? _ ⟨g6, 0, none⟩ = some (.int .i64 rp.e) := Rd.blk (by rfl) _ hs
    by_cases h0 : rp.e = 0
    · have d0 : (rp.e != 0) = false := by simp [h0]
      have HF : Hid (rp.fin = rp) := by rw [Hid]; unfold RpP.fin; rw [if_pos h0]
      clear h0
      go_wp2_with (first
        | (refine wpl_load_agg (cs := rpS rp z) (b := g6) (o := 0) rfl aggRep (sizeRep _ _) hs (fun j u hu => by rw [Nat.zero_add]; exact Rd.blk (by simpa using hu)) ?_)
        | (refine wpl_store_agg (v := .agg (rpS rp z).toArray) rfl rfl (sizeRepv _ _) (hs.rot) WrA.slotRep ?_; clear hs c6; intro w3 hs))
      refine bodyPost_at (results_cell1 Tryz.results21 rfl (hs.slot_run aggRep (sizeRep _ _))) rfl ?_
      rw [HF.out]
      exact ⟨_, rfl, (hs.drop.drop.ent (M := blk g3 (actC ⟨1, ah, ac, an, av, ap, asy, apk⟩ V1 V2 V3').toArray 70 :: blk g5 fnsV.toArray 194 :: RpB (.agg (rpS rp z).toArray) rp :: m1 :: m2 :: L) (by (repeat first | exact Ent.refl _ | refine Ent.step (by repeat first | exact Ent.refl _ | apply Ent.skip) ?_))).drop.drop, _, rfl⟩
    · have d0 : (rp.e != 0) = true := by simpa using h0
      have HF : Hid (rp.fin = RpP.err rp.e) := by rw [Hid]; unfold RpP.fin; rw [if_neg h0]
      clear h0
      go_wp2_with (first
        | (refine wpl_buildS (build_rerr rp.e) rfl ?_)
        | (refine wpl_store_agg (v := .agg (rpS (RpP.err rp.e) Sls5.nil).toArray) rfl rfl (sizeRepv _ _) (hs.rot) WrA.slotRep ?_; clear hs c6; intro w3 hs))
      refine bodyPost_at (results_cell1 Tryz.results21 rfl (hs.slot_run aggRep (sizeRep _ _))) rfl ?_
      rw [HF.out]
      exact ⟨_, rfl, (hs.drop.drop.drop.ent (M := blk g3 (actC ⟨1, ah, ac, an, av, ap, asy, apk⟩ V1 V2 V3').toArray 70 :: blk g5 fnsV.toArray 194 :: m1 :: m2 :: L) (by (repeat first | exact Ent.refl _ | refine Ent.step (by repeat first | exact Ent.refl _ | apply Ent.skip) ?_))).drop.drop.rpnil rfl rfl rfl rfl rfl rfl, _, rfl⟩
set_option maxHeartbeats 4000000 in
theorem scdo_remove {w0 w : World} {L : List As} {S W E A R X Q n : Nat} {C : Option Addr} {hl : List Hdl} {s : WoS} (hs : St w0 (ScB S W C hl :: WoB W E A R X Q n s :: L) w) {a : ActP} (hk : a.k = 3) {V1 V2 V3' : Value} {rp : RpP} {m1 m2 : As}
    (HC : Hid (∀ (K : List As) (w : World), St w0 (ScB S W C hl :: WoB W E A R X Q n s :: (K ++ L)) w → Calls Tryz.prog 136 #[.pointer (some ⟨S, 0, none⟩), .agg (actC a V1 V2 V3').toArray] w fun r w' => ∃ v, r = .returned v ∧ St w0 (RpB v rp :: m1 :: m2 :: (K ++ L)) w' ∧ ∃ z, v = .agg (rpS rp z).toArray)) :
    Calls Tryz.prog 21 #[.pointer (some ⟨S, 0, none⟩), .agg (actC a V1 V2 V3').toArray] w fun r w' => ∃ v, r = .returned v ∧ St w0 (RpB v rp.fin :: m1 :: m2 :: L) w' ∧ ∃ z, v = .agg (rpS rp.fin z).toArray := by
  obtain ⟨k, ah, ac, an, av, ap, asy, apk⟩ := a
  obtain rfl : k = 3 := hk
  go_enter Tryz.func21, Tryz.ntmps21
  go_upto_region 1 with (first
    | (refine wpl_box_v (v := .agg (actC ⟨3, ah, ac, an, av, ap, asy, apk⟩ V1 V2 V3').toArray) rfl hs ?_; clear hs; intro g3 w1 hs; replace hs : St w0 (blk g3 (actC ⟨3, ah, ac, an, av, ap, asy, apk⟩ V1 V2 V3').toArray 70 :: ScB S W C hl :: WoB W E A R X Q n s :: L) w1 := hs)
    | (refine wpl_alloc zeroRep hs ?_; clear hs; intro g4 w1 hs; replace hs : St w0 (blk g4 (rpS (RpP.err 0) Sls5.nil).toArray 53 :: blk g3 (actC ⟨3, ah, ac, an, av, ap, asy, apk⟩ V1 V2 V3').toArray 70 :: ScB S W C hl :: WoB W E A R X Q n s :: L) w1 := hs))
  have c0 : World.cell? _ ⟨g3, 0, none⟩ = some (.int .i64 3) := Rd.blk (by rfl) _ hs.rot
  go_upto_region 4 with (first
    | (go_at_call 70; refine fns_c.mono ?_; rintro r w ⟨rfl, hg⟩; replace hs := hs.grew hg; clear hg c0)
    | (refine wpl_alloc zeroFns hs ?_; clear hs; intro g5 w1 hs; replace hs : St w0 (blk g5 (List.replicate 22 Value.nilFunc).toArray 194 :: _) w1 := hs)
    | (refine wpl_store_agg (v := .agg fnsV.toArray) rfl rfl sizeFnv hs (WrA.slotFns (by rfl)) ?_; clear hs; intro w3 hs))
  replace hs : St w0 (blk g3 (actC ⟨3, ah, ac, an, av, ap, asy, apk⟩ V1 V2 V3').toArray 70 :: blk g5 fnsV.toArray 194 :: ScB S W C hl :: WoB W E A R X Q n s :: blk g4 (rpS (RpP.err 0) Sls5.nil).toArray 53 :: L) _ := hs.ent (by (repeat first | exact Ent.refl _ | refine Ent.step (by repeat first | exact Ent.refl _ | apply Ent.skip) ?_))
  simp only [Act.put, List.setIfInBounds_toArray, List.set_cons_succ, List.set_cons_zero]
  go_cut [6] from 17 to 23 (fun pv wx => ∃ g6 z, pv = .pointer (some ⟨g6, 0, none⟩) ∧ St w0 (blk g6 (rpS rp z).toArray 53 :: blk g4 (rpS (RpP.err 0) Sls5.nil).toArray 53 :: RpB (.agg (rpS rp z).toArray) rp :: m1 :: m2 :: blk g3 (actC ⟨3, ah, ac, an, av, ap, asy, apk⟩ V1 V2 V3').toArray 70 :: blk g5 fnsV.toArray 194 :: L) wx)
  case first =>
    refine wp_mix 3 [0, 1, 2, 3, 4, 5] [6, 7, 8] hs.only2 (by kernel_rfl) (by kernel_rfl) fun hne => ?_
    have r0 := ((show Rd w0 [blk g5 fnsV.toArray 194] ⟨g5, 3, none⟩ (.func (Fn.func 136) #[] #[]) from Rd.blk (by rfl)).tail (p := blk g3 (actC ⟨3, ah, ac, an, av, ap, asy, apk⟩ V1 V2 V3').toArray 70)).alln
    have q0 := (show Rd w0 [blk g3 (actC ⟨3, ah, ac, an, av, ap, asy, apk⟩ V1 V2 V3').toArray 70, blk g5 fnsV.toArray 194] ⟨g3, 0, none⟩ (.int .i64 3) from Rd.blk (by rfl)).alln
    have q1 := (show Rd w0 [blk g3 (actC ⟨3, ah, ac, an, av, ap, asy, apk⟩ V1 V2 V3').toArray 70, blk g5 fnsV.toArray 194] ⟨g3, 1, none⟩ (.int .i64 ah) from Rd.blk (by rfl)).alln
    have q2 := (show Rd w0 [blk g3 (actC ⟨3, ah, ac, an, av, ap, asy, apk⟩ V1 V2 V3').toArray 70, blk g5 fnsV.toArray 194] ⟨g3, 2, none⟩ (.int .i64 ac) from Rd.blk (by rfl)).alln
    have q3 := (show Rd w0 [blk g3 (actC ⟨3, ah, ac, an, av, ap, asy, apk⟩ V1 V2 V3').toArray 70, blk g5 fnsV.toArray 194] ⟨g3, 3, none⟩ (.int .i64 an) from Rd.blk (by rfl)).alln
    have q4 := (show Rd w0 [blk g3 (actC ⟨3, ah, ac, an, av, ap, asy, apk⟩ V1 V2 V3').toArray 70, blk g5 fnsV.toArray 194] ⟨g3, 4, none⟩ (.int .i64 av.k) from Rd.blk (by rfl)).alln
    have q5 := (show Rd w0 [blk g3 (actC ⟨3, ah, ac, an, av, ap, asy, apk⟩ V1 V2 V3').toArray 70, blk g5 fnsV.toArray 194] ⟨g3, 5, none⟩ (.int .i64 av.a) from Rd.blk (by rfl)).alln
    have q6 := (show Rd w0 [blk g3 (actC ⟨3, ah, ac, an, av, ap, asy, apk⟩ V1 V2 V3').toArray 70, blk g5 fnsV.toArray 194] ⟨g3, 6, none⟩ (.int .i64 av.b) from Rd.blk (by rfl)).alln
    have q7 := (show Rd w0 [blk g3 (actC ⟨3, ah, ac, an, av, ap, asy, apk⟩ V1 V2 V3').toArray 70, blk g5 fnsV.toArray 194] ⟨g3, 7, none⟩ (V1) from Rd.blk (by rfl)).alln
    have q8 := (show Rd w0 [blk g3 (actC ⟨3, ah, ac, an, av, ap, asy, apk⟩ V1 V2 V3').toArray 70, blk g5 fnsV.toArray 194] ⟨g3, 8, none⟩ (V2) from Rd.blk (by rfl)).alln
    have q9 := (show Rd w0 [blk g3 (actC ⟨3, ah, ac, an, av, ap, asy, apk⟩ V1 V2 V3').toArray 70, blk g5 fnsV.toArray 194] ⟨g3, 9, none⟩ (V3') from Rd.blk (by rfl)).alln
    simp only [opsAt, List.getElem?_toArray, List.getElem?_cons_succ, List.getElem?_cons_zero]
    repeat (go_big_quiet_step (fail))
    refine wpQuiet_nil ?_
    clear hne r0 q0 q1 q2 q3 q4 q5 q6 q7 q8 q9
    replace hs := hs.drew
    refine wpMix_next [6, 7] (by kernel_rfl) (by simp) (fun c hc => ?_)
    simp only [List.mem_cons, List.not_mem_nil, or_false] at hc
    rcases hc with rfl | rfl
    · skip
      refine ⟨_, rfl, ?_⟩
      have hsC : St w0 (ScB S W C hl :: WoB W E A R X Q n s :: ([blk g3 (actC ⟨3, ah, ac, an, av, ap, asy, apk⟩ V1 V2 V3').toArray 70, blk g5 fnsV.toArray 194, blk g4 (rpS (RpP.err 0) Sls5.nil).toArray 53] ++ L)) _ := hs.ent (by show Ent _ (ScB S W C hl :: WoB W E A R X Q n s :: blk g3 (actC ⟨3, ah, ac, an, av, ap, asy, apk⟩ V1 V2 V3').toArray 70 :: blk g5 fnsV.toArray 194 :: blk g4 (rpS (RpP.err 0) Sls5.nil).toArray 53 :: L); (repeat first | exact Ent.refl _ | refine Ent.step (by repeat first | exact Ent.refl _ | apply Ent.skip) ?_))
      clear hs
      go_wp2_with (first
        | (go_at_call 136; refine (HC.out _ _ hsC).mono ?_; clear hsC; rintro r w ⟨v, rfl, hs, z, rfl⟩))
      replace hs : St w0 (RpB (.agg (rpS rp z).toArray) rp :: m1 :: m2 :: blk g3 (actC ⟨3, ah, ac, an, av, ap, asy, apk⟩ V1 V2 V3').toArray 70 :: blk g5 fnsV.toArray 194 :: blk g4 (rpS (RpP.err 0) Sls5.nil).toArray 53 :: L) w := hs
      replace hs : St w0 (blk g3 (actC ⟨3, ah, ac, an, av, ap, asy, apk⟩ V1 V2 V3').toArray 70 :: blk g5 fnsV.toArray 194 :: RpB (.agg (rpS rp z).toArray) rp :: m1 :: m2 :: blk g4 (rpS (RpP.err 0) Sls5.nil).toArray 53 :: L) w := hs.ent (by (repeat first | exact Ent.refl _ | refine Ent.step (by repeat first | exact Ent.refl _ | apply Ent.skip) ?_))
      refine mix_quiet [] [7, 8] hs.only2 (by kernel_rfl) (by kernel_rfl) fun hne => ?_
      simp only [opsAt]
      refine wpQuiet_nil ?_
      clear hne
      refine wpMix_next [7] (by kernel_rfl) (by simp) (fun c hc => ?_)
      simp only [List.mem_singleton] at hc
      subst hc
      refine ⟨_, rfl, ?_⟩
      refine wpl_alloc zeroRep hs ?_
      clear hs
      intro g6 w hs
      replace hs : St w0 (blk g6 (rpS (RpP.err 0) Sls5.nil).toArray 53 :: _) w := hs
      replace hs : St w0 (blk g3 (actC ⟨3, ah, ac, an, av, ap, asy, apk⟩ V1 V2 V3').toArray 70 :: blk g5 fnsV.toArray 194 :: RpB (.agg (rpS rp z).toArray) rp :: m1 :: m2 :: blk g4 (rpS (RpP.err 0) Sls5.nil).toArray 53 :: blk g6 (rpS (RpP.err 0) Sls5.nil).toArray 53 :: L) w := hs.ent (by (repeat first | exact Ent.refl _ | refine Ent.step (by repeat first | exact Ent.refl _ | apply Ent.skip) ?_))
      refine wpList_nil ⟨rfl, ?_⟩
      refine mix_quiet [] [8] hs.only2 (by kernel_rfl) (by kernel_rfl) fun hne => ?_
      simp only [opsAt]
      refine wpQuiet_nil ?_
      clear hne
      refine wpMix_next [8] (by kernel_rfl) (by simp) (fun c hc => ?_)
      simp only [List.mem_singleton] at hc
      subst hc
      refine ⟨_, rfl, ?_⟩
      replace hs : St w0 (blk g6 (rpS (RpP.err 0) Sls5.nil).toArray 53 :: blk g3 (actC ⟨3, ah, ac, an, av, ap, asy, apk⟩ V1 V2 V3').toArray 70 :: blk g5 fnsV.toArray 194 :: RpB (.agg (rpS rp z).toArray) rp :: m1 :: m2 :: blk g4 (rpS (RpP.err 0) Sls5.nil).toArray 53 :: L) w := hs.ent (by (repeat first | exact Ent.refl _ | refine Ent.step (by repeat first | exact Ent.refl _ | apply Ent.skip) ?_))
      refine wpl_store_agg (v := .agg (rpS rp z).toArray) rfl rfl (sizeRepv _ _) hs WrA.slotRep ?_
      clear hs
      intro w hs
      replace hs : St w0 (blk g3 (actC ⟨3, ah, ac, an, av, ap, asy, apk⟩ V1 V2 V3').toArray 70 :: blk g5 fnsV.toArray 194 :: RpB (.agg (rpS rp z).toArray) rp :: m1 :: m2 :: blk g4 (rpS (RpP.err 0) Sls5.nil).toArray 53 :: blk g6 (rpS rp z).toArray 53 :: L) w := hs.ent (by (repeat first | exact Ent.refl _ | refine Ent.step (by repeat first | exact Ent.refl _ | apply Ent.skip) ?_))
      refine wpList_nil ⟨rfl, ?_⟩
      refine mix_quiet [] [] hs.only2 (by kernel_rfl) (by kernel_rfl) fun hne => ?_
      simp only [opsAt]
      refine wpQuiet_nil ?_
      clear hne
      refine wpMix_end ?_
      go_wp2
      go_meet
      exact ⟨g6, z, rfl, hs.ent (by (repeat first | exact Ent.refl _ | refine Ent.step (by repeat first | exact Ent.refl _ | apply Ent.skip) ?_))⟩
    · skip
      refine ⟨_, rfl, ?_⟩
      refine wpl_alloc zeroRep hs ?_
      clear hs
      intro g6 w hs
      replace hs : St w0 (blk g6 (rpS (RpP.err 0) Sls5.nil).toArray 53 :: _) w := hs
      replace hs : St w0 (blk g3 (actC ⟨3, ah, ac, an, av, ap, asy, apk⟩ V1 V2 V3').toArray 70 :: blk g5 fnsV.toArray 194 :: ScB S W C hl :: WoB W E A R X Q n s :: blk g4 (rpS (RpP.err 0) Sls5.nil).toArray 53 :: blk g6 (rpS (RpP.err 0) Sls5.nil).toArray 53 :: L) w := hs.ent (by (repeat first | exact Ent.refl _ | refine Ent.step (by repeat first | exact Ent.refl _ | apply Ent.skip) ?_))
      refine wpList_nil ⟨rfl, ?_⟩
      refine mix_quiet [] [6, 8] hs.only2 (by kernel_rfl) (by kernel_rfl) fun hne => ?_
      simp only [opsAt]
      refine wpQuiet_nil ?_
      clear hne
      refine wpMix_next [6] (by kernel_rfl) (by simp) (fun c hc => ?_)
      simp only [List.mem_singleton] at hc
      subst hc
      refine ⟨_, rfl, ?_⟩
      have hsC : St w0 (ScB S W C hl :: WoB W E A R X Q n s :: ([blk g3 (actC ⟨3, ah, ac, an, av, ap, asy, apk⟩ V1 V2 V3').toArray 70, blk g5 fnsV.toArray 194, blk g4 (rpS (RpP.err 0) Sls5.nil).toArray 53, blk g6 (rpS (RpP.err 0) Sls5.nil).toArray 53] ++ L)) _ := hs.ent (by show Ent _ (ScB S W C hl :: WoB W E A R X Q n s :: blk g3 (actC ⟨3, ah, ac, an, av, ap, asy, apk⟩ V1 V2 V3').toArray 70 :: blk g5 fnsV.toArray 194 :: blk g4 (rpS (RpP.err 0) Sls5.nil).toArray 53 :: blk g6 (rpS (RpP.err 0) Sls5.nil).toArray 53 :: L); (repeat first | exact Ent.refl _ | refine Ent.step (by repeat first | exact Ent.refl _ | apply Ent.skip) ?_))
      clear hs
      go_wp2_with (first
        | (go_at_call 136; refine (HC.out _ _ hsC).mono ?_; clear hsC; rintro r w ⟨v, rfl, hs, z, rfl⟩))
      replace hs : St w0 (RpB (.agg (rpS rp z).toArray) rp :: m1 :: m2 :: blk g3 (actC ⟨3, ah, ac, an, av, ap, asy, apk⟩ V1 V2 V3').toArray 70 :: blk g5 fnsV.toArray 194 :: blk g4 (rpS (RpP.err 0) Sls5.nil).toArray 53 :: blk g6 (rpS (RpP.err 0) Sls5.nil).toArray 53 :: L) w := hs
      replace hs : St w0 (blk g3 (actC ⟨3, ah, ac, an, av, ap, asy, apk⟩ V1 V2 V3').toArray 70 :: blk g5 fnsV.toArray 194 :: RpB (.agg (rpS rp z).toArray) rp :: m1 :: m2 :: blk g4 (rpS (RpP.err 0) Sls5.nil).toArray 53 :: blk g6 (rpS (RpP.err 0) Sls5.nil).toArray 53 :: L) w := hs.ent (by (repeat first | exact Ent.refl _ | refine Ent.step (by repeat first | exact Ent.refl _ | apply Ent.skip) ?_))
      refine mix_quiet [] [8] hs.only2 (by kernel_rfl) (by kernel_rfl) fun hne => ?_
      simp only [opsAt]
      refine wpQuiet_nil ?_
      clear hne
      refine wpMix_next [8] (by kernel_rfl) (by simp) (fun c hc => ?_)
      simp only [List.mem_singleton] at hc
      subst hc
      refine ⟨_, rfl, ?_⟩
      replace hs : St w0 (blk g6 (rpS (RpP.err 0) Sls5.nil).toArray 53 :: blk g3 (actC ⟨3, ah, ac, an, av, ap, asy, apk⟩ V1 V2 V3').toArray 70 :: blk g5 fnsV.toArray 194 :: RpB (.agg (rpS rp z).toArray) rp :: m1 :: m2 :: blk g4 (rpS (RpP.err 0) Sls5.nil).toArray 53 :: L) w := hs.ent (by (repeat first | exact Ent.refl _ | refine Ent.step (by repeat first | exact Ent.refl _ | apply Ent.skip) ?_))
      refine wpl_store_agg (v := .agg (rpS rp z).toArray) rfl rfl (sizeRepv _ _) hs WrA.slotRep ?_
      clear hs
      intro w hs
      replace hs : St w0 (blk g3 (actC ⟨3, ah, ac, an, av, ap, asy, apk⟩ V1 V2 V3').toArray 70 :: blk g5 fnsV.toArray 194 :: RpB (.agg (rpS rp z).toArray) rp :: m1 :: m2 :: blk g4 (rpS (RpP.err 0) Sls5.nil).toArray 53 :: blk g6 (rpS rp z).toArray 53 :: L) w := hs.ent (by (repeat first | exact Ent.refl _ | refine Ent.step (by repeat first | exact Ent.refl _ | apply Ent.skip) ?_))
      refine wpList_nil ⟨rfl, ?_⟩
      refine mix_quiet [] [] hs.only2 (by kernel_rfl) (by kernel_rfl) fun hne => ?_
      simp only [opsAt]
      refine wpQuiet_nil ?_
      clear hne
      refine wpMix_end ?_
      go_wp2
      go_meet
      exact ⟨g6, z, rfl, hs.ent (by (repeat first | exact Ent.refl _ | refine Ent.step (by repeat first | exact Ent.refl _ | apply Ent.skip) ?_))⟩
  case rest =>
    clear hs
    obtain ⟨g6, z, rfl, hs⟩ := hcut
    have c6 : World.cell? _ ⟨g6, 0, none⟩ = some (.int .i64 rp.e) := Rd.blk (by rfl) _ hs
    by_cases h0 : rp.e = 0
    · have d0 : (rp.e != 0) = false := by simp [h0]
      have HF : Hid (rp.fin = rp) := by rw [Hid]; unfold RpP.fin; rw [if_pos h0]
      clear h0
      go_wp2_with (first
        | (refine wpl_load_agg (cs := rpS rp z) (b := g6) (o := 0) rfl aggRep (sizeRep _ _) hs (fun j u hu => by rw [Nat.zero_add]; exact Rd.blk (by simpa using hu)) ?_)
        | (refine wpl_store_agg (v := .agg (rpS rp z).toArray) rfl rfl (sizeRepv _ _) (hs.rot) WrA.slotRep ?_; clear hs c6; intro w3 hs))
      refine bodyPost_at (results_cell1 Tryz.results21 rfl (hs.slot_run aggRep (sizeRep _ _))) rfl ?_
      rw [HF.out]
      exact ⟨_, rfl, (hs.drop.drop.ent (M := blk g3 (actC ⟨3, ah, ac, an, av, ap, asy, apk⟩ V1 V2 V3').toArray 70 :: blk g5 fnsV.toArray 194 :: RpB (.agg (rpS rp z).toArray) rp :: m1 :: m2 :: L) (by (repeat first | exact Ent.refl _ | refine Ent.step (by repeat first | exact Ent.refl _ | apply Ent.skip) ?_))).drop.drop, _, rfl⟩
    · have d0 : (rp.e != 0) = true := by simpa using h0
      have HF : Hid (rp.fin = RpP.err rp.e) := by rw [Hid]; unfold RpP.fin; rw [if_neg h0]
      clear h0
      go_wp2_with (first
        | (refine wpl_buildS (build_rerr rp.e) rfl ?_)
        | (refine wpl_store_agg (v := .agg (rpS (RpP.err rp.e) Sls5.nil).toArray) rfl rfl (sizeRepv _ _) (hs.rot) WrA.slotRep ?_; clear hs c6; intro w3 hs))
      refine bodyPost_at (results_cell1 Tryz.results21 rfl (hs.slot_run aggRep (sizeRep _ _))) rfl ?_
      rw [HF.out]
      exact ⟨_, rfl, (hs.drop.drop.drop.ent (M := blk g3 (actC ⟨3, ah, ac, an, av, ap, asy, apk⟩ V1 V2 V3').toArray 70 :: blk g5 fnsV.toArray 194 :: m1 :: m2 :: L) (by (repeat first | exact Ent.refl _ | refine Ent.step (by repeat first | exact Ent.refl _ | apply Ent.skip) ?_))).drop.drop.rpnil rfl rfl rfl rfl rfl rfl, _, rfl⟩
set_option maxHeartbeats 4000000 in
theorem scdo_insert {w0 w : World} {L : List As} {S W E A R X Q n : Nat} {C : Option Addr} {hl : List Hdl} {s : WoS} (hs : St w0 (ScB S W C hl :: WoB W E A R X Q n s :: L) w) {a : ActP} (hk : a.k = 4) {V1 V2 V3' : Value} {rp : RpP} {m1 m2 : As}
    (HC : Hid (∀ (K : List As) (w : World), St w0 (ScB S W C hl :: WoB W E A R X Q n s :: (K ++ L)) w → Calls Tryz.prog 137 #[.pointer (some ⟨S, 0, none⟩), .agg (actC a V1 V2 V3').toArray] w fun r w' => ∃ v, r = .returned v ∧ St w0 (RpB v rp :: m1 :: m2 :: (K ++ L)) w' ∧ ∃ z, v = .agg (rpS rp z).toArray)) :
    Calls Tryz.prog 21 #[.pointer (some ⟨S, 0, none⟩), .agg (actC a V1 V2 V3').toArray] w fun r w' => ∃ v, r = .returned v ∧ St w0 (RpB v rp.fin :: m1 :: m2 :: L) w' ∧ ∃ z, v = .agg (rpS rp.fin z).toArray := by
  obtain ⟨k, ah, ac, an, av, ap, asy, apk⟩ := a
  obtain rfl : k = 4 := hk
  go_enter Tryz.func21, Tryz.ntmps21
  go_upto_region 1 with (first
    | (refine wpl_box_v (v := .agg (actC ⟨4, ah, ac, an, av, ap, asy, apk⟩ V1 V2 V3').toArray) rfl hs ?_; clear hs; intro g3 w1 hs; replace hs : St w0 (blk g3 (actC ⟨4, ah, ac, an, av, ap, asy, apk⟩ V1 V2 V3').toArray 70 :: ScB S W C hl :: WoB W E A R X Q n s :: L) w1 := hs)
    | (refine wpl_alloc zeroRep hs ?_; clear hs; intro g4 w1 hs; replace hs : St w0 (blk g4 (rpS (RpP.err 0) Sls5.nil).toArray 53 :: blk g3 (actC ⟨4, ah, ac, an, av, ap, asy, apk⟩ V1 V2 V3').toArray 70 :: ScB S W C hl :: WoB W E A R X Q n s :: L) w1 := hs))
  have c0 : World.cell? _ ⟨g3, 0, none⟩ = some (.int .i64 4) := Rd.blk (by rfl) _ hs.rot
  go_upto_region 4 with (first
    | (go_at_call 70; refine fns_c.mono ?_; rintro r w ⟨rfl, hg⟩; replace hs := hs.grew hg; clear hg c0)
    | (refine wpl_alloc zeroFns hs ?_; clear hs; intro g5 w1 hs; replace hs : St w0 (blk g5 (List.replicate 22 Value.nilFunc).toArray 194 :: _) w1 := hs)
    | (refine wpl_store_agg (v := .agg fnsV.toArray) rfl rfl sizeFnv hs (WrA.slotFns (by rfl)) ?_; clear hs; intro w3 hs))
  replace hs : St w0 (blk g3 (actC ⟨4, ah, ac, an, av, ap, asy, apk⟩ V1 V2 V3').toArray 70 :: blk g5 fnsV.toArray 194 :: ScB S W C hl :: WoB W E A R X Q n s :: blk g4 (rpS (RpP.err 0) Sls5.nil).toArray 53 :: L) _ := hs.ent (by (repeat first | exact Ent.refl _ | refine Ent.step (by repeat first | exact Ent.refl _ | apply Ent.skip) ?_))
  simp only [Act.put, List.setIfInBounds_toArray, List.set_cons_succ, List.set_cons_zero]
  go_cut [6] from 17 to 23 (fun pv wx => ∃ g6 z, pv = .pointer (some ⟨g6, 0, none⟩) ∧ St w0 (blk g6 (rpS rp z).toArray 53 :: blk g4 (rpS (RpP.err 0) Sls5.nil).toArray 53 :: RpB (.agg (rpS rp z).toArray) rp :: m1 :: m2 :: blk g3 (actC ⟨4, ah, ac, an, av, ap, asy, apk⟩ V1 V2 V3').toArray 70 :: blk g5 fnsV.toArray 194 :: L) wx)
  case first =>
    refine wp_mix 3 [0, 1, 2, 3, 4, 5] [6, 7, 8] hs.only2 (by kernel_rfl) (by kernel_rfl) fun hne => ?_
    have r0 := ((show Rd w0 [blk g5 fnsV.toArray 194] ⟨g5, 4, none⟩ (.func (Fn.func 137) #[] #[]) from Rd.blk (by rfl)).tail (p := blk g3 (actC ⟨4, ah, ac, an, av, ap, asy, apk⟩ V1 V2 V3').toArray 70)).alln
    have q0 := (show Rd w0 [blk g3 (actC ⟨4, ah, ac, an, av, ap, asy, apk⟩ V1 V2 V3').toArray 70, blk g5 fnsV.toArray 194] ⟨g3, 0, none⟩ (.int .i64 4) from Rd.blk (by rfl)).alln
    have q1 := (show Rd w0 [blk g3 (actC ⟨4, ah, ac, an, av, ap, asy, apk⟩ V1 V2 V3').toArray 70, blk g5 fnsV.toArray 194] ⟨g3, 1, none⟩ (.int .i64 ah) from Rd.blk (by rfl)).alln
    have q2 := (show Rd w0 [blk g3 (actC ⟨4, ah, ac, an, av, ap, asy, apk⟩ V1 V2 V3').toArray 70, blk g5 fnsV.toArray 194] ⟨g3, 2, none⟩ (.int .i64 ac) from Rd.blk (by rfl)).alln
    have q3 := (show Rd w0 [blk g3 (actC ⟨4, ah, ac, an, av, ap, asy, apk⟩ V1 V2 V3').toArray 70, blk g5 fnsV.toArray 194] ⟨g3, 3, none⟩ (.int .i64 an) from Rd.blk (by rfl)).alln
    have q4 := (show Rd w0 [blk g3 (actC ⟨4, ah, ac, an, av, ap, asy, apk⟩ V1 V2 V3').toArray 70, blk g5 fnsV.toArray 194] ⟨g3, 4, none⟩ (.int .i64 av.k) from Rd.blk (by rfl)).alln
    have q5 := (show Rd w0 [blk g3 (actC ⟨4, ah, ac, an, av, ap, asy, apk⟩ V1 V2 V3').toArray 70, blk g5 fnsV.toArray 194] ⟨g3, 5, none⟩ (.int .i64 av.a) from Rd.blk (by rfl)).alln
    have q6 := (show Rd w0 [blk g3 (actC ⟨4, ah, ac, an, av, ap, asy, apk⟩ V1 V2 V3').toArray 70, blk g5 fnsV.toArray 194] ⟨g3, 6, none⟩ (.int .i64 av.b) from Rd.blk (by rfl)).alln
    have q7 := (show Rd w0 [blk g3 (actC ⟨4, ah, ac, an, av, ap, asy, apk⟩ V1 V2 V3').toArray 70, blk g5 fnsV.toArray 194] ⟨g3, 7, none⟩ (V1) from Rd.blk (by rfl)).alln
    have q8 := (show Rd w0 [blk g3 (actC ⟨4, ah, ac, an, av, ap, asy, apk⟩ V1 V2 V3').toArray 70, blk g5 fnsV.toArray 194] ⟨g3, 8, none⟩ (V2) from Rd.blk (by rfl)).alln
    have q9 := (show Rd w0 [blk g3 (actC ⟨4, ah, ac, an, av, ap, asy, apk⟩ V1 V2 V3').toArray 70, blk g5 fnsV.toArray 194] ⟨g3, 9, none⟩ (V3') from Rd.blk (by rfl)).alln
    simp only [opsAt, List.getElem?_toArray, List.getElem?_cons_succ, List.getElem?_cons_zero]
    repeat (go_big_quiet_step (fail))
    refine wpQuiet_nil ?_
    clear hne r0 q0 q1 q2 q3 q4 q5 q6 q7 q8 q9
    replace hs := hs.drew
    refine wpMix_next [6, 7] (by kernel_rfl) (by simp) (fun c hc => ?_)
    simp only [List.mem_cons, List.not_mem_nil, or_false] at hc
    rcases hc with rfl | rfl
    · skip
      refine ⟨_, rfl, ?_⟩
      have hsC : St w0 (ScB S W C hl :: WoB W E A R X Q n s :: ([blk g3 (actC ⟨4, ah, ac, an, av, ap, asy, apk⟩ V1 V2 V3').toArray 70, blk g5 fnsV.toArray 194, blk g4 (rpS (RpP.err 0) Sls5.nil).toArray 53] ++ L)) _ := hs.ent (by show Ent _ (ScB S W C hl :: WoB W E A R X Q n s :: blk g3 (actC ⟨4, ah, ac, an, av, ap, asy, apk⟩ V1 V2 V3').toArray 70 :: blk g5 fnsV.toArray 194 :: blk g4 (rpS (RpP.err 0) Sls5.nil).toArray 53 :: L); (repeat first | exact Ent.refl _ | refine Ent.step (by repeat first | exact Ent.refl _ | apply Ent.skip) ?_))
      clear hs
      go_wp2_with (first
        | (go_at_call 137; refine (HC.out _ _ hsC).mono ?_; clear hsC; rintro r w ⟨v, rfl, hs, z, rfl⟩))
      replace hs : St w0 (RpB (.agg (rpS rp z).toArray) rp :: m1 :: m2 :: blk g3 (actC ⟨4, ah, ac, an, av, ap, asy, apk⟩ V1 V2 V3').toArray 70 :: blk g5 fnsV.toArray 194 :: blk g4 (rpS (RpP.err 0) Sls5.nil).toArray 53 :: L) w := hs
      replace hs : St w0 (blk g3 (actC ⟨4, ah, ac, an, av, ap, asy, apk⟩ V1 V2 V3').toArray 70 :: blk g5 fnsV.toArray 194 :: RpB (.agg (rpS rp z).toArray) rp :: m1 :: m2 :: blk g4 (rpS (RpP.err 0) Sls5.nil).toArray 53 :: L) w := hs.ent (by (repeat first | exact Ent.refl _ | refine Ent.step (by repeat first | exact Ent.refl _ | apply Ent.skip) ?_))
      refine mix_quiet [] [7, 8] hs.only2 (by kernel_rfl) (by kernel_rfl) fun hne => ?_
      simp only [opsAt]
      refine wpQuiet_nil ?_
      clear hne
      refine wpMix_next [7] (by kernel_rfl) (by simp) (fun c hc => ?_)
      simp only [List.mem_singleton] at hc
      subst hc
      refine ⟨_, rfl, ?_⟩
      refine wpl_alloc zeroRep hs ?_
      clear hs
      intro g6 w hs
      replace hs : St w0 (blk g6 (rpS (RpP.err 0) Sls5.nil).toArray 53 :: _) w := hs
      replace hs : St w0 (blk g3 (actC ⟨4, ah, ac, an, av, ap, asy, apk⟩ V1 V2 V3').toArray 70 :: blk g5 fnsV.toArray 194 :: RpB (.agg (rpS rp z).toArray) rp :: m1 :: m2 :: blk g4 (rpS (RpP.err 0) Sls5.nil).toArray 53 :: blk g6 (rpS (RpP.err 0) Sls5.nil).toArray 53 :: L) w := hs.ent (by (repeat first | exact Ent.refl _ | refine Ent.step (by repeat first | exact Ent.refl _ | apply Ent.skip) ?_))
      refine wpList_nil ⟨rfl, ?_⟩
      refine mix_quiet [] [8] hs.only2 (by kernel_rfl) (by kernel_rfl) fun hne => ?_
      simp only [opsAt]
      refine wpQuiet_nil ?_
      clear hne
      refine wpMix_next [8] (by kernel_rfl) (by simp) (fun c hc => ?_)
      simp only [List.mem_singleton] at hc
      subst hc
      refine ⟨_, rfl, ?_⟩
      replace hs : St w0 (blk g6 (rpS (RpP.err 0) Sls5.nil).toArray 53 :: blk g3 (actC ⟨4, ah, ac, an, av, ap, asy, apk⟩ V1 V2 V3').toArray 70 :: blk g5 fnsV.toArray 194 :: RpB (.agg (rpS rp z).toArray) rp :: m1 :: m2 :: blk g4 (rpS (RpP.err 0) Sls5.nil).toArray 53 :: L) w := hs.ent (by (repeat first | exact Ent.refl _ | refine Ent.step (by repeat first | exact Ent.refl _ | apply Ent.skip) ?_))
      refine wpl_store_agg (v := .agg (rpS rp z).toArray) rfl rfl (sizeRepv _ _) hs WrA.slotRep ?_
      clear hs
      intro w hs
      replace hs : St w0 (blk g3 (actC ⟨4, ah, ac, an, av, ap, asy, apk⟩ V1 V2 V3').toArray 70 :: blk g5 fnsV.toArray 194 :: RpB (.agg (rpS rp z).toArray) rp :: m1 :: m2 :: blk g4 (rpS (RpP.err 0) Sls5.nil).toArray 53 :: blk g6 (rpS rp z).toArray 53 :: L) w := hs.ent (by (repeat first | exact Ent.refl _ | refine Ent.step (by repeat first | exact Ent.refl _ | apply Ent.skip) ?_))
      refine wpList_nil ⟨rfl, ?_⟩
      refine mix_quiet [] [] hs.only2 (by kernel_rfl) (by kernel_rfl) fun hne => ?_
      simp only [opsAt]
      refine wpQuiet_nil ?_
      clear hne
      refine wpMix_end ?_
      go_wp2
      go_meet
      exact ⟨g6, z, rfl, hs.ent (by (repeat first | exact Ent.refl _ | refine Ent.step (by repeat first | exact Ent.refl _ | apply Ent.skip) ?_))⟩
    · skip
      refine ⟨_, rfl, ?_⟩
      refine wpl_alloc zeroRep hs ?_
      clear hs
      intro g6 w hs
      replace hs : St w0 (blk g6 (rpS (RpP.err 0) Sls5.nil).toArray 53 :: _) w := hs
      replace hs : St w0 (blk g3 (actC ⟨4, ah, ac, an, av, ap, asy, apk⟩ V1 V2 V3').toArray 70 :: blk g5 fnsV.toArray 194 :: ScB S W C hl :: WoB W E A R X Q n s :: blk g4 (rpS (RpP.err 0) Sls5.nil).toArray 53 :: blk g6 (rpS (RpP.err 0) Sls5.nil).toArray 53 :: L) w := hs.ent (by (repeat first | exact Ent.refl _ | refine Ent.step (by repeat first | exact Ent.refl _ | apply Ent.skip) ?_))
      refine wpList_nil ⟨rfl, ?_⟩
      refine mix_quiet [] [6, 8] hs.only2 (by kernel_rfl) (by kernel_rfl) fun hne => ?_
      simp only [opsAt]
      refine wpQuiet_nil ?_
      clear hne
      refine wpMix_next [6] (by kernel_rfl) (by simp) (fun c hc => ?_)
      simp only [List.mem_singleton] at hc
      subst hc
      refine ⟨_, rfl, ?_⟩
      have hsC : St w0 (ScB S W C hl :: WoB W E A R X Q n s :: ([blk g3 (actC ⟨4, ah, ac, an, av, ap, asy, apk⟩ V1 V2 V3').toArray 70, blk g5 fnsV.toArray 194, blk g4 (rpS (RpP.err 0) Sls5.nil).toArray 53, blk g6 (rpS (RpP.err 0) Sls5.nil).toArray 53] ++ L)) _ := hs.ent (by show Ent _ (ScB S W C hl :: WoB W E A R X Q n s :: blk g3 (actC ⟨4, ah, ac, an, av, ap, asy, apk⟩ V1 V2 V3').toArray 70 :: blk g5 fnsV.toArray 194 :: blk g4 (rpS (RpP.err 0) Sls5.nil).toArray 53 :: blk g6 (rpS (RpP.err 0) Sls5.nil).toArray 53 :: L); (repeat first | exact Ent.refl _ | refine Ent.step (by repeat first | exact Ent.refl _ | apply Ent.skip) ?_))
      clear hs
      go_wp2_with (first
        | (go_at_call 137; refine (HC.out _ _ hsC).mono ?_; clear hsC; rintro r w ⟨v, rfl, hs, z, rfl⟩))
      replace hs : St w0 (RpB (.agg (rpS rp z).toArray) rp :: m1 :: m2 :: blk g3 (actC ⟨4, ah, ac, an, av, ap, asy, apk⟩ V1 V2 V3').toArray 70 :: blk g5 fnsV.toArray 194 :: blk g4 (rpS (RpP.err 0) Sls5.nil).toArray 53 :: blk g6 (rpS (RpP.err 0) Sls5.nil).toArray 53 :: L) w := hs
      replace hs : St w0 (blk g3 (actC ⟨4, ah, ac, an, av, ap, asy, apk⟩ V1 V2 V3').toArray 70 :: blk g5 fnsV.toArray 194 :: RpB (.agg (rpS rp z).toArray) rp :: m1 :: m2 :: blk g4 (rpS (RpP.err 0) Sls5.nil).toArray 53 :: blk g6 (rpS (RpP.err 0) Sls5.nil).toArray 53 :: L) w := hs.ent (by (repeat first | exact Ent.refl _ | refine Ent.step (by repeat first | exact Ent.refl _ | apply Ent.skip) ?_))
      refine mix_quiet [] [8] hs.only2 (by kernel_rfl) (by kernel_rfl) fun hne => ?_
      simp only [opsAt]
      refine wpQuiet_nil ?_
      clear hne
      refine wpMix_next [8] (by kernel_rfl) (by simp) (fun c hc => ?_)
      simp only [List.mem_singleton] at hc
      subst hc
      refine ⟨_, rfl, ?_⟩
      replace hs : St w0 (blk g6 (rpS (RpP.err 0) Sls5.nil).toArray 53 :: blk g3 (actC ⟨4, ah, ac, an, av, ap, asy, apk⟩ V1 V2 V3').toArray 70 :: blk g5 fnsV.toArray 194 :: RpB (.agg (rpS rp z).toArray) rp :: m1 :: m2 :: blk g4 (rpS (RpP.err 0) Sls5.nil).toArray 53 :: L) w := hs.ent (by (repeat first | exact Ent.refl _ | refine Ent.step (by repeat first | exact Ent.refl _ | apply Ent.skip) ?_))
      refine wpl_store_agg (v := .agg (rpS rp z).toArray) rfl rfl (sizeRepv _ _) hs WrA.slotRep ?_
      clear hs
      intro w hs
      replace hs : St w0 (blk g3 (actC ⟨4, ah, ac, an, av, ap, asy, apk⟩ V1 V2 V3').toArray 70 :: blk g5 fnsV.toArray 194 :: RpB (.agg (rpS rp z).toArray) rp :: m1 :: m2 :: blk g4 (rpS (RpP.err 0) Sls5.nil).toArray 53 :: blk g6 (rpS rp z).toArray 53 :: L) w := hs.ent (by (repeat first | exact Ent.refl _ | refine Ent.step (by repeat first | exact Ent.refl _ | apply Ent.skip) ?_))
      refine wpList_nil ⟨rfl, ?_⟩
      refine mix_quiet [] [] hs.only2 (by kernel_rfl) (by kernel_rfl) fun hne => ?_
      simp only [opsAt]
      refine wpQuiet_nil ?_
      clear hne
      refine wpMix_end ?_
      go_wp2
      go_meet
      exact ⟨g6, z, rfl, hs.ent (by (repeat first | exact Ent.refl _ | refine Ent.step (by repeat first | exact Ent.refl _ | apply Ent.skip) ?_))⟩
  case rest =>
    clear hs
    obtain ⟨g6, z, rfl, hs⟩ := hcut
    have c6 : World.cell? _ ⟨g6, 0, none⟩ = some (.int .i64 rp.e) := Rd.blk (by rfl) _ hs
    by_cases h0 : rp.e = 0
    · have d0 : (rp.e != 0) = false := by simp [h0]
      have HF : Hid (rp.fin = rp) := by rw [Hid]; unfold RpP.fin; rw [if_pos h0]
      clear h0
      go_wp2_with (first
        | (refine wpl_load_agg (cs := rpS rp z) (b := g6) (o := 0) rfl aggRep (sizeRep _ _) hs (fun j u hu => by rw [Nat.zero_add]; exact Rd.blk (by simpa using hu)) ?_)
        | (refine wpl_store_agg (v := .agg (rpS rp z).toArray) rfl rfl (sizeRepv _ _) (hs.rot) WrA.slotRep ?_; clear hs c6; intro w3 hs))
      refine bodyPost_at (results_cell1 Tryz.results21 rfl (hs.slot_run aggRep (sizeRep _ _))) rfl ?_
      rw [HF.out]
      exact ⟨_, rfl, (hs.drop.drop.ent (M := blk g3 (actC ⟨4, ah, ac, an, av, ap, asy, apk⟩ V1 V2 V3').toArray 70 :: blk g5 fnsV.toArray 194 :: RpB (.agg (rpS rp z).toArray) rp :: m1 :: m2 :: L) (by (repeat first | exact Ent.refl _ | refine Ent.step (by repeat first | exact Ent.refl _ | apply Ent.skip) ?_))).drop.drop, _, rfl⟩
    · have d0 : (rp.e != 0) = true := by simpa using h0
      have HF : Hid (rp.fin = RpP.err rp.e) := by rw [Hid]; unfold RpP.fin; rw [if_neg h0]
      clear h0
      go_wp2_with (first
        | (refine wpl_buildS (build_rerr rp.e) rfl ?_)
        | (refine wpl_store_agg (v := .agg (rpS (RpP.err rp.e) Sls5.nil).toArray) rfl rfl (sizeRepv _ _) (hs.rot) WrA.slotRep ?_; clear hs c6; intro w3 hs))
      refine bodyPost_at (results_cell1 Tryz.results21 rfl (hs.slot_run aggRep (sizeRep _ _))) rfl ?_
      rw [HF.out]
      exact ⟨_, rfl, (hs.drop.drop.drop.ent (M := blk g3 (actC ⟨4, ah, ac, an, av, ap, asy, apk⟩ V1 V2 V3').toArray 70 :: blk g5 fnsV.toArray 194 :: m1 :: m2 :: L) (by (repeat first | exact Ent.refl _ | refine Ent.step (by repeat first | exact Ent.refl _ | apply Ent.skip) ?_))).drop.drop.rpnil rfl rfl rfl rfl rfl rfl, _, rfl⟩
set_option maxHeartbeats 4000000 in
theorem scdo_rows {w0 w : World} {L : List As} {S W E A R X Q n : Nat} {C : Option Addr} {hl : List Hdl} {s : WoS} (hs : St w0 (ScB S W C hl :: WoB W E A R X Q n s :: L) w) {a : ActP} (hk : a.k = 16) {V1 V2 V3' : Value} {rp : RpP} {m1 m2 : As}
    (HC : Hid (∀ (K : List As) (w : World), St w0 (ScB S W C hl :: WoB W E A R X Q n s :: (K ++ L)) w → Calls Tryz.prog 149 #[.pointer (some ⟨S, 0, none⟩), .agg (actC a V1 V2 V3').toArray] w fun r w' => ∃ v, r = .returned v ∧ St w0 (RpB v rp :: m1 :: m2 :: (K ++ L)) w' ∧ ∃ z, v = .agg (rpS rp z).toArray)) :
    Calls Tryz.prog 21 #[.pointer (some ⟨S, 0, none⟩), .agg (actC a V1 V2 V3').toArray] w fun r w' => ∃ v, r = .returned v ∧ St w0 (RpB v rp.fin :: m1 :: m2 :: L) w' ∧ ∃ z, v = .agg (rpS rp.fin z).toArray := by
  obtain ⟨k, ah, ac, an, av, ap, asy, apk⟩ := a
  obtain rfl : k = 16 := hk
  go_enter Tryz.func21, Tryz.ntmps21
  go_upto_region 1 with (first
    | (refine wpl_box_v (v := .agg (actC ⟨16, ah, ac, an, av, ap, asy, apk⟩ V1 V2 V3').toArray) rfl hs ?_; clear hs; intro g3 w1 hs; replace hs : St w0 (blk g3 (actC ⟨16, ah, ac, an, av, ap, asy, apk⟩ V1 V2 V3').toArray 70 :: ScB S W C hl :: WoB W E A R X Q n s :: L) w1 := hs)
    | (refine wpl_alloc zeroRep hs ?_; clear hs; intro g4 w1 hs; replace hs : St w0 (blk g4 (rpS (RpP.err 0) Sls5.nil).toArray 53 :: blk g3 (actC ⟨16, ah, ac, an, av, ap, asy, apk⟩ V1 V2 V3').toArray 70 :: ScB S W C hl :: WoB W E A R X Q n s :: L) w1 := hs))
  have c0 : World.cell? _ ⟨g3, 0, none⟩ = some (.int .i64 16) := Rd.blk (by rfl) _ hs.rot
  go_upto_region 4 with (first
    | (go_at_call 70; refine fns_c.mono ?_; rintro r w ⟨rfl, hg⟩; replace hs := hs.grew hg; clear hg c0)
    | (refine wpl_alloc zeroFns hs ?_; clear hs; intro g5 w1 hs; replace hs : St w0 (blk g5 (List.replicate 22 Value.nilFunc).toArray 194 :: _) w1 := hs)
    | (refine wpl_store_agg (v := .agg fnsV.toArray) rfl rfl sizeFnv hs (WrA.slotFns (by rfl)) ?_; clear hs; intro w3 hs))
  replace hs : St w0 (blk g3 (actC ⟨16, ah, ac, an, av, ap, asy, apk⟩ V1 V2 V3').toArray 70 :: blk g5 fnsV.toArray 194 :: ScB S W C hl :: WoB W E A R X Q n s :: blk g4 (rpS (RpP.err 0) Sls5.nil).toArray 53 :: L) _ := hs.ent (by (repeat first | exact Ent.refl _ | refine Ent.step (by repeat first | exact Ent.refl _ | apply Ent.skip) ?_))
  simp only [Act.put, List.setIfInBounds_toArray, List.set_cons_succ, List.set_cons_zero]
  go_cut [6] from 17 to 23 (fun pv wx => ∃ g6 z, pv = .pointer (some ⟨g6, 0, none⟩) ∧ St w0 (blk g6 (rpS rp z).toArray 53 :: blk g4 (rpS (RpP.err 0) Sls5.nil).toArray 53 :: RpB (.agg (rpS rp z).toArray) rp :: m1 :: m2 :: blk g3 (actC ⟨16, ah, ac, an, av, ap, asy, apk⟩ V1 V2 V3').toArray 70 :: blk g5 fnsV.toArray 194 :: L) wx)
  case first =>
    refine wp_mix 3 [0, 1, 2, 3, 4, 5] [6, 7, 8] hs.only2 (by kernel_rfl) (by kernel_rfl) fun hne => ?_
    have r0 := ((show Rd w0 [blk g5 fnsV.toArray 194] ⟨g5, 16, none⟩ (.func (Fn.func 149) #[] #[]) from Rd.blk (by rfl)).tail (p := blk g3 (actC ⟨16, ah, ac, an, av, ap, asy, apk⟩ V1 V2 V3').toArray 70)).alln
    have q0 := (show Rd w0 [blk g3 (actC ⟨16, ah, ac, an, av, ap, asy, apk⟩ V1 V2 V3').toArray 70, blk g5 fnsV.toArray 194] ⟨g3, 0, none⟩ (.int .i64 16) from Rd.blk (by rfl)).alln
    have q1 := (show Rd w0 [blk g3 (actC ⟨16, ah, ac, an, av, ap, asy, apk⟩ V1 V2 V3').toArray 70, blk g5 fnsV.toArray 194] ⟨g3, 1, none⟩ (.int .i64 ah) from Rd.blk (by rfl)).alln
    have q2 := (show Rd w0 [blk g3 (actC ⟨16, ah, ac, an, av, ap, asy, apk⟩ V1 V2 V3').toArray 70, blk g5 fnsV.toArray 194] ⟨g3, 2, none⟩ (.int .i64 ac) from Rd.blk (by rfl)).alln
    have q3 := (show Rd w0 [blk g3 (actC ⟨16, ah, ac, an, av, ap, asy, apk⟩ V1 V2 V3').toArray 70, blk g5 fnsV.toArray 194] ⟨g3, 3, none⟩ (.int .i64 an) from Rd.blk (by rfl)).alln
    have q4 := (show Rd w0 [blk g3 (actC ⟨16, ah, ac, an, av, ap, asy, apk⟩ V1 V2 V3').toArray 70, blk g5 fnsV.toArray 194] ⟨g3, 4, none⟩ (.int .i64 av.k) from Rd.blk (by rfl)).alln
    have q5 := (show Rd w0 [blk g3 (actC ⟨16, ah, ac, an, av, ap, asy, apk⟩ V1 V2 V3').toArray 70, blk g5 fnsV.toArray 194] ⟨g3, 5, none⟩ (.int .i64 av.a) from Rd.blk (by rfl)).alln
    have q6 := (show Rd w0 [blk g3 (actC ⟨16, ah, ac, an, av, ap, asy, apk⟩ V1 V2 V3').toArray 70, blk g5 fnsV.toArray 194] ⟨g3, 6, none⟩ (.int .i64 av.b) from Rd.blk (by rfl)).alln
    have q7 := (show Rd w0 [blk g3 (actC ⟨16, ah, ac, an, av, ap, asy, apk⟩ V1 V2 V3').toArray 70, blk g5 fnsV.toArray 194] ⟨g3, 7, none⟩ (V1) from Rd.blk (by rfl)).alln
    have q8 := (show Rd w0 [blk g3 (actC ⟨16, ah, ac, an, av, ap, asy, apk⟩ V1 V2 V3').toArray 70, blk g5 fnsV.toArray 194] ⟨g3, 8, none⟩ (V2) from Rd.blk (by rfl)).alln
    have q9 := (show Rd w0 [blk g3 (actC ⟨16, ah, ac, an, av, ap, asy, apk⟩ V1 V2 V3').toArray 70, blk g5 fnsV.toArray 194] ⟨g3, 9, none⟩ (V3') from Rd.blk (by rfl)).alln
    simp only [opsAt, List.getElem?_toArray, List.getElem?_cons_succ, List.getElem?_cons_zero]
    repeat (go_big_quiet_step (fail))
    refine wpQuiet_nil ?_
    clear hne r0 q0 q1 q2 q3 q4 q5 q6 q7 q8 q9
    replace hs := hs.drew
    refine wpMix_next [6, 7] (by kernel_rfl) (by simp) (fun c hc => ?_)
    simp only [List.mem_cons, List.not_mem_nil, or_false] at hc
    rcases hc with rfl | rfl
    · skip
      refine ⟨_, rfl, ?_⟩
      have hsC : St w0 (ScB S W C hl :: WoB W E A R X Q n s :: ([blk g3 (actC ⟨16, ah, ac, an, av, ap, asy, apk⟩ V1 V2 V3').toArray 70, blk g5 fnsV.toArray 194, blk g4 (rpS (RpP.err 0) Sls5.nil).toArray 53] ++ L)) _ := hs.ent (by show Ent _ (ScB S W C hl :: WoB W E A R X Q n s :: blk g3 (actC ⟨16, ah, ac, an, av, ap, asy, apk⟩ V1 V2 V3').toArray 70 :: blk g5 fnsV.toArray 194 :: blk g4 (rpS (RpP.err 0) Sls5.nil).toArray 53 :: L); (repeat first | exact Ent.refl _ | refine Ent.step (by repeat first | exact Ent.refl _ | apply Ent.skip) ?_))
      clear hs
      go_wp2_with (first
        | (go_at_call 149; refine (HC.out _ _ hsC).mono ?_; clear hsC; rintro r w ⟨v, rfl, hs, z, rfl⟩))
      replace hs : St w0 (RpB (.agg (rpS rp z).toArray) rp :: m1 :: m2 :: blk g3 (actC ⟨16, ah, ac, an, av, ap, asy, apk⟩ V1 V2 V3').toArray 70 :: blk g5 fnsV.toArray 194 :: blk g4 (rpS (RpP.err 0) Sls5.nil).toArray 53 :: L) w := hs
      replace hs : St w0 (blk g3 (actC ⟨16, ah, ac, an, av, ap, asy, apk⟩ V1 V2 V3').toArray 70 :: blk g5 fnsV.toArray 194 :: RpB (.agg (rpS rp z).toArray) rp :: m1 :: m2 :: blk g4 (rpS (RpP.err 0) Sls5.nil).toArray 53 :: L) w := hs.ent (by (repeat first | exact Ent.refl _ | refine Ent.step (by repeat first | exact Ent.refl _ | apply Ent.skip) ?_))
      refine mix_quiet [] [7, 8] hs.only2 (by kernel_rfl) (by kernel_rfl) fun hne => ?_
      simp only [opsAt]
      refine wpQuiet_nil ?_
      clear hne
      refine wpMix_next [7] (by kernel_rfl) (by simp) (fun c hc => ?_)
      simp only [List.mem_singleton] at hc
      subst hc
      refine ⟨_, rfl, ?_⟩
      refine wpl_alloc zeroRep hs ?_
      clear hs
      intro g6 w hs
      replace hs : St w0 (blk g6 (rpS (RpP.err 0) Sls5.nil).toArray 53 :: _) w := hs
      replace hs : St w0 (blk g3 (actC ⟨16, ah, ac, an, av, ap, asy, apk⟩ V1 V2 V3').toArray 70 :: blk g5 fnsV.toArray 194 :: RpB (.agg (rpS rp z).toArray) rp :: m1 :: m2 :: blk g4 (rpS (RpP.err 0) Sls5.nil).toArray 53 :: blk g6 (rpS (RpP.err 0) Sls5.nil).toArray 53 :: L) w := hs.ent (by (repeat first | exact Ent.refl _ | refine Ent.step (by repeat first | exact Ent.refl _ | apply Ent.skip) ?_))
      refine wpList_nil ⟨rfl, ?_⟩
      refine mix_quiet [] [8] hs.only2 (by kernel_rfl) (by kernel_rfl) fun hne => ?_
      simp only [opsAt]
      refine wpQuiet_nil ?_
      clear hne
      refine wpMix_next [8] (by kernel_rfl) (by simp) (fun c hc => ?_)
      simp only [List.mem_singleton] at hc
      subst hc
      refine ⟨_, rfl, ?_⟩
      replace hs : St w0 (blk g6 (rpS (RpP.err 0) Sls5.nil).toArray 53 :: blk g3 (actC ⟨16, ah, ac, an, av, ap, asy, apk⟩ V1 V2 V3').toArray 70 :: blk g5 fnsV.toArray 194 :: RpB (.agg (rpS rp z).toArray) rp :: m1 :: m2 :: blk g4 (rpS (RpP.err 0) Sls5.nil).toArray 53 :: L) w := hs.ent (by (repeat first | exact Ent.refl _ | refine Ent.step (by repeat first | exact Ent.refl _ | apply Ent.skip) ?_))
      refine wpl_store_agg (v := .agg (rpS rp z).toArray) rfl rfl (sizeRepv _ _) hs WrA.slotRep ?_
      clear hs
      intro w hs
      replace hs : St w0 (blk g3 (actC ⟨16, ah, ac, an, av, ap, asy, apk⟩ V1 V2 V3').toArray 70 :: blk g5 fnsV.toArray 194 :: RpB (.agg (rpS rp z).toArray) rp :: m1 :: m2 :: blk g4 (rpS (RpP.err 0) Sls5.nil).toArray 53 :: blk g6 (rpS rp z).toArray 53 :: L) w := hs.ent (by (repeat first | exact Ent.refl _ | refine Ent.step (by repeat first | exact Ent.refl _ | apply Ent.skip) ?_))
      refine wpList_nil ⟨rfl, ?_⟩
      refine mix_quiet [] [] hs.only2 (by kernel_rfl) (by kernel_rfl) fun hne => ?_
      simp only [opsAt]
      refine wpQuiet_nil ?_
      clear hne
      refine wpMix_end ?_
      go_wp2
      go_meet
      exact ⟨g6, z, rfl, hs.ent (by (repeat first | exact Ent.refl _ | refine Ent.step (by repeat first | exact Ent.refl _ | apply Ent.skip) ?_))⟩
    · skip
      refine ⟨_, rfl, ?_⟩
      refine wpl_alloc zeroRep hs ?_
      clear hs
      intro g6 w hs
      replace hs : St w0 (blk g6 (rpS (RpP.err 0) Sls5.nil).toArray 53 :: _) w := hs
      replace hs : St w0 (blk g3 (actC ⟨16, ah, ac, an, av, ap, asy, apk⟩ V1 V2 V3').toArray 70 :: blk g5 fnsV.toArray 194 :: ScB S W C hl :: WoB W E A R X Q n s :: blk g4 (rpS (RpP.err 0) Sls5.nil).toArray 53 :: blk g6 (rpS (RpP.err 0) Sls5.nil).toArray 53 :: L) w := hs.ent (by (repeat first | exact Ent.refl _ | refine Ent.step (by repeat first | exact Ent.refl _ | apply Ent.skip) ?_))
      refine wpList_nil ⟨rfl, ?_⟩
      refine mix_quiet [] [6, 8] hs.only2 (by kernel_rfl) (by kernel_rfl) fun hne => ?_
      simp only [opsAt]
      refine wpQuiet_nil ?_
      clear hne
      refine wpMix_next [6] (by kernel_rfl) (by simp) (fun c hc => ?_)
      simp only [List.mem_singleton] at hc
      subst hc
      refine ⟨_, rfl, ?_⟩
      have hsC : St w0 (ScB S W C hl :: WoB W E A R X Q n s :: ([blk g3 (actC ⟨16, ah, ac, an, av, ap, asy, apk⟩ V1 V2 V3').toArray 70, blk g5 fnsV.toArray 194, blk g4 (rpS (RpP.err 0) Sls5.nil).toArray 53, blk g6 (rpS (RpP.err 0) Sls5.nil).toArray 53] ++ L)) _ := hs.ent (by show Ent _ (ScB S W C hl :: WoB W E A R X Q n s :: blk g3 (actC ⟨16, ah, ac, an, av, ap, asy, apk⟩ V1 V2 V3').toArray 70 :: blk g5 fnsV.toArray 194 :: blk g4 (rpS (RpP.err 0) Sls5.nil).toArray 53 :: blk g6 (rpS (RpP.err 0) Sls5.nil).toArray 53 :: L); (repeat first | exact Ent.refl _ | refine Ent.step (by repeat first | exact Ent.refl _ | apply Ent.skip) ?_))
      clear hs
      go_wp2_with (first
        | (go_at_call 149; refine (HC.out _ _ hsC).mono ?_; clear hsC; rintro r w ⟨v, rfl, hs, z, rfl⟩))
      replace hs : St w0 (RpB (.agg (rpS rp z).toArray) rp :: m1 :: m2 :: blk g3 (actC ⟨16, ah, ac, an, av, ap, asy, apk⟩ V1 V2 V3').toArray 70 :: blk g5 fnsV.toArray 194 :: blk g4 (rpS (RpP.err 0) Sls5.nil).toArray 53 :: blk g6 (rpS (RpP.err 0) Sls5.nil).toArray 53 :: L) w := hs
      replace hs : St w0 (blk g3 (actC ⟨16, ah, ac, an, av, ap, asy, apk⟩ V1 V2 V3').toArray 70 :: blk g5 fnsV.toArray 194 :: RpB (.agg (rpS rp z).toArray) rp :: m1 :: m2 :: blk g4 (rpS (RpP.err 0) Sls5.nil).toArray 53 :: blk g6 (rpS (RpP.err 0) Sls5.nil).toArray 53 :: L) w := hs.ent (by (repeat first | exact Ent.refl _ | refine Ent.step (by repeat first | exact Ent.refl _ | apply Ent.skip) ?_))
      refine mix_quiet [] [8] hs.only2 (by kernel_rfl) (by kernel_rfl) fun hne => ?_
      simp only [opsAt]
      refine wpQuiet_nil ?_
      clear hne
      refine wpMix_next [8] (by kernel_rfl) (by simp) (fun c hc => ?_)
      simp only [List.mem_singleton] at hc
      subst hc
      refine ⟨_, rfl, ?_⟩
      replace hs : St w0 (blk g6 (rpS (RpP.err 0) Sls5.nil).toArray 53 :: blk g3 (actC ⟨16, ah, ac, an, av, ap, asy, apk⟩ V1 V2 V3').toArray 70 :: blk g5 fnsV.toArray 194 :: RpB (.agg (rpS rp z).toArray) rp :: m1 :: m2 :: blk g4 (rpS (RpP.err 0) Sls5.nil).toArray 53 :: L) w := hs.ent (by (repeat first | exact Ent.refl _ | refine Ent.step (by repeat first | exact Ent.refl _ | apply Ent.skip) ?_))
      refine wpl_store_agg (v := .agg (rpS rp z).toArray) rfl rfl (sizeRepv _ _) hs WrA.slotRep ?_
      clear hs
      intro w hs
      replace hs : St w0 (blk g3 (actC ⟨16, ah, ac, an, av, ap, asy, apk⟩ V1 V2 V3').toArray 70 :: blk g5 fnsV.toArray 194 :: RpB (.agg (rpS rp z).toArray) rp :: m1 :: m2 :: blk g4 (rpS (RpP.err 0) Sls5.nil).toArray 53 :: blk g6 (rpS rp z).toArray 53 :: L) w := hs.ent (by (repeat first | exact Ent.refl _ | refine Ent.step (by repeat first | exact Ent.refl _ | apply Ent.skip) ?_))
      refine wpList_nil ⟨rfl, ?_⟩
      refine mix_quiet [] [] hs.only2 (by kernel_rfl) (by kernel_rfl) fun hne => ?_
      simp only [opsAt]
      refine wpQuiet_nil ?_
      clear hne
      refine wpMix_end ?_
      go_wp2
      go_meet
      exact ⟨g6, z, rfl, hs.ent (by (repeat first | exact Ent.refl _ | refine Ent.step (by repeat first | exact Ent.refl _ | apply Ent.skip) ?_))⟩
  case rest =>
    clear hs
    obtain ⟨g6, z, rfl, hs⟩ := hcut
    have c6 : World.cell? _ ⟨g6, 0, none⟩ = some (.int .i64 rp.e) := Rd.blk (by rfl) _ hs
    by_cases h0 : rp.e = 0
    · have d0 : (rp.e != 0) = false := by simp [h0]
      have HF : Hid (rp.fin = rp) := by rw [Hid]; unfold RpP.fin; rw [if_pos h0]
      clear h0
      go_wp2_with (first
        | (refine wpl_load_agg (cs := rpS rp z) (b := g6) (o := 0) rfl aggRep (sizeRep _ _) hs (fun j u hu => by rw [Nat.zero_add]; exact Rd.blk (by simpa using hu)) ?_)
        | (refine wpl_store_agg (v := .agg (rpS rp z).toArray) rfl rfl (sizeRepv _ _) (hs.rot) WrA.slotRep ?_; clear hs c6; intro w3 hs))
      refine bodyPost_at (results_cell1 Tryz.results21 rfl (hs.slot_run aggRep (sizeRep _ _))) rfl ?_
      rw [HF.out]
      exact ⟨_, rfl, (hs.drop.drop.ent (M := blk g3 (actC ⟨16, ah, ac, an, av, ap, asy, apk⟩ V1 V2 V3').toArray 70 :: blk g5 fnsV.toArray 194 :: RpB (.agg (rpS rp z).toArray) rp :: m1 :: m2 :: L) (by (repeat first | exact Ent.refl _ | refine Ent.step (by repeat first | exact Ent.refl _ | apply Ent.skip) ?_))).drop.drop, _, rfl⟩
    · have d0 : (rp.e != 0) = true := by simpa using h0
      have HF : Hid (rp.fin = RpP.err rp.e) := by rw [Hid]; unfold RpP.fin; rw [if_neg h0]
      clear h0
      go_wp2_with (first
        | (refine wpl_buildS (build_rerr rp.e) rfl ?_)
        | (refine wpl_store_agg (v := .agg (rpS (RpP.err rp.e) Sls5.nil).toArray) rfl rfl (sizeRepv _ _) (hs.rot) WrA.slotRep ?_; clear hs c6; intro w3 hs))
      refine bodyPost_at (results_cell1 Tryz.results21 rfl (hs.slot_run aggRep (sizeRep _ _))) rfl ?_
      rw [HF.out]
      exact ⟨_, rfl, (hs.drop.drop.drop.ent (M := blk g3 (actC ⟨16, ah, ac, an, av, ap, asy, apk⟩ V1 V2 V3').toArray 70 :: blk g5 fnsV.toArray 194 :: m1 :: m2 :: L) (by (repeat first | exact Ent.refl _ | refine Ent.step (by repeat first | exact Ent.refl _ | apply Ent.skip) ?_))).drop.drop.rpnil rfl rfl rfl rfl rfl rfl, _, rfl⟩
end Go.Proofs.YtcnbmfaicbkhcaaGreatDoor

/-
  A script (script.Script): New, Run.
-/
set_option maxRecDepth 100000
namespace Go.Proofs.YtcnbmfaicbkhcaaGreatDoor
open Go Go.RowKit
attribute [local irreducible] wpList Calls Code.wp nameH hasH newA cs3 errDs
theorem build_sc (W : Nat) (w : World) : (Instr.build 142 #[(0, .pointer (some ⟨W, 0, none⟩))]).run Tryz.prog w = .ok (.agg (scC W none 0 0 none).toArray) w := by kernel_rfl
set_option maxHeartbeats 2000000 in
theorem scnew_c {w0 w : World} {L : List As} (hs : St w0 L w) {n : Nat} {top : Int} (h1 : 1 ≤ n) (h2 : n ≤ 65536) (h3 : 1 ≤ top) (h4 : top ≤ 4294967295) {A : Option Addr} {m cA : Nat} {ds : List V3} (hm : Hid (ds.length = m)) (hmb : m ≤ 140737488355328) (hr : RdS w0 L A (cs3 ds)) (he : Hid (errDs 0 ds = 0))
    {B : Option Addr} {k cB : Nat} {rs : List Int} (hB : B = none → k = 0 ∧ cB = 0) (hk : Hid (rs.length = k)) (hk2 : k ≤ 32) (hkc : k ≤ cB) (hrs : RdS w0 L B (i8v rs)) :
    Calls Tryz.prog 12 #[.agg (cfC (n : Nat) top A m cA B k cB).toArray] w fun r w' => ∃ S W E A1 R X Q l, Hid (NewL ds l) ∧ r = .returned (.tuple #[.pointer (some ⟨S, 0, none⟩), .int .i64 0]) ∧ St w0 (ScB S W none [] :: WoB W E A1 R X Q n ⟨⟨top, newA n, l⟩, [], rs, false⟩ :: L) w' := by
  go_enter Tryz.func12, Tryz.ntmps12
  go_wp2_with (first
    | (refine wpl_box_v (v := .agg (cfC (n : Nat) top A m cA B k cB).toArray) rfl hs ?_; clear hs; intro g1 w hs; replace hs : St w0 (blk g1 (cfC (n : Nat) top A m cA B k cB).toArray 27 :: L) w := hs)
    | (refine wpl_load_agg (cs := cfC (n : Nat) top A m cA B k cB) (b := g1) (o := 0) rfl aggCf (sizeCf _ _ _ _ _ _ _ _) hs (fun j u hu => by rw [Nat.zero_add]; exact Rd.blk (by simpa using hu)) ?_)
    | (go_at_call 33; refine (wo_new hs h1 h2 h3 h4 hm hmb hr.tail he hB hk hk2 hkc hrs.tail).mono ?_; clear hs; rintro r w ⟨W, E, A1, R, X, Q, l, HNL, rfl, hs⟩)
    | (refine wpl_buildS (build_sc W) rfl ?_)
    | (refine wpl_box_v (v := .agg (scC W none 0 0 none).toArray) rfl hs ?_; clear hs; intro S w hs; replace hs : St w0 (blk S (scC W none 0 0 none).toArray 142 :: _) w := hs))
  go_ret2
  refine ⟨S, W, E, A1, R, X, Q, l, HNL, rfl, ?_⟩
  have h5 := (hs.own_nil 39 2)
  have h6 := St.scshut (hl := []) rfl h5.rot
  exact h6.up2.drop.ent (by (repeat first | exact Ent.refl _ | refine Ent.step (by repeat first | exact Ent.refl _ | apply Ent.skip) ?_))
/-! ### Run -/
abbrev RS := RpP × Sls5
def rsC (x : RS) : List Value := rpS x.1 x.2
def RpsO (ps : List RS) : As := big (ps.map fun x => RpO x.1 x.2)
theorem St.rpopen {w0 w : World} {L : List As} {v : Value} {r : RpP} (hs : St w0 (RpB v r :: L) w) : ∃ s, v = .agg (rpS r s).toArray ∧ St w0 (RpO r s :: L) w := by
  obtain ⟨hb, x, t, hd, hx, y, z, hyz, e, ⟨s, hv, hh⟩, hz⟩ := hs
  exact ⟨s, hv, hb, x, t, hd, hx, y, z, hyz, e, hh, hz⟩
theorem St.rpsnil {w0 w : World} {L : List As} (hs : St w0 L w) : St w0 (RpsO [] :: L) w := hs.ent fun _ h => emp_star h
theorem St.rpssnoc {w0 w : World} {L : List As} {r : RpP} {s : Sls5} {ps : List RS} (hs : St w0 (RpO r s :: RpsO ps :: L) w) : St w0 (RpsO (ps ++ [(r, s)]) :: L) w := by
  refine hs.ent (Ent.shut2 fun h hh => ?_)
  have := big_snoc _ _ _ hh
  unfold RpsO
  rw [List.map_append]
  exact this
def actZ : ActP := ⟨0, 0, 0, 0, V3.z, [], [], []⟩
def actZC : List Value := actC actZ (.slice none 0 0) (.slice none 0 0) (.slice none 0 0)
theorem zeroAct : (Tryz.prog.info? 70).bind (·.zero) = some (.agg actZC.toArray) := by kernel_rfl
theorem aggAct : aggB Tryz.prog 70 = true := by kernel_rfl
theorem sizeActN : (Tryz.prog.info? 70).map (·.size) = some 10 := by kernel_rfl
theorem sizeAct {cs : List Value} (h : cs.length = 10) : (Tryz.prog.info? 70).map (·.size) = some cs.length := by rw [h]; exact sizeActN
theorem sizeActv {cs : List Value} (h : cs.length = 10) : (Tryz.prog.info? 70).map (·.size) = some (Value.agg cs.toArray).cells.size := by
  rw [show (Value.agg cs.toArray).cells.size = cs.length from rfl, h]; exact sizeActN
theorem WrA.slotAct {w0 : World} {g : Nat} {cs us : List Value} {t : TypeId} {L : List As} (h : cs.length = 10) (hu : us.length = 10) (h1 : ∀ u ∈ cs, u.oneCell' = true) : WrA w0 (YtcnbmfaicbkhcaaGreatDoor.blk g us.toArray t :: L) ⟨g, 0, none⟩ (Value.agg cs.toArray).cells.toList (YtcnbmfaicbkhcaaGreatDoor.blk g cs.toArray t :: L) := by
  have := WrA.blk (w0 := w0) (g := g) (o := 0) (cs := us) (t := t) (vs := cs) (L := L) (by rw [h, hu]; exact Nat.le_refl _) h1
  rwa [splice_all (by rw [h, hu])] at this
/-- Acts in a row. -/
def ActsL (w0 : World) (L : List As) (css : List (List Value)) (l : List ActP) : Prop := css.length = l.length ∧ ∀ (i : Nat) (cs : List Value) (x : ActP), css[i]? = some cs → l[i]? = some x → ActW w0 L cs x
theorem flatten_get {p : Nat} : ∀ {l : List (List Value)} (_ : ∀ x ∈ l, x.length = p) {i : Nat} {x : List Value}, l[i]? = some x → ∀ (j : Nat) (u : Value), x[j]? = some u → l.flatten[i * p + j]? = some u
  | [], _, i, x, h, _, _, _ => by simp at h
  | y :: l, hl, 0, x, h, j, u, hu => by
    simp only [List.getElem?_cons_zero, Option.some.injEq] at h
    subst h
    rw [List.flatten_cons, Nat.zero_mul, Nat.zero_add, List.getElem?_append_left (List.getElem?_eq_some_iff.1 hu).1]
    exact hu
  | y :: l, hl, i + 1, x, h, j, u, hu => by
    have := flatten_get (fun z hz => hl z (List.mem_cons_of_mem _ hz)) (by simpa using h) j u hu
    rw [List.flatten_cons, List.getElem?_append_right (by rw [hl y List.mem_cons_self, Nat.add_mul]; omega), hl y List.mem_cons_self, show (i + 1) * p + j - p = i * p + j by rw [Nat.add_mul]; omega]
    exact this
theorem elemRep : ElemOk Tryz.prog 33 53 23 264 := ElemOk.of Tryz.underlying33 (z := .agg (rpS (RpP.err 0) Sls5.nil).toArray) (by kernel_rfl) rfl (by decide)
theorem rps_snoc (ps : List RS) (x : RS) : (ps ++ [x]).flatMap rsC = ps.flatMap rsC ++ rsC x := by simp
/-- What Do does to each of some acts. -/
def DoH (w0 : World) (L : List As) (S : Nat) (css : List (List Value)) (m1 m2 : Nat → As) (rp : Nat → RpP) : Prop := ∀ (i : Nat) (cs : List Value), css[i]? = some cs → ∀ (K : List As) (w : World), St w0 (m1 i :: m2 i :: (K ++ L)) w →
  Calls Tryz.prog 21 #[.pointer (some ⟨S, 0, none⟩), .agg cs.toArray] w fun r w' => ∃ v, r = .returned v ∧ St w0 (RpB v (rp i) :: m1 (i + 1) :: m2 (i + 1) :: (K ++ L)) w' ∧ ∃ z, v = .agg (rpS (rp i) z).toArray
set_option maxHeartbeats 4000000 in
theorem scrun_c {w0 w : World} {L : List As} (hs : St w0 L w) {n : Nat} {top : Int} (h1 : 1 ≤ n) (h2 : n ≤ 65536) (h3 : 1 ≤ top) (h4 : top ≤ 4294967295) {A : Option Addr} {m cA : Nat} {ds : List V3} (hm : Hid (ds.length = m)) (hmb : m ≤ 140737488355328) (hr : RdS w0 L A (cs3 ds)) (he : Hid (errDs 0 ds = 0))
    {B : Option Addr} {k cB : Nat} {rs : List Int} (hB : B = none → k = 0 ∧ cB = 0) (hk : Hid (rs.length = k)) (hk2 : k ≤ 32) (hkc : k ≤ cB) (hrs : RdS w0 L B (i8v rs))
    {D : Option Addr} {q cD : Nat} {css : List (List Value)} (hq : Hid (css.length = q)) (hqb : q ≤ 1000000) (hcs : Hid (∀ cs ∈ css, cs.length = 10 ∧ ∀ u ∈ cs, u.oneCell' = true)) (hrd : RdS w0 L D css.flatten) {Φ : (Nat → RpP) → Prop}
    (HD : Hid (∀ (S W E A1 R X Q : Nat) (l : List Cmp), NewL ds l → ∃ (m1 m2 : Nat → As) (rp : Nat → RpP), m1 0 = ScB S W none [] ∧ m2 0 = WoB W E A1 R X Q n ⟨⟨top, newA n, l⟩, [], rs, false⟩ ∧ Φ rp ∧ DoH w0 L S css m1 m2 rp)) :
    Calls Tryz.prog 10 #[.agg (cfC (n : Nat) top A m cA B k cB).toArray, .slice D q cD] w fun r w' => ∃ rp Z cp ps, Φ rp ∧ r = .returned (.tuple #[.slice Z q cp, .int .i64 0]) ∧ Hid (ps.map Prod.fst = (List.range q).map rp) ∧ St w0 (own Z q cp 53 23 (ps.flatMap rsC) :: RpsO ps :: L) w' := by
  have HRD := Lib.hid hrd
  have hqb2 : q ≤ 9223372036854775807 := by omega
  clear hrd
  go_enter Tryz.func10, Tryz.ntmps10
  go_upto_region 4 with (first
    | (refine wpl_box_v (v := .agg (cfC (n : Nat) top A m cA B k cB).toArray) rfl hs ?_; clear hs; intro g1 w hs; replace hs : St w0 (blk g1 (cfC (n : Nat) top A m cA B k cB).toArray 27 :: L) w := hs)
    | (refine wpl_load_agg (cs := cfC (n : Nat) top A m cA B k cB) (b := g1) (o := 0) rfl aggCf (sizeCf _ _ _ _ _ _ _ _) hs (fun j u hu => by rw [Nat.zero_add]; exact Rd.blk (by simpa using hu)) ?_)
    | (go_at_call 12; refine (scnew_c hs h1 h2 h3 h4 hm hmb hr.tail he hB hk hk2 hkc hrs.tail).mono ?_; clear hs; rintro r w ⟨S, W, E, A1, R, X, Q, l, HNL, rfl, hs⟩))
  obtain ⟨m1, m2, rp, e1, e2, hphi, hdo⟩ := HD.out S W E A1 R X Q l HNL.out
  have HDO := Lib.hid hdo
  have HPHI := Lib.hid hphi
  rw [← e1, ← e2] at hs
  replace hs := ((hs.up2.drop).rpsnil.own_nil 53 23)
  replace hs : St w0 (m1 0 :: m2 0 :: own none 0 0 53 23 [] :: RpsO [] :: L) w := hs.ent (by (repeat first | exact Ent.refl _ | refine Ent.step (by repeat first | exact Ent.refl _ | apply Ent.skip) ?_))
  clear e1 e2 hdo hphi HD hr hrs
  go_wp2
  go_loopw [8, 21] (fun ov cv wr => ∃ (j : Nat) (Z : Option Addr) (cp : Nat) (ps : List RS), j ≤ q ∧ Hid (ps.map Prod.fst = (List.range j).map rp) ∧ ov = .slice Z j cp ∧ cv = .int .i64 (j : Nat) ∧ St w0 (m1 j :: m2 j :: own Z j cp 53 23 (ps.flatMap rsC) :: RpsO ps :: L) wr) (fun _ cv _ => q - (intOf cv).toNat)
  case atStart => exact ⟨0, none, 0, [], Nat.zero_le _, by rw [Hid]; rfl, rfl, rfl, hs⟩
  case round =>
    clear hs
    obtain ⟨j, Z, cp, ps, hjq, HPS, rfl, rfl, hs⟩ := hrel
    by_cases hlt : j < q
    · obtain ⟨cs, hc⟩ : ∃ cs, css[j]? = some cs := ⟨_, List.getElem?_eq_getElem (by rw [hq.out]; exact hlt)⟩
      obtain ⟨hc10, hc1⟩ := hcs.out cs (List.mem_of_getElem? hc)
      have hcell := fun i u hu => HRD.out.get (flatten_get (fun x hx => (hcs.out x hx).1) hc i u hu)
      obtain ⟨gb, off, rfl, hx0⟩ := hcell 0 _ (List.getElem?_eq_getElem (by omega : 0 < cs.length))
      clear hx0
      have hld : ∀ i u, cs[i]? = some u → Rd w0 (m1 j :: m2 j :: own Z j cp 53 23 (ps.flatMap rsC) :: RpsO ps :: L) ⟨gb, off + j * 10 + i, none⟩ u := fun i u hu => by
        obtain ⟨b', o', he, h⟩ := hcell i u hu
        injection he with he
        injection he with e1 e2
        subst e1; subst e2
        rw [Nat.add_assoc]; exact h.tail.tail.tail.tail
      have HC10 := Lib.hid hc10
      have HC1 := Lib.hid hc1
      have HDJ := Lib.hid (HDO.out j cs hc)
      have HLD := Lib.hid hld
      clear hcell hc hc10 hc1 hld
      have HP2 : Hid ((List.range (j + 1)).map rp = (List.range j).map rp ++ [rp j]) := by rw [Hid, List.range_succ, List.map_append]; rfl
      go_upto_region 8 with (first
        | (refine wpl_load_agg (cs := cs) (b := gb) (o := off + j * 10) rfl aggAct (sizeAct HC10.out) hs HLD.out ?_)
        | (refine wpl_alloc zeroAct hs ?_; clear hs; intro g10 w1 hs; replace hs : St w0 (blk g10 actZC.toArray 70 :: _) w1 := hs)
        | (refine wpl_store_agg (v := .agg cs.toArray) rfl rfl (sizeActv HC10.out) hs (WrA.slotAct HC10.out rfl HC1.out) ?_; clear hs; intro w2 hs))
      replace hs : St w0 (m1 j :: m2 j :: ([blk g10 cs.toArray 70, own Z j cp 53 23 (ps.flatMap rsC), RpsO ps] ++ L)) w2 := hs.rot.ent (Ent.cons _ (Ent.swap _ _ _))
      go_wp2_with (first
        | (refine wpl_load_agg (cs := cs) (b := g10) (o := 0) rfl aggAct (sizeAct HC10.out) hs.up2 (fun j u hu => by rw [Nat.zero_add]; exact Rd.blk (by simpa using hu)) ?_)
        | (go_at_call 21; refine (HDJ.out _ _ hs).mono ?_; clear hs; rintro r w ⟨v, rfl, hs, z, hz⟩; have hs9 := hs.rpopen; clear hs hz; obtain ⟨z2, hz2, hs⟩ := hs9; subst hz2; replace hs : St w0 (RpO (rp j) z2 :: m1 (j + 1) :: m2 (j + 1) :: blk g10 cs.toArray 70 :: own Z j cp 53 23 (ps.flatMap rsC) :: RpsO ps :: L) w := hs; replace hs := (hs.up3.drop.ent (M := m1 (j + 1) :: m2 (j + 1) :: own Z j cp 53 23 (ps.flatMap rsC) :: RpO (rp j) z2 :: RpsO ps :: L) (by (repeat first | exact Ent.refl _ | refine Ent.step (by repeat first | exact Ent.refl _ | apply Ent.skip) ?_))))
        | (refine wpl_build1 (v := .agg (rpS (rp j) z2).toArray) elemRep (by decide) rfl rfl hs ?_; clear hs; intro G w hs; replace hs : St w0 (blk G (rpS (rp j) z2).toArray 53 :: _) w := hs)
        | (refine wpl_append (A := Z) (n := j) (cap := cp) (xs := ps.flatMap rsC) (B := some ⟨G, 0, none⟩) (m := 1) (news := rpS (rp j) z2) elemRep rfl rfl hs (Ent.skip (Ent.skip (Ent.skip (Ent.refl _)))) RdS.blk rfl (rpS_one _ _) (by unfold maxLen; omega) (by omega) ?_; clear hs; intro Z2 cp2 w hs))
      have hs4 : St w0 (m1 (j + 1) :: m2 (j + 1) :: own Z2 (j + 1) cp2 53 23 ((ps ++ [(rp j, z2)]).flatMap rsC) :: RpsO (ps ++ [(rp j, z2)]) :: L) w := by
        rw [rps_snoc]
        have h7 := (hs.rot.drop.ent (M := RpO (rp j) z2 :: RpsO ps :: m1 (j + 1) :: m2 (j + 1) :: own Z2 (j + 1) cp2 53 23 (ps.flatMap rsC ++ rsC (rp j, z2)) :: L) (by (repeat first | exact Ent.refl _ | refine Ent.step (by repeat first | exact Ent.refl _ | apply Ent.skip) ?_))).rpssnoc
        exact h7.ent (by (repeat first | exact Ent.refl _ | refine Ent.step (by repeat first | exact Ent.refl _ | apply Ent.skip) ?_))
      clear hs
      go_roundw
      case rel => exact ⟨j + 1, Z2, cp2, ps ++ [(rp j, z2)], by omega, by rw [Hid, List.map_append, HPS.out, HP2.out]; rfl, by first | rfl | go_num, by first | rfl | go_num, hs4⟩
      case measure => simp [intOf] <;> omega
    · obtain rfl : j = q := by omega
      go_wp2
      go_ret2
      exact ⟨rp, Z, cp, ps, HPHI.out, rfl, HPS, hs.drop.drop⟩
end Go.Proofs.YtcnbmfaicbkhcaaGreatDoor

/-
  The statements' awake (vivariumtop.awake): a script of four acts.
-/
set_option maxRecDepth 100000
namespace Go.Proofs.YtcnbmfaicbkhcaaGreatDoor
open Go Go.RowKit
def ta0 (X : Nat) (v : Value) (F : Option Nat) : WoS := ⟨⟨2, newA 3, [(X, newSl ⟨1, 3, 0⟩ v F)]⟩, [], [], false⟩
theorem ta_1 (X : Nat) (v : Value) (F : Option Nat) : (ta0 X v F).create = ((0, 1), 0, ⟨⟨2, [(1, 1), (0, 0), (0, 0)], [(X, newSl ⟨1, 3, 0⟩ v F)]⟩, [], [], false⟩) := by rfl
def ta1 (X : Nat) (v : Value) (F : Option Nat) : WoS := ⟨⟨2, [(1, 1), (0, 0), (0, 0)], [(X, newSl ⟨1, 3, 0⟩ v F)]⟩, [], [], false⟩
theorem ta_2 (X : Nat) (v : Value) (F : Option Nat) : ∃ s : WoS, (ta1 X v F).ins (0, 1) 0 ⟨1, 5, 0⟩ = (V3.z, false, 0, s) ∧ s.e.l.length = 1 ∧ s.rowsE [⟨1, 0⟩] = ([0], 0) ∧ (∃ t : WoS, s.del (0, 1) = (1, 0, t)) ∧ (∀ x ∈ s.e.l, x.2.evs.length ≤ 1) := by
  refine ⟨_, by rfl, rfl, by rfl, ⟨_, by rfl⟩, ?_⟩
  intro x hx
  obtain rfl := List.mem_singleton.1 hx
  exact SlS.put_len (newSl ⟨1, 3, 0⟩ v F) 0 ⟨1, 5, 0⟩
def actK (k : Int) : ActP := ⟨k, 0, 0, 0, V3.z, [], [], []⟩
abbrev nsl : Value := .slice none 0 0
theorem elemCol : ElemOk Tryz.prog 67 132 2 16 := ElemOk.of Tryz.underlying67 (z := .agg (c2c ⟨0, 0⟩).toArray) (by kernel_rfl) rfl (by decide)
def ta4 (V : Value) : List (List Value) := [actC (actK 1) nsl nsl nsl, actC ⟨4, 0, 0, 0, ⟨1, 5, 0⟩, [], [], []⟩ nsl nsl nsl, actC ⟨16, 0, 0, 0, V3.z, [⟨1, 0⟩], [], []⟩ V nsl nsl, actC (actK 3) nsl nsl nsl]
theorem build_a4 (A : Option Addr) (n c : Nat) (w : World) : (Instr.buildSlice 29 4 #[(0, .agg (actC (actK 1) nsl nsl nsl).toArray), (1, .agg (actC ⟨4, 0, 0, 0, ⟨1, 5, 0⟩, [], [], []⟩ nsl nsl nsl).toArray), (2, .agg (actC ⟨16, 0, 0, 0, V3.z, [⟨1, 0⟩], [], []⟩ (.slice A n c) nsl nsl).toArray), (3, .agg (actC (actK 3) nsl nsl nsl).toArray)]).run Tryz.prog w = .ok (.slice (some ⟨w.heap.size, 0, none⟩) 4 4) (w.alloc (.cells (ta4 (.slice A n c)).flatten.toArray 70)) := by kernel_rfl
theorem ta4_ok (A : Option Addr) (n c : Nat) : ∀ cs ∈ ta4 (.slice A n c), cs.length = 10 ∧ ∀ u ∈ cs, u.oneCell' = true := by
  intro cs hcs
  simp only [ta4, List.mem_cons, List.not_mem_nil, or_false] at hcs
  rcases hcs with rfl | rfl | rfl | rfl <;> refine ⟨rfl, fun u hu => ?_⟩ <;> simp only [actC, List.mem_cons, List.not_mem_nil, or_false] at hu <;> rcases hu with rfl | rfl | rfl | rfl | rfl | rfl | rfl | rfl | rfl | rfl <;> rfl
def taR : Nat → RpP := fun i => if i = 0 then rpTold (0, 1) 0 else if i = 1 then rpV V3.z false 0 else if i = 2 then rpL [0] 0 else rpN 1 0
theorem SlR.app {w0 : World} {L : List As} {V : Value} {n : Nat} {xs : List Value} (h : SlR w0 L V n xs) : ∀ K : List As, SlR w0 (K ++ L) V n xs
  | [] => h
  | _ :: K => (SlR.app h K).tail
attribute [local irreducible] wpList Calls Code.wp nameH hasH newA cs3 errDs WoS.create WoS.ins WoS.del WoS.rowsE RpP.fin
theorem fin_told : (rpTold (0, 1) 0).fin = taR 0 := by unfold RpP.fin; rfl
theorem fin_v : (rpV V3.z false 0).fin = taR 1 := by unfold RpP.fin; rfl
theorem fin_l : (rpL [0] 0).fin = taR 2 := by unfold RpP.fin; rfl
theorem fin_n : (rpN 1 0).fin = taR 3 := by unfold RpP.fin; rfl
set_option maxHeartbeats 2000000 in
theorem ta_do {w0 : World} {L : List As} (hT : Tab w0) {A : Option Addr} {c n : Nat} (h1 : SlR w0 L (.slice A 1 c) 1 ([(⟨1, 0⟩ : ColP)].flatMap c2c)) (S W E A1 R X Q : Nat) (l : List Cmp) (hl : NewL [⟨1, 3, 0⟩] l) : ∃ (m1 m2 : Nat → As) (rp : Nat → RpP), m1 0 = ScB S W none [] ∧ m2 0 = WoB W E A1 R X Q n ⟨⟨2, newA 3, l⟩, [], [], false⟩ ∧ rp = taR ∧ DoH w0 L S (ta4 (.slice A 1 c)) m1 m2 rp := by
  obtain ⟨Y, v, F, rfl⟩ := newL_one hl
  have e1 := ta_1 Y v F
  obtain ⟨s, e2, hsl, e3, ⟨t, e4⟩, hev⟩ := ta_2 Y v F
  have hev0 : ∀ x ∈ (ta1 Y v F).e.l, x.2.evs.length < 4611686018427387904 := fun x hx => by
    obtain rfl := List.mem_singleton.1 hx
    exact (show 0 < 4611686018427387904 by decide)
  refine ⟨fun i => if i = 0 then ScB S W none [] else ScB S W none [(0, 1)], fun i => if i = 0 then WoB W E A1 R X Q n (ta0 Y v F) else if i = 1 then WoB W E A1 R X Q n (ta1 Y v F) else if i = 4 then WoB W E A1 R X Q n t else WoB W E A1 R X Q n s, taR, rfl, rfl, rfl, ?_⟩
  intro i cs hcs K w hs
  match i, hcs with
  | 0, hcs =>
    cases hcs
    have := scdo_create (L := K ++ L) hs (a := actK 1) rfl (V1 := nsl) (V2 := nsl) (V3' := nsl) (Lib.hid fun K' w' hs' => sccreate_c hT hs' (by decide) (actK 1) nsl nsl nsl (Lib.hid e1) (Lib.hid rfl))
    rw [fin_told] at this
    exact this
  | 1, hcs =>
    cases hcs
    have := scdo_insert (L := K ++ L) hs (a := ⟨4, 0, 0, 0, ⟨1, 5, 0⟩, [], [], []⟩) rfl (V1 := nsl) (V2 := nsl) (V3' := nsl) (Lib.hid fun K' w' hs' => scinsert_c hs' hev0 ⟨4, 0, 0, 0, ⟨1, 5, 0⟩, [], [], []⟩ nsl nsl nsl (d := (0, 1)) (Lib.hid (by unfold nameH; rfl)) (Lib.hid e2))
    rw [fin_v] at this
    exact this
  | 2, hcs =>
    cases hcs
    have := scdo_rows (L := K ++ L) hs (a := ⟨16, 0, 0, 0, V3.z, [⟨1, 0⟩], [], []⟩) rfl (V1 := .slice A 1 c) (V2 := nsl) (V3' := nsl) (Lib.hid fun K' w' hs' => scrows_c hT hs' (by rw [hsl]; decide) ⟨16, 0, 0, 0, V3.z, [⟨1, 0⟩], [], []⟩ (.slice A 1 c) nsl nsl (SlR.app (SlR.app h1 K) K') (show 1 ≤ 1000000 by decide) (Lib.hid e3))
    have e : (rpL (natI [0]) 0).fin = taR 2 := fin_l
    rw [e] at this
    exact this
  | 3, hcs =>
    cases hcs
    have := scdo_remove (L := K ++ L) hs (a := actK 3) rfl (V1 := nsl) (V2 := nsl) (V3' := nsl) (Lib.hid fun K' w' hs' => scremove_c hs' (fun x hx => Nat.lt_of_le_of_lt (hev x hx) (by decide)) (actK 3) nsl nsl nsl (d := (0, 1)) (Lib.hid (by unfold nameH; rfl)) (Lib.hid e4))
    rw [fin_n] at this
    exact this
  | i + 4, hcs => cases hcs
end Go.Proofs.YtcnbmfaicbkhcaaGreatDoor

/-
  The statements' awake (vivariumtop.awake), 2: the walk.
-/
set_option maxRecDepth 100000
namespace Go.Proofs.YtcnbmfaicbkhcaaGreatDoor
open Go Go.RowKit
theorem len4 {α : Type} : ∀ {l : List α}, l.length = 4 → ∃ a b c d, l = [a, b, c, d]
  | [a, b, c, d], _ => ⟨a, b, c, d, rfl⟩
theorem ps4 {ps : List RS} {rp : Nat → RpP} (h : ps.map Prod.fst = (List.range 4).map rp) : ∃ s0 s1 s2 s3, ps = [(rp 0, s0), (rp 1, s1), (rp 2, s2), (rp 3, s3)] := by
  have hl := congrArg List.length h
  rw [List.length_map, List.length_map, List.length_range] at hl
  obtain ⟨a, b, c, d, rfl⟩ := len4 hl
  have e : (List.range 4).map rp = [rp 0, rp 1, rp 2, rp 3] := rfl
  rw [e, List.map_cons, List.map_cons, List.map_cons, List.map_cons, List.map_nil] at h
  injection h with h1 h
  injection h with h2 h
  injection h with h3 h
  injection h with h4 h
  exact ⟨a.2, b.2, c.2, d.2, by rw [← h1, ← h2, ← h3, ← h4]⟩
theorem err_132 : errDs 0 [⟨1, 3, 0⟩] = 0 := rfl
attribute [local irreducible] wpList Calls Code.wp newA errDs taR
set_option maxHeartbeats 4000000 in
theorem topawake {w : World} (hT : Tab w) : Calls Tryz.prog 9 #[] w fun r w' => r = .returned (.bool true) ∧ Grew w w' := by
  have hs := St.start w
  have HT := Lib.hid hT
  clear hT
  have tk : True := trivial
  have tk2 : True := trivial
  go_enter Tryz.func9, Tryz.ntmps9
  go_upto_region 2 with (first
    | (refine wpl_build1 (v := val3 ⟨1, 3, 0⟩) elemDs5 (by decide) rfl rfl hs ?_; clear hs; intro g5 w1 hs; replace hs : St w [blk g5 (cs3 [⟨1, 3, 0⟩]).toArray 120] w1 := hs)
    | (refine wpl_build1 (v := .agg (c2c ⟨1, 0⟩).toArray) elemCol (by decide) rfl rfl hs ?_; clear hs; intro g11 w1 hs; replace hs : St w [blk g11 ([(⟨1, 0⟩ : ColP)].flatMap c2c).toArray 132, blk g5 (cs3 [⟨1, 3, 0⟩]).toArray 120] w1 := hs)
    | (refine wpl_buildRun (build_a4 (some ⟨g11, 0, none⟩) 1 1) rfl hs ?_; clear hs; intro g14 w1 hs; replace hs : St w [blk g14 (ta4 (.slice (some ⟨g11, 0, none⟩) 1 1)).flatten.toArray 70, blk g11 ([(⟨1, 0⟩ : ColP)].flatMap c2c).toArray 132, blk g5 (cs3 [⟨1, 3, 0⟩]).toArray 120] w1 := hs)
    | (go_at_call 10; refine (scrun_c (Φ := fun rp => rp = taR) (n := 3) (q := 4) hs (by decide) (by decide) (by decide) (by decide) (ds := [⟨1, 3, 0⟩]) (Lib.hid rfl) (by decide) (RdS.blk.tail.tail) (Lib.hid err_132) (rs := []) (k := 0) (fun _ => ⟨rfl, rfl⟩) (Lib.hid rfl) (by decide) (Nat.le_refl 0) RdS.nil (css := ta4 (.slice (some ⟨g11, 0, none⟩) 1 1)) (Lib.hid rfl) (by decide) (Lib.hid (ta4_ok _ _ _)) RdS.blk (Lib.hid (ta_do HT.out ⟨_, _, rfl, Nat.le_refl 1, (fun h => nomatch h), RdS.blk.tail⟩))).mono ?_; clear hs; rintro r w ⟨rp, Z, cp, ps, rfl, rfl, hps, hs⟩))
  obtain ⟨s0, s1, s2, s3, rfl⟩ := ps4 hps.out
  obtain ⟨gZ, rfl⟩ := hs.own_at (by decide)
  have e2 : taR 2 = rpL [0] 0 := by unfold taR; rfl
  have e3 : taR 3 = rpN 1 0 := by unfold taR; rfl
  have k2 : World.cell? w ⟨gZ, 54, none⟩ = some (.slice s2.A1 1 s2.c1) := Rd.own (by rw [e2]; rfl) _ hs
  have k3 : World.cell? w ⟨gZ, 76, none⟩ = some (.int .i64 1) := Rd.own (by rw [e3]; rfl) _ hs
  clear e2 e3
  go_wp2
  go_ret
  exact ⟨rfl, hs.made_grew⟩
end Go.Proofs.YtcnbmfaicbkhcaaGreatDoor
