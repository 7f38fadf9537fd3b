/-
  One kind of place behind another (slot.Slot), 5: the contracts over the whole Slot.
-/
import Derived.Test.YtmdjpeblbnbjmaaSt4
set_option maxRecDepth 100000
namespace Go.Proofs.Ytmdjpeblbnbjmaa
open Go Go.RowKit
attribute [local irreducible] wpList Calls Code.wp okI okN pS tS memS getG pG insS delS getV pV tV okVal ntE

def SlS.putU (s : SlS) (i : Int) (v : V3) : V3 := if s.err i v = 0 then s.get i else V3.z
def SlS.putB (s : SlS) (i : Int) (v : V3) : Bool := decide (s.err i v = 0) && s.has i
section
variable (s : SlS) (i : Int) (v : V3)
theorem SlS.put_d : (s.put i v).d = s.d := by unfold SlS.put; split <;> rfl
theorem SlS.put_F : (s.put i v).F = s.F := by unfold SlS.put; split <;> rfl
theorem SlS.put_rds : (s.put i v).rds = s.rds := by unfold SlS.put; split <;> rfl
theorem SlS.take_d : (s.take i).d = s.d := by unfold SlS.take; split <;> rfl
theorem SlS.take_F : (s.take i).F = s.F := by unfold SlS.take; split <;> rfl
theorem SlS.take_rds : (s.take i).rds = s.rds := by unfold SlS.take; split <;> rfl
theorem SlS.set_d : (s.set i v).d = s.d := by unfold SlS.set; split <;> rfl
theorem SlS.set_F : (s.set i v).F = s.F := by unfold SlS.set; split <;> rfl
theorem SlS.set_rds : (s.set i v).rds = s.rds := by unfold SlS.set; split <;> rfl
theorem ntE_len (F : Option Nat) (evs : List Ev) (k i : Int) : (ntE F evs k i).length ≤ evs.length + 1 := by unfold ntE; split <;> simp
theorem SlS.put_len : (s.put i v).evs.length ≤ s.evs.length + 1 := by unfold SlS.put; split; exact ntE_len _ _ _ _; exact Nat.le_succ _
theorem SlS.take_len : (s.take i).evs.length ≤ s.evs.length + 1 := by unfold SlS.take; split; exact ntE_len _ _ _ _; exact Nat.le_succ _
theorem SlS.set_len : (s.set i v).evs.length ≤ s.evs.length + 1 := by unfold SlS.set; split; exact ntE_len _ _ _ _; exact Nat.le_succ _
variable {s i v}
theorem SlS.Ok.put (h : s.Ok) : (s.put i v).Ok := ⟨by rw [SlS.put_d]; exact h.desc, by rw [SlS.put_d, SlS.put_F]; exact h.flag⟩
theorem SlS.Ok.take (h : s.Ok) : (s.take i).Ok := ⟨by rw [SlS.take_d]; exact h.desc, by rw [SlS.take_d, SlS.take_F]; exact h.flag⟩
theorem SlS.Ok.set (h : s.Ok) : (s.set i v).Ok := ⟨by rw [SlS.set_d]; exact h.desc, by rw [SlS.set_d, SlS.set_F]; exact h.flag⟩
end
theorem err_zero {kd i : Int} {v : V3} (h : errV kd i v = 0) : (∃ j : Nat, i = (j : Nat) ∧ j < 65536) ∧ okVal v = true ∧ v.k = kd := by
  unfold errV at h
  split at h
  · rename_i h1
    have h2 := okI_iff.1 h1
    split at h
    · rename_i h3
      simp only [Bool.and_eq_true, beq_iff_eq] at h3
      obtain ⟨j, rfl⟩ := Int.eq_ofNat_of_zero_le h2.1
      exact ⟨⟨j, rfl, by omega⟩, h3.1, h3.2⟩
    · cases h
  · cases h
theorem sl_put {w0 w : World} {L : List As} {X : Nat} {s : SlS} (hs : St w0 (SlB X s :: L) w) {i : Int} {v : V3} (hl : s.evs.length < 4611686018427387904)
    {u : V3} {b : Bool} {e : Int} {s' : SlS} (hu : Hid (s.putU i v = u)) (hb : Hid (s.putB i v = b)) (he : Hid (s.err i v = e)) (hs' : Hid (s.put i v = s')) :
    Calls Try.prog 18 #[.pointer (some ⟨X, 0, none⟩), .int .i64 i, val3 v] w fun r w' => r = .returned (.tuple #[val3 u, .bool b, .int .i64 e]) ∧ St w0 (SlB X s' :: L) w' := by
  have he0 := he.out
  rw [← hu.out, ← hb.out, ← hs'.out]
  obtain ⟨hok, M, hs⟩ := hs.slopen
  by_cases h0 : e = 0
  · subst h0
    obtain ⟨⟨j, rfl, hj⟩, hvo, hvk⟩ := err_zero (kd := s.d.k) he0
    refine (put_in hs hj hvk hvo hl rfl rfl rfl rfl rfl).mono fun r w' ⟨h1, h2⟩ => ⟨?_, ?_⟩
    · rw [h1]; unfold SlS.putU SlS.putB; rw [if_pos he0, decide_eq_true he0]; rfl
    · have h3 := hok.put (i := ((j : Nat) : Int)) (v := v)
      have e1 : s.put ((j : Nat) : Int) v = { s with S := insS j s.S, g := pG s.g ((j : Nat) : Int) v, evs := s.noted (kdE (memS s.S ((j : Nat) : Int))) ((j : Nat) : Int) } := by
        unfold SlS.put; rw [if_pos he0, Int.toNat_natCast]
      rw [e1] at h3 ⊢
      exact h2.slshut h3
  · refine (put_out hs (e := e) he h0).mono fun r w' ⟨h1, h2⟩ => ⟨?_, ?_⟩
    · rw [h1]; unfold SlS.putU SlS.putB; rw [if_neg (by rw [he0]; exact h0), decide_eq_false (by rw [he0]; exact h0)]; rfl
    · have e1 : s.put i v = s := by unfold SlS.put; rw [if_neg (by rw [he0]; exact h0)]
      rw [e1]
      exact (hs.grew h2).slshut hok
theorem sl_take {w0 w : World} {L : List As} {X : Nat} {s : SlS} (hs : St w0 (SlB X s :: L) w) {i : Int} (hi : (Lit.int .i64 i).wf = true) (hl : s.evs.length < 4611686018427387904)
    {u : V3} {b : Bool} {s' : SlS} (hu : Hid (s.get i = u)) (hb : Hid (s.has i = b)) (hs' : Hid (s.take i = s')) :
    Calls Try.prog 31 #[.pointer (some ⟨X, 0, none⟩), .int .i64 i] w fun r w' => r = .returned (.tuple #[val3 u, .bool b]) ∧ St w0 (SlB X s' :: L) w' := by
  rw [← hs'.out]
  obtain ⟨hok, M, hs⟩ := hs.slopen
  refine (take_c hs hi hl hu hb rfl rfl).mono fun r w' ⟨h1, h2⟩ => ⟨h1, ?_⟩
  have h3 := hok.take (i := i)
  have hm : memS s.S i = b := hb.out
  cases b
  · have e1 : s.take i = s := by unfold SlS.take; rw [hm]; rfl
    have e2 : tS s.S i = s.S := by unfold tS; rw [hm]; rfl
    rw [e2] at h2
    rw [e1]
    exact h2.slshut hok
  · have e1 : s.take i = { s with S := tS s.S i, evs := s.noted 3 i } := by unfold SlS.take; rw [hm]; rfl
    rw [e1] at h3 ⊢
    exact h2.slshut h3
theorem sl_set {w0 w : World} {L : List As} {X : Nat} {s : SlS} (hs : St w0 (SlB X s :: L) w) {i : Int} {v : V3} (hl : s.evs.length < 4611686018427387904)
    {e : Int} {s' : SlS} (he : Hid (s.errSet i v = e)) (hs' : Hid (s.set i v = s')) :
    Calls Try.prog 30 #[.pointer (some ⟨X, 0, none⟩), .int .i64 i, val3 v] w fun r w' => r = .returned (.int .i64 e) ∧ St w0 (SlB X s' :: L) w' := by
  rw [← he.out, ← hs'.out]
  obtain ⟨hok, M, hs⟩ := hs.slopen
  by_cases h0 : errV s.d.k i v = 0
  · have he0 : s.err i v = 0 := h0
    obtain ⟨⟨j, rfl, hj⟩, hvo, hvk⟩ := err_zero h0
    refine (set_in hs hj hvk hvo hl rfl rfl rfl).mono fun r w' ⟨h1, h2⟩ => ⟨?_, ?_⟩
    · rw [h1]; unfold SlS.errSet; rw [if_pos he0]
    · have h3 := hok.set (i := ((j : Nat) : Int)) (v := v)
      cases hm : memS s.S ((j : Nat) : Int)
      · have e0 : s.errSet ((j : Nat) : Int) v = 10 := by unfold SlS.errSet; rw [if_pos he0, hm]; rfl
        have e1 : s.set ((j : Nat) : Int) v = s := by unfold SlS.set; rw [e0]; rfl
        rw [hm] at h2
        rw [e1]
        exact h2.slshut hok
      · have e0 : s.errSet ((j : Nat) : Int) v = 0 := by unfold SlS.errSet; rw [if_pos he0, hm]; rfl
        have e1 : s.set ((j : Nat) : Int) v = { s with g := pG s.g ((j : Nat) : Int) v, evs := s.noted 2 ((j : Nat) : Int) } := by unfold SlS.set; rw [e0]; rfl
        rw [hm] at h2
        rw [e1] at h3 ⊢
        exact h2.slshut h3
  · have he0 : ¬ s.err i v = 0 := h0
    refine (set_out hs (e := s.err i v) rfl h0).mono fun r w' ⟨h1, h2⟩ => ⟨?_, ?_⟩
    · rw [h1]; unfold SlS.errSet; rw [if_neg he0]
    · have e1 : s.set i v = s := by unfold SlS.set SlS.errSet; rw [if_neg he0, if_neg he0]
      rw [e1]
      exact (hs.grew h2).slshut hok
theorem sl_flag {w0 w : World} {L : List As} {X : Nat} {s : SlS} (hs : St w0 (SlB X s :: L) w) :
    Calls Try.prog 17 #[.pointer (some ⟨X, 0, none⟩)] w fun r w' => r = .returned (fpV s.F) ∧ w = w' := by
  obtain ⟨hok, M, hs⟩ := hs.slopen
  have hc := Rd.sl5 _ hs
  generalize fpV s.F = p at hc ⊢
  go_enter Try.func17, Try.ntmps17
  go_wp2
  go_ret
  exact ⟨rfl, rfl⟩
theorem size3D (v : V3) : (Try.prog.info? 28).map (·.size) = some (val3 v).cells.size := by kernel_rfl
theorem size3Dn {v : V3} : (Try.prog.info? 28).map (·.size) = some (c3 v).length := by kernel_rfl
theorem agg3D : aggB Try.prog 28 = true := by kernel_rfl
theorem zero3D : (Try.prog.info? 28).bind (·.zero) = some (val3 V3.z) := by kernel_rfl
theorem sl_desc {w0 w : World} {L : List As} {X : Nat} {s : SlS} (hs : St w0 (SlB X s :: L) w) :
    Calls Try.prog 42 #[.pointer (some ⟨X, 0, none⟩)] w fun r w' => r = .returned (val3 s.d) ∧ Grew w w' := by
  obtain ⟨hok, M, hs⟩ := hs.slopen
  have hw := St.start w
  have hr := Rd.slD (w0 := w0) (X := X) (M := M) (v := s.pv) (d := s.d) (F := s.F) (t := 67) (L := PlB s.d.k s.pv s.S s.g :: HSet M s.S :: FlP s.F s.d.b s.evs s.rds :: L)
  clear hok
  generalize s.d = d at hr hs ⊢
  go_enter Try.func42, Try.ntmps42
  go_wp2_with (first
    | (refine wpl_alloc zero3D hw ?_; clear hw; intro g2 w1 hw)
    | (refine wpl_load_agg (cs := c3 d) (b := X) (o := 1) rfl agg3D size3Dn (hs.grew hw.made_grew) hr ?_)
    | (refine wpl_store_agg (v := val3 d) rfl rfl (size3D _) hw WrA.slot3 ?_; clear hw; intro w2 hw))
  refine bodyPost_at (results_cell1 Try.results42 rfl (hw.slot_run agg3D (size3D _))) rfl ?_
  exact ⟨rfl, hw.made_grew⟩
/-- The place that a Slot holds: where it is read, what it answers. -/
theorem Rd.slp {w0 : World} {L : List As} {X : Nat} {s : SlS} : Rd w0 (SlB X s :: L) ⟨X, 0, none⟩ s.pv := fun w hs => by
  obtain ⟨hok, M, hs⟩ := hs.slopen
  exact Rd.sl0 _ hs
theorem Rd.slf {w0 : World} {L : List As} {X : Nat} {s : SlS} : Rd w0 (SlB X s :: L) ⟨X, 5, none⟩ (fpV s.F) := fun w hs => by
  obtain ⟨hok, M, hs⟩ := hs.slopen
  exact Rd.sl5 _ hs
theorem sl_get {w0 w : World} {L : List As} {X : Nat} {s : SlS} (hs : St w0 (SlB X s :: L) w) {v : Value} (hv : Hid (s.pv = v)) {i : Int} (hi : (Lit.int .i64 i).wf = true) {u : V3} {b : Bool} (hu : Hid (s.get i = u)) (hb : Hid (s.has i = b)) :
    IvC v "Get" #[.int .i64 i] w fun r w' => r = .tuple #[val3 u, .bool b] ∧ Grew w w' := by
  obtain ⟨hok, M, hs⟩ := hs.slopen
  rw [← hv.out]
  exact pl_get hs.rot hi hu hb
theorem sl_len {w0 w : World} {L : List As} {X : Nat} {s : SlS} (hs : St w0 (SlB X s :: L) w) {v : Value} (hv : Hid (s.pv = v)) {n : Nat} (hn : Hid (s.S.length = n)) :
    IvC v "Len" #[] w fun r w' => r = .int .i64 (n : Nat) ∧ Grew w w' := by
  obtain ⟨hok, M, hs⟩ := hs.slopen
  rw [← hv.out]
  exact pl_len hs.rot hn
/-! ### The flag of a Slot -/
theorem St.slfl {w0 w : World} {L : List As} {X : Nat} {s : SlS} {f : Nat} (hs : St w0 (SlB X s :: L) w) (hF : s.F = some f) : ∃ R : As, St w0 (FlB f s.d.b.toNat s.evs s.rds :: R :: L) w ∧ ∀ (w' : World) (L : List As) (evs : List Ev) (rds : List Nat), St w0 (FlB f s.d.b.toNat evs rds :: R :: L) w' → St w0 (SlB X { s with evs := evs, rds := rds } :: L) w' := by
  obtain ⟨hok, M, hs⟩ := hs.slopen
  rw [hF] at hs
  refine ⟨star (Ytmdjpeblbnbjmaa.blk X (slC s.pv s.d M s.F) 67) (star (PlB s.d.k s.pv s.S s.g) (HSet M s.S)), ?_, ?_⟩
  · have h1 := hs.up3
    rw [hF]
    exact h1.ent (Ent.cons _ ((Ent.cons _ (Ent.shut2 fun _ h => h)).trans (Ent.shut2 fun _ h => h)))
  · intro w' L evs rds h
    have h2 := h.ent (Ent.cons _ ((Ent.open2 fun _ h => h).trans (Ent.cons _ (Ent.open2 fun _ h => h))))
    have h3 := h2.dn3
    refine St.slshut (s := { s with evs := evs, rds := rds }) (M := M) ⟨hok.desc, hok.flag⟩ ?_
    show St w0 (_ :: _ :: _ :: FlP s.F s.d.b evs rds :: _) w'
    rw [hF] at h3 ⊢
    exact h3
theorem sl_reader {w0 w : World} {L : List As} {X : Nat} {s : SlS} {f : Nat} (hs : St w0 (SlB X s :: L) w) (hF : s.F = some f) (hr : s.rds.length < 100) {n : Nat} (hn : Hid (s.rds.length = n)) {s' : SlS} (hs' : Hid ({ s with rds := s.rds ++ [s.evs.length] } = s')) :
    Calls Try.prog 32 #[.pointer (some ⟨f, 0, none⟩)] w fun e w' => e = .returned (.tuple #[.int .i64 (n : Nat), .int .i64 0]) ∧ St w0 (SlB X s' :: L) w' := by
  obtain ⟨R, h1, h2⟩ := hs.slfl hF
  rw [← hn.out, ← hs'.out]
  exact (fl_reader h1 hr).mono fun e w' ⟨h3, h4⟩ => ⟨h3, h2 _ _ _ _ h4⟩
theorem sl_read {w0 w : World} {L : List As} {X : Nat} {s : SlS} {f : Nat} (hs : St w0 (SlB X s :: L) w) (hF : s.F = some f) {r k : Nat} (hr : s.rds[r]? = some k) (hl : s.evs.length < 4611686018427387904) {b : Bool} {l : List Ev} {s' : SlS} (hb : Hid (lagE s.d.b.toNat s.evs k = b)) (hnl : Hid (newE s.d.b.toNat s.evs k = l)) (hs' : Hid ({ s with rds := s.rds.set r s.evs.length } = s')) :
    Calls Try.prog 33 #[.pointer (some ⟨f, 0, none⟩), .int .i64 (r : Nat)] w fun e w' => ∃ A cap n, Hid (l.length = n) ∧ e = .returned (.tuple #[.slice A n cap, .bool b, .int .i64 0]) ∧ St w0 (own A n cap 80 2 (es2 l) :: SlB X s' :: L) w' := by
  obtain ⟨R, h1, h2⟩ := hs.slfl hF
  rw [← hs'.out]
  exact (fl_read h1 hr hl hb hnl).mono fun e w' ⟨A, cap, n, h3, h4, h5⟩ => ⟨A, cap, n, h3, h4, (h2 _ _ _ _ h5.dn2).rot⟩
end Go.Proofs.Ytmdjpeblbnbjmaa
