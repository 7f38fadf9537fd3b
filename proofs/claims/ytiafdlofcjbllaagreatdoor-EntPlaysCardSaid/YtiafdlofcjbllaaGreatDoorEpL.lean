/-
  Things with parts beside the document's World: plain law (both alike, call by call).
-/
import Derived.Test.YtiafdlofcjbllaaGreatDoorDw1
import Derived.Test.YtiafdlofcjbllaaGreatDoorJX
set_option maxRecDepth 100000
namespace Go.Proofs.YtiafdlofcjbllaaGreatDoor
open Go Go.RowKit
structure AlE (s t : EnS) : Prop where
  top_ : s.top = t.top
  cs : s.cs = t.cs
  len : s.l.length = t.l.length
  at_ : ∀ (c : Nat) (x y : Cmp), s.l[c]? = some x → t.l[c]? = some y → AlD x.2 y.2
section
variable {s t : EnS} (h : AlE s t)
include h
theorem AlE.live (d : Hdl) : s.live d = t.live d := by unfold EnS.live; rw [h.cs]
theorem AlE.slot (c : Int) : (s.slot c = none ∧ t.slot c = none) ∨ ∃ x y, s.slot c = some x ∧ t.slot c = some y ∧ AlD x.2 y.2 := by
  unfold EnS.slot
  by_cases h0 : 0 ≤ c
  · rw [if_pos h0, if_pos h0]
    cases hx : s.l[c.toNat]? with
    | none => exact .inl ⟨rfl, by rw [List.getElem?_eq_none_iff] at hx ⊢; rw [← h.len]; exact hx⟩
    | some x =>
      have hl := (List.getElem?_eq_some_iff.1 hx).1
      obtain ⟨y, hy⟩ : ∃ y, t.l[c.toNat]? = some y := ⟨_, List.getElem?_eq_getElem (by rw [← h.len]; exact hl)⟩
      exact .inr ⟨x, y, rfl, hy, h.at_ _ _ _ hx hy⟩
  · rw [if_neg h0, if_neg h0]; exact .inl ⟨rfl, rfl⟩
theorem AlE.put (c : Nat) {X Y : Nat} {a b : SlS} (hab : AlD a b) : AlE ⟨s.top, s.cs, s.l.set c (X, a)⟩ ⟨t.top, t.cs, t.l.set c (Y, b)⟩ where
  top_ := h.top_
  cs := h.cs
  len := by show (s.l.set _ _).length = (t.l.set _ _).length; rw [List.length_set, List.length_set]; exact h.len
  at_ q x y hx hy := by
    replace hx : (s.l.set c (X, a))[q]? = some x := hx
    replace hy : (t.l.set c (Y, b))[q]? = some y := hy
    rw [List.getElem?_set] at hx hy
    split at hx
    · rename_i e
      subst e
      rw [if_pos rfl] at hy
      split at hx
      · split at hy
        · injection hx with hx; injection hy with hy
          subst hx; subst hy
          exact hab
        · cases hy
      · cases hx
    · rename_i e
      rw [if_neg e] at hy
      exact h.at_ q x y hx hy
theorem AlE.cells (c : List ACell) : AlE ⟨s.top, c, s.l⟩ ⟨t.top, c, t.l⟩ := ⟨h.top_, rfl, h.len, h.at_⟩
theorem AlE.ins (d : Hdl) (c : Int) (v : V3) : (s.ins d c v).1 = (t.ins d c v).1 ∧ (s.ins d c v).2.1 = (t.ins d c v).2.1 ∧ (s.ins d c v).2.2.1 = (t.ins d c v).2.2.1 ∧ AlE (s.ins d c v).2.2.2 (t.ins d c v).2.2.2 := by
  unfold EnS.ins
  rw [h.live d]
  split
  · rcases h.slot c with ⟨h1, h2⟩ | ⟨x, y, h1, h2, hd⟩
    · rw [h1, h2]; exact ⟨rfl, rfl, rfl, h⟩
    · rw [h1, h2]
      exact ⟨hd.putU _ _, hd.putB _ _, hd.err _ _, h.put _ (hd.put _ _)⟩
  · exact ⟨rfl, rfl, rfl, h⟩
theorem AlE.get (d : Hdl) (c : Int) : s.get d c = t.get d c := by
  unfold EnS.get
  rw [h.live d]
  split
  · rcases h.slot c with ⟨h1, h2⟩ | ⟨x, y, h1, h2, hd⟩
    · rw [h1, h2]
    · rw [h1, h2]
      simp only
      rw [hd.has, hd.get]
  · rfl
theorem AlE.rem (d : Hdl) (c : Int) : (s.rem d c).1 = (t.rem d c).1 ∧ (s.rem d c).2.1 = (t.rem d c).2.1 ∧ AlE (s.rem d c).2.2 (t.rem d c).2.2 := by
  unfold EnS.rem
  rw [h.live d]
  split
  · rcases h.slot c with ⟨h1, h2⟩ | ⟨x, y, h1, h2, hd⟩
    · rw [h1, h2]; exact ⟨rfl, rfl, h⟩
    · rw [h1, h2]
      simp only
      rw [hd.has, hd.get]
      split
      · exact ⟨rfl, rfl, h.put _ (hd.take _)⟩
      · exact ⟨rfl, rfl, h⟩
  · exact ⟨rfl, rfl, h⟩
theorem AlE.set (d : Hdl) (c : Int) (v : V3) : (s.set d c v).1 = (t.set d c v).1 ∧ AlE (s.set d c v).2 (t.set d c v).2 := by
  unfold EnS.set
  rw [h.live d]
  split
  · rcases h.slot c with ⟨h1, h2⟩ | ⟨x, y, h1, h2, hd⟩
    · rw [h1, h2]; exact ⟨rfl, h⟩
    · rw [h1, h2]
      exact ⟨hd.errSet _ _, h.put _ (hd.set _ _)⟩
  · exact ⟨rfl, h⟩
theorem AlE.hasAt (i : Int) (c : Nat) : YtiafdlofcjbllaaGreatDoor.hasAt s.l i c = YtiafdlofcjbllaaGreatDoor.hasAt t.l i c := by
  unfold YtiafdlofcjbllaaGreatDoor.hasAt
  cases hx : s.l[c]? with
  | none => rw [show t.l[c]? = none by rw [List.getElem?_eq_none_iff] at hx ⊢; rw [← h.len]; exact hx]
  | some x =>
    have hl := (List.getElem?_eq_some_iff.1 hx).1
    obtain ⟨y, hy⟩ : ∃ y, t.l[c]? = some y := ⟨_, List.getElem?_eq_getElem (by rw [← h.len]; exact hl)⟩
    rw [hy]
    exact (h.at_ _ _ _ hx hy).has _
theorem AlE.ofN (i : Int) (k : Nat) : YtiafdlofcjbllaaGreatDoor.ofN s.l i k = YtiafdlofcjbllaaGreatDoor.ofN t.l i k := ofN_congr fun c _ => h.hasAt i c
theorem AlE.parts (d : Hdl) : s.parts d = t.parts d := by
  unfold EnS.parts
  rw [h.live d, h.len, h.ofN]
theorem AlE.del (d : Hdl) : (s.del d).1 = (t.del d).1 ∧ (s.del d).2.1 = (t.del d).2.1 ∧ AlE (s.del d).2.2 (t.del d).2.2 := by
  unfold EnS.del
  rw [h.live d]
  split
  · refine ⟨by rw [h.len, h.ofN], rfl, ?_⟩
    refine ⟨h.top_, by show (delA s.top s.cs d).2 = (delA t.top t.cs d).2; rw [h.top_, h.cs], by show (strL _ _).length = (strL _ _).length; rw [strL_len, strL_len]; exact h.len, fun c x y hx hy => ?_⟩
    replace hx : (strL s.l d.1)[c]? = some x := hx
    replace hy : (strL t.l d.1)[c]? = some y := hy
    unfold strL at hx hy
    rw [List.getElem?_map] at hx hy
    cases h1 : s.l[c]? with
    | none => rw [h1] at hx; cases hx
    | some x1 =>
      cases h2 : t.l[c]? with
      | none => rw [h2] at hy; cases hy
      | some y1 =>
        rw [h1] at hx; rw [h2] at hy
        simp only [Option.map_some, Option.some.injEq] at hx hy
        subst hx; subst hy
        exact (h.at_ _ _ _ h1 h2).take _
  · exact ⟨rfl, rfl, h⟩
end
section
variable {t : WoS} (hh : t.held = false)
include hh
theorem WoS.ins_f (d : Hdl) (c : Int) (v : V3) : t.ins d c v = ((t.e.ins d c v).1, (t.e.ins d c v).2.1, (t.e.ins d c v).2.2.1, { t with e := (t.e.ins d c v).2.2.2 }) := by
  unfold WoS.ins
  by_cases h4 : t.e.live d = 4
  · rw [WoS.may_live4 h4, if_neg (by decide), EnS.ins_no (by rw [h4]; decide), h4]
  · rw [WoS.may_not4 h4, if_pos (WoS.free_free hh)]
theorem WoS.rem_f (d : Hdl) (c : Int) : t.rem d c = ((t.e.rem d c).1, (t.e.rem d c).2.1, { t with e := (t.e.rem d c).2.2 }) := by
  unfold WoS.rem
  by_cases h4 : t.e.live d = 4
  · rw [WoS.may_live4 h4, if_neg (by decide), EnS.rem_no (by rw [EnS.get_no (by rw [h4]; decide), h4]) (by decide)]
  · rw [WoS.may_not4 h4, if_pos (WoS.free_free hh)]
theorem WoS.del_f (d : Hdl) : t.del d = ((t.e.del d).1, (t.e.del d).2.1, { t with e := (t.e.del d).2.2 }) := by
  unfold WoS.del
  by_cases h4 : t.e.live d = 4
  · rw [WoS.may_live4 h4, if_neg (by decide), EnS.del_no (by rw [h4]; decide), h4]
  · rw [WoS.may_not4 h4, if_pos (WoS.free_free hh)]
theorem WoS.create_f : t.create = t.give 1 := by
  unfold WoS.create
  rw [if_pos (WoS.free_free hh)]
end
/-- How far a script has come. -/
structure EpI (s : EnS) (t : WoS) (m k : Nat) : Prop where
  al : AlE s t.e
  held : t.held = false
  len : s.l.length = m
  ev : EvL k s.l
section
variable {s : EnS} {t : WoS} {m k : Nat} (h : EpI s t m k)
include h
theorem EpI.evt : EvL k t.e.l := fun y hy => by
  obtain ⟨c, hc⟩ := List.getElem?_of_mem hy
  have hl := (List.getElem?_eq_some_iff.1 hc).1
  obtain ⟨x, hx⟩ : ∃ x, s.l[c]? = some x := ⟨_, List.getElem?_eq_getElem (by rw [h.al.len]; exact hl)⟩
  rw [← (h.al.at_ _ _ _ hx hc).evs]
  exact h.ev _ (List.mem_of_getElem? hx)
theorem EpI.lent : t.e.l.length = m := by rw [← h.al.len]; exact h.len
theorem EpI.more : EpI s t m (k + 1) := ⟨h.al, h.held, h.len, h.ev.more⟩
theorem EpI.ins {d : Hdl} {c : Int} {v u : V3} {b : Bool} {x : Int} {s' : EnS} (hi : s.ins d c v = (u, b, x, s')) : ∃ t', t.ins d c v = (u, b, x, t') ∧ EpI s' t' m (k + 1) := by
  have ha := h.al.ins d c v
  have hl : (s.ins d c v).2.2.2.l.length = s.l.length := by
    unfold EnS.ins
    split
    · split
      · simp
      · rfl
    · rfl
  have he := EvL.ins (h := d) (c := c) (v := v) h.ev
  rw [hi] at ha hl he
  refine ⟨{ t with e := (t.e.ins d c v).2.2.2 }, ?_, ha.2.2.2, h.held, by rw [hl]; exact h.len, he⟩
  rw [WoS.ins_f h.held, ← ha.1, ← ha.2.1, ← ha.2.2.1]
theorem EpI.rem {d : Hdl} {c : Int} {u : V3} {x : Int} {s' : EnS} (hi : s.rem d c = (u, x, s')) : ∃ t', t.rem d c = (u, x, t') ∧ EpI s' t' m (k + 1) := by
  have ha := h.al.rem d c
  have hl : (s.rem d c).2.2.l.length = s.l.length := by
    unfold EnS.rem
    split
    · split
      · split
        · simp
        · rfl
      · rfl
    · rfl
  have he := EvL.rem (h := d) (c := c) h.ev
  rw [hi] at ha hl he
  refine ⟨{ t with e := (t.e.rem d c).2.2 }, ?_, ha.2.2, h.held, by rw [hl]; exact h.len, he⟩
  rw [WoS.rem_f h.held, ← ha.1, ← ha.2.1]
theorem EpI.set {d : Hdl} {c : Int} {v : V3} {x : Int} {s' : EnS} (hi : s.set d c v = (x, s')) : ∃ t', t.set d c v = (x, t') ∧ EpI s' t' m (k + 1) := by
  have ha := h.al.set d c v
  have hl : (s.set d c v).2.l.length = s.l.length := by
    unfold EnS.set
    split
    · split
      · simp
      · rfl
    · rfl
  have he := EvL.sets (h := d) (c := c) (v := v) h.ev
  rw [hi] at ha hl he
  refine ⟨{ t with e := (t.e.set d c v).2 }, ?_, ha.2, h.held, by rw [hl]; exact h.len, he⟩
  have e : t.set d c v = ((t.e.set d c v).1, { t with e := (t.e.set d c v).2 }) := rfl
  rw [e, ← ha.1]
theorem EpI.del {d : Hdl} {n x : Int} {s' : EnS} (hi : s.del d = (n, x, s')) : ∃ t', t.del d = (n, x, t') ∧ EpI s' t' m (k + 1) := by
  have ha := h.al.del d
  have hl : (s.del d).2.2.l.length = s.l.length := by
    unfold EnS.del
    split
    · exact strL_len _ _
    · rfl
  have he := EvL.del (h := d) h.ev
  rw [hi] at ha hl he
  refine ⟨{ t with e := (t.e.del d).2.2 }, ?_, ha.2.2, h.held, by rw [hl]; exact h.len, he⟩
  rw [WoS.del_f h.held, ← ha.1, ← ha.2.1]
theorem EpI.get {d : Hdl} {c : Int} {r : V3 × Int} (hi : s.get d c = r) : t.get d c = r := by
  unfold WoS.get; rw [← h.al.get]; exact hi
theorem EpI.parts {d : Hdl} {r : List Nat × Int} (hi : s.parts d = r) : t.e.parts d = r := by rw [← h.al.parts]; exact hi
theorem EpI.cells (c : List ACell) : EpI ⟨s.top, c, s.l⟩ { t with e := ⟨t.e.top, c, t.e.l⟩ } m (k + 1) := ⟨h.al.cells c, h.held, h.len, h.ev.more⟩
theorem EpI.cs : s.cs = t.e.cs := h.al.cs
end
/-! ### What memory says -/
section
variable {w0 w : World} {L : List As}
theorem en_oks {E A R : Nat} {s : EnS} (hs : St w0 (EnB E A R s :: L) w) : ∀ (c : Nat) (x : Cmp), s.l[c]? = some x → x.2.Ok := fun c x hx => by
  obtain ⟨_, A2, cap, h⟩ := hs.enopen.rot.rgopen
  exact (h.up2.slsOut hx).slwf.ok
theorem dw_oks {M : Nat} {s : WoS} (hs : St w0 (DwB M s :: L) w) : ∀ (c : Nat) (x : Cmp), s.e.l[c]? = some x → x.2.Ok := fun c x hx => by
  obtain ⟨A, n, c', B, cB, C, cC, D, cD, hp, h⟩ := hs.dwopen
  exact ((h.up3.dlsOut hx).dsopen).1
end
theorem NewL.al {ds : List V3} {l l2 : List Cmp} {top : Int} {cs : List ACell} (h1 : NewL ds l) (h2 : NewL ds l2) (o1 : ∀ (c : Nat) (x : Cmp), l[c]? = some x → x.2.Ok) (o2 : ∀ (c : Nat) (x : Cmp), l2[c]? = some x → x.2.Ok) : AlE ⟨top, cs, l⟩ ⟨top, cs, l2⟩ where
  top_ := rfl
  cs := rfl
  len := by show l.length = l2.length; rw [h1.len, h2.len]
  at_ c x y hx hy := by
    have f1 := (o1 c x hx).flag
    have f2 := (o2 c y hy).flag
    obtain ⟨d, v, F, e1, e2⟩ := h1.at_ c x hx
    obtain ⟨d', v', F', e3, e4⟩ := h2.at_ c y hy
    rw [e1] at e3
    injection e3 with e3
    subst e3
    rw [e2] at f1 ⊢
    rw [e4] at f2 ⊢
    exact ⟨rfl, rfl, rfl, rfl, rfl, f1.trans f2.symm⟩
attribute [local irreducible] wpList Calls Code.wp
theorem en_alloc {w0 w : World} {L : List As} {E A R : Nat} {s : EnS} (hs : St w0 (EnB E A R s :: L) w) : Calls Tryz.prog 39 #[.pointer (some ⟨E, 0, none⟩)] w fun r w' => r = .returned (.pointer (some ⟨A, 0, none⟩)) ∧ w = w' := by
  have k0 := Rd.en0 _ hs
  go_enter Tryz.func39, Tryz.ntmps39
  go_wp2
  go_ret
  exact ⟨rfl, rfl⟩
theorem en_reg {w0 w : World} {L : List As} {E A R : Nat} {s : EnS} (hs : St w0 (EnB E A R s :: L) w) : Calls Tryz.prog 40 #[.pointer (some ⟨E, 0, none⟩)] w fun r w' => r = .returned (.pointer (some ⟨R, 0, none⟩)) ∧ w = w' := by
  have k0 := Rd.en1 _ hs
  go_enter Tryz.func40, Tryz.ntmps40
  go_wp2
  go_ret
  exact ⟨rfl, rfl⟩
end Go.Proofs.YtiafdlofcjbllaaGreatDoor
