/-
  WorldFolds: plain law (one thing of one component; what waits is done in its order).
-/
import Derived.Test.YtiafdlofcjbllaaGreatDoorWo10
import Derived.Test.YtiafdlofcjbllaaGreatDoorEn6
import Derived.Test.YtiafdlofcjbllaaGreatDoorJU
set_option maxRecDepth 100000
namespace Go.Proofs.YtiafdlofcjbllaaGreatDoor
open Go Go.RowKit
structure FoC (c1 c2 : List ACell) : Prop where
  cr : giveV 1 (newA 5) = ((0, 1), 0, c1)
  s1 : stV c1 (0, 1) = 1
  s2 : stV c2 (0, 1) = 0
  del : (delA 9 c1 (0, 1)).2 = c2
  mg : mergeA c1 = c1
  ix : idxS 2 c1 = []
theorem foC : ∃ c1 c2, FoC c1 c2 := ⟨(newA 5).set 0 (1, 1), (delA 9 ((newA 5).set 0 (1, 1)) (0, 1)).2, by kernel_rfl, by kernel_rfl, by kernel_rfl, rfl, by kernel_rfl, by kernel_rfl⟩
/-- How the thing stands. -/
structure OneI (c1 c2 : List ACell) (t : WoS) (there gone : Bool) (last : Int) (k : Nat) : Prop where
  at_ : ∃ (X : Nat) (sl : SlS), t.e = ⟨9, if gone then c2 else c1, [(X, sl)]⟩ ∧ sl.d = ⟨1, 3, 0⟩ ∧ (gone = false → sl.has 0 = there ∧ (there = true → sl.get 0 = ⟨1, last, 0⟩)) ∧ (gone = true → there = false)
  q : t.q = []
  ev : EvL k t.e.l
section
variable {c1 c2 : List ACell} {t : WoS} {there gone : Bool} {last : Int} {k : Nat}
theorem FoC.live4 (hc : FoC c1 c2) {l : List Cmp} {top : Int} : (EnS.mk top c2 l).live (0, 1) = 4 := by unfold EnS.live; rw [if_pos hc.s2]
theorem FoC.live0 (hc : FoC c1 c2) {l : List Cmp} {top : Int} : (EnS.mk top c1 l).live (0, 1) = 0 := EnS.live_zero.2 hc.s1
theorem OneI.ins (hc : FoC c1 c2) (h : OneI c1 c2 t there gone last k) (v : Int) : ∃ t', t.apply ⟨2, (0, 1), 0, ⟨1, v, 0⟩⟩ = (!gone, t') ∧ OneI c1 c2 t' (!gone) gone (if gone then last else v) (k + 1) := by
  obtain ⟨⟨X, sl, he, hd, hn, hg⟩, hq, hev⟩ := h
  cases gone
  · have hl : t.e.live (0, 1) = 0 := by rw [he]; exact hc.live0
    have hs : t.e.slot 0 = some (X, sl) := by rw [he]; rfl
    have hi := EnS.ins_in (v := ⟨1, v, 0⟩) hl hs
    have her : sl.err 0 ⟨1, v, 0⟩ = 0 := SlS.err_iff.2 ⟨by decide, by rfl, by rw [hd]⟩
    simp only at hi
    rw [her] at hi
    refine ⟨_, WoS.apply_ins (o := ⟨2, (0, 1), 0, ⟨1, v, 0⟩⟩) rfl hi, ⟨X, sl.put 0 ⟨1, v, 0⟩, ?_, by rw [SlS.put_d]; exact hd, fun _ => ⟨?_, fun _ => ?_⟩, (fun h => nomatch h)⟩, hq, ?_⟩
    · rw [he]; rfl
    · rw [SlS.put_has her]; rfl
    · rw [SlS.put_get her, if_pos rfl]; rfl
    · have := EvL.ins (h := (0, 1)) (c := 0) (v := ⟨1, v, 0⟩) hev
      rw [hi] at this
      exact this
  · have hl : t.e.live (0, 1) = 4 := by rw [he]; exact hc.live4
    have hi := EnS.ins_no (c := 0) (v := ⟨1, v, 0⟩) (s := t.e) (h := (0, 1)) (by rw [hl]; decide)
    rw [hl] at hi
    exact ⟨_, WoS.apply_ins (o := ⟨2, (0, 1), 0, ⟨1, v, 0⟩⟩) rfl hi, ⟨X, sl, he, hd, (fun h => nomatch h), fun _ => rfl⟩, hq, hev.more⟩
theorem OneI.rem (hc : FoC c1 c2) (h : OneI c1 c2 t there gone last k) : ∃ t', t.apply ⟨3, (0, 1), 0, V3.z⟩ = (there, t') ∧ OneI c1 c2 t' false gone last (k + 1) := by
  obtain ⟨⟨X, sl, he, hd, hn, hg⟩, hq, hev⟩ := h
  have hev2 := EvL.rem (h := (0, 1)) (c := 0) hev
  cases gone
  · have hl : t.e.live (0, 1) = 0 := by rw [he]; exact hc.live0
    have hs : t.e.slot 0 = some (X, sl) := by rw [he]; rfl
    obtain ⟨hh, hgt⟩ := hn rfl
    have hr : t.e.rem (0, 1) 0 = if sl.has 0 then (sl.get 0, 0, ⟨t.e.top, t.e.cs, t.e.l.set 0 (X, sl.take 0)⟩) else (V3.z, 10, t.e) := by
      unfold EnS.rem; rw [if_pos hl, hs]; rfl
    rw [hr, hh] at hev2
    rw [hh] at hr
    cases there
    · rw [if_neg Bool.false_ne_true] at hr hev2
      exact ⟨_, WoS.apply_rem (o := ⟨3, (0, 1), 0, V3.z⟩) (by decide) (by decide) hr, ⟨X, sl, he, hd, fun _ => ⟨hh, (fun h => nomatch h)⟩, (fun h => nomatch h)⟩, hq, hev2⟩
    · rw [if_pos rfl] at hr hev2
      refine ⟨_, WoS.apply_rem (o := ⟨3, (0, 1), 0, V3.z⟩) (by decide) (by decide) hr, ⟨X, sl.take 0, ?_, by rw [SlS.take_d]; exact hd, fun _ => ⟨?_, (fun h => nomatch h)⟩, (fun h => nomatch h)⟩, hq, hev2⟩
      · rw [he]; rfl
      · rw [SlS.take_has]; rfl
  · have hl : t.e.live (0, 1) = 4 := by rw [he]; exact hc.live4
    have hgn := EnS.get_no (c := 0) (s := t.e) (h := (0, 1)) (by rw [hl]; decide)
    rw [hl] at hgn
    have hr := EnS.rem_no hgn (by decide)
    obtain rfl := hg rfl
    exact ⟨_, WoS.apply_rem (o := ⟨3, (0, 1), 0, V3.z⟩) (by decide) (by decide) hr, ⟨X, sl, he, hd, (fun h => nomatch h), fun _ => rfl⟩, hq, hev.more⟩
theorem OneI.del (hc : FoC c1 c2) (h : OneI c1 c2 t there gone last k) : ∃ t', t.apply ⟨1, (0, 1), 0, V3.z⟩ = (!gone, t') ∧ OneI c1 c2 t' false true last (k + 1) := by
  obtain ⟨⟨X, sl, he, hd, hn, hg⟩, hq, hev⟩ := h
  have hev2 := EvL.del (h := (0, 1)) hev
  cases gone
  · have hl : t.e.live (0, 1) = 0 := by rw [he]; exact hc.live0
    obtain ⟨m, hdl⟩ : ∃ m : Int, t.e.del (0, 1) = (m, 0, ⟨9, c2, [(X, sl.take 0)]⟩) := by
      refine ⟨(((ofN t.e.l 0 t.e.l.length).length : Nat) : Int), ?_⟩
      unfold EnS.del
      rw [if_pos hl, he]
      simp only [Bool.false_eq_true, if_false]
      rw [hc.del]
      rfl
    rw [hdl] at hev2
    refine ⟨_, WoS.apply_del (o := ⟨1, (0, 1), 0, V3.z⟩) rfl hdl, ⟨X, sl.take 0, rfl, by rw [SlS.take_d]; exact hd, (fun h => nomatch h), fun _ => rfl⟩, hq, hev2⟩
  · have hl : t.e.live (0, 1) = 4 := by rw [he]; exact hc.live4
    have hdl := EnS.del_no (s := t.e) (h := (0, 1)) (by rw [hl]; decide)
    rw [hl] at hdl
    exact ⟨_, WoS.apply_del (o := ⟨1, (0, 1), 0, V3.z⟩) rfl hdl, ⟨X, sl, he, hd, (fun h => nomatch h), fun _ => rfl⟩, hq, hev.more⟩
theorem OneI.get (hc : FoC c1 c2) (h : OneI c1 c2 t there gone last k) : t.get (0, 1) 0 = if gone then (V3.z, 4) else if there then (⟨1, last, 0⟩, 0) else (V3.z, 10) := by
  obtain ⟨⟨X, sl, he, hd, hn, hg⟩, hq, hev⟩ := h
  unfold WoS.get
  cases gone
  · have hl : t.e.live (0, 1) = 0 := by rw [he]; exact hc.live0
    have hs : t.e.slot 0 = some (X, sl) := by rw [he]; rfl
    obtain ⟨hh, hgt⟩ := hn rfl
    rw [EnS.get_in hl hs]
    simp only
    rw [hh]
    cases there
    · rfl
    · rw [hgt rfl]; rfl
  · have hl : t.e.live (0, 1) = 4 := by rw [he]; exact hc.live4
    rw [EnS.get_no (by rw [hl]; decide), hl]; rfl
end
/-- How far the statement has come. -/
structure FoI (c1 c2 : List ACell) (s1 s : WoS) (k a b : Nat) (there gone : Bool) (last : Int) : Prop where
  e : s.e = s1.e
  held : s.held = false
  r : s.r = s1.r
  qn : s1.q = []
  hs1 : s1.held = false
  len : s.q.length = k
  ab : a + b = k
  run : ∃ t, s1.run s.q = (a, b, t) ∧ OneI c1 c2 t there gone last k
  shape : ∃ (X : Nat) (sl : SlS), s1.e = ⟨9, c1, [(X, sl)]⟩ ∧ sl.d = ⟨1, 3, 0⟩
  ev0 : EvL 0 s1.e.l
section
variable {c1 c2 : List ACell} {s1 s : WoS} {there gone : Bool} {last : Int} {k a b : Nat}
theorem FoI.defer (hc : FoC c1 c2) (h : FoI c1 c2 s1 s k a b there gone last) (hk : k < 10000) {o : OpW} (hh : o.h = (0, 1)) (hcc : o.c = 0) (ho : o.ok = true) (hv : o.k = 2 → o.v.k = 1) (h3 : o.k = 1 ∨ o.k = 2 ∨ o.k = 3) : s.defer [o] = (0, { s with q := s.q ++ [o] }) := by
  obtain ⟨X, sl, he, hd⟩ := h.shape
  have hst : stV s.e.cs o.h ≠ 0 := by rw [h.e, he, hh]; show stV c1 (0, 1) ≠ 0; rw [hc.s1]; decide
  have hsl : s.e.slot o.c = some (X, sl) := by rw [h.e, he, hcc]; rfl
  have hkn : s.kn o = (true, true) := by
    rcases h3 with q | q | q
    · exact WoS.kn_del q
    · rw [WoS.kn_ins (by omega) (by omega) hsl, hv q]; simp only; rw [hd]; rfl
    · exact WoS.kn_rem q hsl
  refine WoS.defer_ok ?_
  rw [WoS.defE_q (by simp [ho]) (by simp [hst]) (by simp [hkn]) (by simp [hkn])]
  unfold quE
  rw [if_neg (by simp [ho]), if_neg (by rw [h.len]; simp only [List.length_cons, List.length_nil]; omega)]
theorem FoI.step (h : FoI c1 c2 s1 s k a b there gone last) {o : OpW} {th' go' x : Bool} {la' : Int} (hstep : ∀ t, OneI c1 c2 t there gone last k → ∃ t', t.apply o = (x, t') ∧ OneI c1 c2 t' th' go' la' (k + 1)) : FoI c1 c2 s1 { s with q := s.q ++ [o] } (k + 1) (if x then a + 1 else a) (if x then b else b + 1) th' go' la' := by
  obtain ⟨t, h1, h2⟩ := h.run
  obtain ⟨t', h3, h4⟩ := hstep t h2
  refine ⟨h.e, h.held, h.r, h.qn, h.hs1, by show (s.q ++ [o]).length = k + 1; rw [List.length_append, h.len]; rfl, ?_, ⟨t', WoS.run_snoc h1 h3, h4⟩, h.shape, h.ev0⟩
  have := h.ab
  cases x <;> simp <;> omega
theorem FoI.maint (hc : FoC c1 c2) (h : FoI c1 c2 s1 s k a b there gone last) : ∃ t, s.maint = (⟨0, (a : Nat), (b : Nat)⟩, 0, t) ∧ OneI c1 c2 t there gone last k := by
  obtain ⟨t, h1, h2⟩ := h.run
  obtain ⟨X, sl, he, hd⟩ := h.shape
  refine ⟨t, ?_, h2⟩
  have e1 : ({ s with e := ⟨s.e.top, mergeA s.e.cs, s.e.l⟩, q := [] } : WoS) = s1 := by
    obtain ⟨e, q, r, hl⟩ := s
    obtain ⟨e', q', r', hl'⟩ := s1
    obtain rfl := h.e
    obtain rfl := h.r
    obtain rfl : q' = [] := h.qn
    obtain rfl : hl = false := h.held
    obtain rfl : hl' = false := h.hs1
    obtain rfl := he
    show WoS.mk ⟨9, mergeA c1, _⟩ _ _ _ = _
    rw [hc.mg]
  have := WoS.maint_ok (s := s) (a := a) (b := b) (u := t) (WoS.free_free h.held) (by rw [e1]; exact h1)
  rw [this, h.e, he]
  show ((⟨(((idxS 2 c1).length : Nat) : Int), _, _⟩ : V3), _, _) = _
  rw [hc.ix]
  rfl
theorem FoI.gt (h : FoI c1 c2 s1 s k a b there gone last) : gone = true → there = false := by
  obtain ⟨t, _, ho⟩ := h.run
  obtain ⟨X, sl, _, _, _, hg⟩ := ho.at_
  exact hg
theorem FoI.ins (hc : FoC c1 c2) (h : FoI c1 c2 s1 s k a b there gone last) (hk : k < 10000) (v : Int) : ∃ s', s.defer [⟨2, (0, 1), 0, ⟨1, v, 0⟩⟩] = (0, s') ∧ FoI c1 c2 s1 s' (k + 1) (if (!gone) then a + 1 else a) (if (!gone) then b else b + 1) (!gone) gone (if gone then last else v) :=
  ⟨_, h.defer hc hk rfl rfl (by rfl) (fun _ => rfl) (.inr (.inl rfl)), h.step fun t ht => ht.ins hc v⟩
theorem FoI.rem (hc : FoC c1 c2) (h : FoI c1 c2 s1 s k a b there gone last) (hk : k < 10000) : ∃ s', s.defer [⟨3, (0, 1), 0, V3.z⟩] = (0, s') ∧ FoI c1 c2 s1 s' (k + 1) (if there then a + 1 else a) (if there then b else b + 1) false gone last :=
  ⟨_, h.defer hc hk rfl rfl (by rfl) (fun h => absurd h (by decide)) (.inr (.inr rfl)), h.step fun t ht => ht.rem hc⟩
theorem FoI.del (hc : FoC c1 c2) (h : FoI c1 c2 s1 s k a b there gone last) (hk : k < 10000) : ∃ s', s.defer [⟨1, (0, 1), 0, V3.z⟩] = (0, s') ∧ FoI c1 c2 s1 s' (k + 1) (if (!gone) then a + 1 else a) (if (!gone) then b else b + 1) false true last :=
  ⟨_, h.defer hc hk rfl rfl (by rfl) (fun h => absurd h (by decide)) (.inl rfl), h.step fun t ht => ht.del hc⟩
end
end Go.Proofs.YtiafdlofcjbllaaGreatDoor
