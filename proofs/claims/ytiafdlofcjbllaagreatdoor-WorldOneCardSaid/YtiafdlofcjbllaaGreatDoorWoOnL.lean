/-
  WorldOne: plain law (one world at once, one later).
-/
import Derived.Test.YtiafdlofcjbllaaGreatDoorWo10
import Derived.Test.YtiafdlofcjbllaaGreatDoorWo11
import Derived.Test.YtiafdlofcjbllaaGreatDoorAlE
set_option maxRecDepth 100000
namespace Go.Proofs.YtiafdlofcjbllaaGreatDoor
open Go Go.RowKit
/-- Nothing is raised. -/
def NoR (cs : List ACell) : Prop := ∀ c ∈ cs, c.1 ≠ 2
section
variable {cs : List ACell}
theorem NoR.merge (h : NoR cs) : mergeA cs = cs := by
  unfold mergeA
  conv => rhs; rw [← List.map_id cs]
  exact List.map_congr_left fun c hc => by rw [if_neg (h c hc)]; rfl
theorem NoR.set (h : NoR cs) {i : Nat} {c : ACell} (hc : c.1 ≠ 2) : NoR (cs.set i c) := fun x hx => by
  rcases List.mem_or_eq_of_mem_set hx with h1 | rfl
  · exact h x h1
  · exact hc
theorem NoR.give (h : NoR cs) {v : Hdl} {x : Int} {c : List ACell} (hv : giveV 1 cs = (v, x, c)) : NoR c := by
  cases hi : idxS 0 cs with
  | nil => rw [giveV_none hi] at hv; cases hv; exact h
  | cons i l => rw [giveV_some hi] at hv; cases hv; exact h.set (show (1 : Nat) ≠ 2 by decide)
theorem NoR.del (h : NoR cs) (top : Int) (d : Hdl) : NoR (delA top cs d).2 := by
  unfold delA
  split
  · exact h
  · split
    · exact h
    · refine h.set ?_
      show (if top ≤ d.2 then 9 else 0) ≠ 2
      split <;> decide
theorem NoR.st (h : NoR cs) (d : Hdl) : stV cs d = 0 ∨ stV cs d = 1 := by
  rcases stV_cases cs d with h1 | h1 | h1
  · exact .inl h1
  · exfalso
    unfold stV at h1
    split at h1
    · rename_i q
      split at h1
      · cases h1
      · split at h1
        · rename_i q2
          have hk : d.1.toNat < cs.length := by omega
          unfold stA at q2
          rw [List.getD_eq_getElem?_getD, List.getElem?_eq_getElem hk] at q2
          exact h _ (List.getElem_mem hk) q2
        · cases h1
    · cases h1
  · exact .inr h1
theorem NoR.new (n : Nat) : NoR (newA n) := fun c hc => by
  unfold newA at hc
  rw [(List.mem_replicate.1 hc).2]
  decide
end
/-- How far the two worlds have come. -/
structure OnI (s t : WoS) (k : Nat) : Prop where
  al : AlE s.e t.e
  nr : NoR s.e.cs
  hs : s.held = false
  ht : t.held = false
  qt : t.q = []
  one : ∃ (X : Nat) (sl : SlS), s.e.l = [(X, sl)] ∧ sl.d = ⟨1, 3, 500⟩ ∧ sl.F.isSome = true ∧ sl.rds = [0]
  ev : EvL k s.e.l
  evt : EvL k t.e.l
/-- What a call of each comes to. -/
def OnR (s' t : WoS) (o : OpW) (g : Int) (k : Nat) : Prop := ∃ (kk : Int) (t1 : WoS) (u : V3) (t' : WoS), t.defer [o] = (kk, t1) ∧ t1.maint = (u, 0, t') ∧ t1.q.length ≤ 10000 ∧ EvL k t1.e.l ∧ OnI s' t' (k + 1) ∧ ((g = 4 ∧ kk = 4) ∨ (g ≠ 4 ∧ kk = 0 ∧ ((g = 0 ∧ u.a = 1) ∨ (g ≠ 0 ∧ u.a = 0))))
section
variable {s t : WoS} {k : Nat} {d : Hdl}
theorem OnI.more (h : OnI s t k) : OnI s t (k + 1) := ⟨h.al, h.nr, h.hs, h.ht, h.qt, h.one, h.ev.more, h.evt.more⟩
theorem OnI.mge (h : OnI s t k) {q : List OpW} : ({ ({ t with q := q } : WoS) with e := ⟨t.e.top, mergeA t.e.cs, t.e.l⟩, q := [] } : WoS) = t := by
  have h1 : mergeA t.e.cs = t.e.cs := by rw [← h.al.cs]; exact h.nr.merge
  have h2 := h.qt
  obtain ⟨⟨tp, cs, l⟩, q', r, hl⟩ := t
  simp only at h1 h2 ⊢
  rw [h1, h2]
theorem OnI.maint (h : OnI s t k) {o : OpW} {b : Bool} {t' : WoS} (ha : t.apply o = (b, t')) : ∃ u : V3, ({ t with q := [o] } : WoS).maint = (u, 0, t') ∧ u.a = if b then 1 else 0 := by
  have hr : t.run [o] = (if b then 0 + 1 else 0, if b then 0 else 0 + 1, t') := WoS.run_snoc (l := []) (by unfold WoS.run; rfl) ha
  refine ⟨_, WoS.maint_ok (s := { t with q := [o] }) (a := if b then 0 + 1 else 0) (b := if b then 0 else 0 + 1) (u := t') (WoS.free_free h.ht) ?_, by cases b <;> rfl⟩
  rw [h.mge]
  exact hr
theorem OnI.maint0 (h : OnI s t k) : ∃ u : V3, t.maint = (u, 0, t) ∧ u.a = 0 := by
  have e := h.mge (q := t.q)
  refine ⟨_, WoS.maint_ok (s := t) (a := 0) (b := 0) (u := t) (WoS.free_free h.ht) ?_, rfl⟩
  rw [show ({ t with e := ⟨t.e.top, mergeA t.e.cs, t.e.l⟩, q := [] } : WoS) = t from e, h.qt]
  unfold WoS.run
  rfl
theorem OnI.slot (h : OnI s t k) : ∃ (Y : Nat) (tl : SlS), t.e.slot 0 = some (Y, tl) ∧ tl.d = ⟨1, 3, 500⟩ := by
  obtain ⟨X, sl, hl, hd, _⟩ := h.one
  have h0 : s.e.l[0]? = some (X, sl) := by rw [hl]; rfl
  obtain ⟨⟨Y, tl⟩, hy⟩ : ∃ y, t.e.l[0]? = some y := ⟨_, List.getElem?_eq_getElem (by rw [← h.al.len, hl]; exact Nat.zero_lt_one)⟩
  refine ⟨Y, tl, by rw [show (0 : Int) = ((0 : Nat) : Int) from rfl, EnS.slot_nat]; exact hy, ?_⟩
  rw [← (h.al.at_ 0 _ _ h0 hy).d_]
  exact hd
theorem OnI.defer (h : OnI s t k) {o : OpW} (ho : o.ok = true) (hh : o.h = d) (hc : o.c = 0) (h3 : o.k = 1 ∨ o.k = 2 ∨ o.k = 3) (hv : o.k = 2 → o.v.k = 1) : t.defer [o] = if stV s.e.cs d = 0 then (4, t) else (0, { t with q := [o] }) := by
  obtain ⟨Y, tl, hsl, hd⟩ := h.slot
  have hkn : t.kn o = (true, true) := by
    rcases h3 with q | q | q
    · exact WoS.kn_del q
    · rw [WoS.kn_ins (by omega) (by omega) (by rw [hc]; exact hsl), hv q]; simp only; rw [hd]; rfl
    · exact WoS.kn_rem q (by rw [hc]; exact hsl)
  by_cases h0 : stV s.e.cs d = 0
  · rw [if_pos h0]
    exact WoS.defer_bad (WoS.defE_4 (by simp [ho]) (by simp [hh, ← h.al.cs, h0])) (by decide)
  · rw [if_neg h0]
    have := WoS.defer_ok (s := t) (l := [o]) (by
      rw [WoS.defE_q (by simp [ho]) (by simp [hh, ← h.al.cs, h0]) (by simp [hkn]) (by simp [hkn])]
      unfold quE
      rw [if_neg (by simp [ho]), h.qt]
      rfl)
    rw [this, h.qt]
    rfl
/-- The stale handle. -/
theorem OnI.stale (h : OnI s t k) (h0 : stV s.e.cs d = 0) {o : OpW} (hd : t.defer [o] = if stV s.e.cs d = 0 then (4, t) else (0, { t with q := [o] })) : OnR s t o 4 k := by
  obtain ⟨u, hm, _⟩ := h.maint0
  rw [if_pos h0] at hd
  exact ⟨4, t, u, t, hd, hm, by rw [h.qt]; exact Nat.zero_le _, h.evt, h.more, .inl ⟨rfl, rfl⟩⟩
theorem OnI.live (h : OnI s t k) (h0 : stV s.e.cs d = 1) {o : OpW} (hd : t.defer [o] = if stV s.e.cs d = 0 then (4, t) else (0, { t with q := [o] })) {g : Int} {s' t' : WoS} (hg : g ≠ 4) (ha : t.apply o = (g == 0, t')) (hn : OnI s' t' (k + 1)) : OnR s' t o g k := by
  obtain ⟨u, hm, hu⟩ := h.maint ha
  rw [if_neg (by rw [h0]; decide)] at hd
  refine ⟨0, _, u, t', hd, hm, (show 1 ≤ 10000 by decide), h.evt, hn, .inr ⟨hg, rfl, ?_⟩⟩
  by_cases hz : g = 0
  · exact .inl ⟨hz, by rw [hu, hz]; rfl⟩
  · refine .inr ⟨hz, ?_⟩
    rw [hu, show (g == 0) = false by simpa using hz]
    rfl
theorem OnI.del (h : OnI s t k) (d : Hdl) : ∃ (n g : Int) (s' : WoS), s.del d = (n, g, s') ∧ OnR s' t ⟨1, d, 0, V3.z⟩ g k := by
  have hdf := h.defer (o := ⟨1, d, 0, V3.z⟩) (d := d) (by rfl) rfl rfl (.inl rfl) (fun q => absurd q (show ¬ (1 : Int) = 2 by decide))
  rcases h.nr.st d with h0 | h0
  · have hm : s.may d = 4 := by unfold WoS.may; rw [if_pos h0]
    exact ⟨0, 4, s, by rw [WoS.del_bad (by rw [hm]; decide), hm], h.stale h0 hdf⟩
  · have hl : s.e.live d = 0 := EnS.live_zero.2 h0
    have hm : s.may d = 0 := by rw [WoS.may_not4 (by rw [hl]; decide)]; exact WoS.free_free h.hs
    have hsd : s.e.del d = ((((ofN s.e.l d.1 s.e.l.length).length : Nat) : Int), 0, ⟨s.e.top, (delA s.e.top s.e.cs d).2, strL s.e.l d.1⟩) := by unfold EnS.del; rw [if_pos hl]
    obtain ⟨a1, a2, a3⟩ := h.al.del d
    rw [hsd] at a1 a2 a3
    obtain ⟨n2, g2, f2⟩ : ∃ n2 g2 f2, t.e.del d = (n2, g2, f2) := ⟨_, _, _, rfl⟩
    have hev := h.ev.del (h := d)
    have hevt := h.evt.del (h := d)
    obtain ⟨f2, hf⟩ := f2
    rw [hsd] at hev
    rw [hf] at a2 a3 hevt
    simp only at a2
    obtain rfl := a2
    refine ⟨_, 0, _, WoS.del_ok hm hsd, h.live h0 hdf (by decide) (WoS.apply_del (o := ⟨1, d, 0, V3.z⟩) rfl hf) ⟨a3, h.nr.del _ _, h.hs, h.ht, h.qt, ?_, hev, hevt⟩⟩
    obtain ⟨X, sl, h1, h2, h3, h4⟩ := h.one
    exact ⟨X, sl.take d.1, by show strL s.e.l d.1 = _; rw [h1]; rfl, by rw [SlS.take_d]; exact h2, by rw [SlS.take_F]; exact h3, by rw [SlS.take_rds]; exact h4⟩
theorem OnI.ins (h : OnI s t k) (d : Hdl) {v : V3} (hv : okVal v = true) (hk : v.k = 1) : ∃ (u : V3) (b : Bool) (g : Int) (s' : WoS), s.ins d 0 v = (u, b, g, s') ∧ OnR s' t ⟨2, d, 0, v⟩ g k := by
  have hdf := h.defer (o := ⟨2, d, 0, v⟩) (d := d) (by unfold OpW.ok; rw [if_neg (show ¬ (2 : Int) = 1 by decide), if_pos rfl]; simpa using hv) rfl rfl (.inr (.inl rfl)) (fun _ => hk)
  rcases h.nr.st d with h0 | h0
  · have hm : s.may d = 4 := by unfold WoS.may; rw [if_pos h0]
    exact ⟨V3.z, false, 4, s, by rw [WoS.ins_bad (by rw [hm]; decide), hm], h.stale h0 hdf⟩
  · have hl : s.e.live d = 0 := EnS.live_zero.2 h0
    have hm : s.may d = 0 := by rw [WoS.may_not4 (by rw [hl]; decide)]; exact WoS.free_free h.hs
    obtain ⟨X, sl, h1, h2, h3, h4⟩ := h.one
    have hs0 : s.e.slot 0 = some (X, sl) := by rw [show (0 : Int) = ((0 : Nat) : Int) from rfl, EnS.slot_nat, h1]; rfl
    have hsi := EnS.ins_in (v := v) hl hs0
    obtain ⟨a1, a2, a3, a4⟩ := h.al.ins d 0 v
    have hev := h.ev.ins (h := d) (c := 0) (v := v)
    have hevt := h.evt.ins (h := d) (c := 0) (v := v)
    obtain ⟨u2, b2, g2, f2, hf⟩ : ∃ u2 b2 g2 f2, t.e.ins d 0 v = (u2, b2, g2, f2) := ⟨_, _, _, _, rfl⟩
    rw [hsi] at a1 a2 a3 a4 hev
    rw [hf] at a1 a2 a3 a4 hevt
    simp only at a1 a2 a3
    have hg : sl.err d.1 v ≠ 4 := by
      unfold SlS.err
      split
      · split <;> decide
      · decide
    have hf2 : t.e.ins d 0 v = (u2, b2, sl.err d.1 v, f2) := by rw [hf, a3]
    refine ⟨_, _, sl.err d.1 v, _, WoS.ins_ok hm hsi, h.live h0 hdf hg (WoS.apply_ins (o := ⟨2, d, 0, v⟩) rfl hf2) ⟨a4, h.nr, h.hs, h.ht, h.qt, ?_, hev, hevt⟩⟩
    exact ⟨X, sl.put d.1 v, by show s.e.l.set _ _ = _; rw [h1]; rfl, by rw [SlS.put_d]; exact h2, by rw [SlS.put_F]; exact h3, by rw [SlS.put_rds]; exact h4⟩
theorem OnI.rem (h : OnI s t k) (d : Hdl) : ∃ (u : V3) (g : Int) (s' : WoS), s.rem d 0 = (u, g, s') ∧ OnR s' t ⟨3, d, 0, V3.z⟩ g k := by
  have hdf := h.defer (o := ⟨3, d, 0, V3.z⟩) (d := d) (by rfl) rfl rfl (.inr (.inr rfl)) (fun q => absurd q (show ¬ (3 : Int) = 2 by decide))
  rcases h.nr.st d with h0 | h0
  · have hm : s.may d = 4 := by unfold WoS.may; rw [if_pos h0]
    exact ⟨V3.z, 4, s, by rw [WoS.rem_bad (by rw [hm]; decide), hm], h.stale h0 hdf⟩
  · have hl : s.e.live d = 0 := EnS.live_zero.2 h0
    have hm : s.may d = 0 := by rw [WoS.may_not4 (by rw [hl]; decide)]; exact WoS.free_free h.hs
    obtain ⟨X, sl, h1, h2, h3, h4⟩ := h.one
    have hs0 : s.e.slot 0 = some (X, sl) := by rw [show (0 : Int) = ((0 : Nat) : Int) from rfl, EnS.slot_nat, h1]; rfl
    have hsr : s.e.rem d 0 = if sl.has d.1 then (sl.get d.1, 0, ⟨s.e.top, s.e.cs, s.e.l.set 0 (X, sl.take d.1)⟩) else (V3.z, 10, s.e) := by
      unfold EnS.rem; rw [if_pos hl, hs0]; rfl
    obtain ⟨a1, a2, a3⟩ := h.al.rem d 0
    have hev := h.ev.rem (h := d) (c := 0)
    have hevt := h.evt.rem (h := d) (c := 0)
    obtain ⟨u2, g2, f2, hf⟩ : ∃ u2 g2 f2, t.e.rem d 0 = (u2, g2, f2) := ⟨_, _, _, rfl⟩
    rw [hf] at a1 a2 a3 hevt
    rw [hsr] at a1 a2 a3 hev
    by_cases hb : sl.has d.1 = true
    · rw [if_pos hb] at hsr a1 a2 a3 hev
      simp only at a2
      have hf2 : t.e.rem d 0 = (u2, 0, f2) := by rw [hf, a2]
      refine ⟨_, 0, _, WoS.rem_ok hm hsr, h.live h0 hdf (by decide) (WoS.apply_rem (o := ⟨3, d, 0, V3.z⟩) (show (3 : Int) ≠ 1 by decide) (show (3 : Int) ≠ 2 by decide) hf2) ⟨a3, h.nr, h.hs, h.ht, h.qt, ?_, hev, hevt⟩⟩
      exact ⟨X, sl.take d.1, by show s.e.l.set _ _ = _; rw [h1]; rfl, by rw [SlS.take_d]; exact h2, by rw [SlS.take_F]; exact h3, by rw [SlS.take_rds]; exact h4⟩
    · rw [if_neg hb] at hsr a1 a2 a3 hev
      simp only at a2
      have hf2 : t.e.rem d 0 = (u2, 10, f2) := by rw [hf, a2]
      exact ⟨_, 10, _, WoS.rem_ok hm hsr, h.live h0 hdf (by decide) (WoS.apply_rem (o := ⟨3, d, 0, V3.z⟩) (show (3 : Int) ≠ 1 by decide) (show (3 : Int) ≠ 2 by decide) hf2) ⟨a3, h.nr, h.hs, h.ht, h.qt, ⟨X, sl, h1, h2, h3, h4⟩, hev, hevt⟩⟩
theorem OnI.create (h : OnI s t k) : ∃ (v : Hdl) (x : Int) (s' t' : WoS), s.create = (v, x, s') ∧ t.create = (v, x, t') ∧ OnI s' t' (k + 1) := by
  obtain ⟨v, x, c, hg⟩ : ∃ v x c, giveV 1 s.e.cs = (v, x, c) := ⟨_, _, _, rfl⟩
  exact ⟨v, x, _, _, WoS.create_ok (WoS.free_free h.hs) hg, WoS.create_ok (WoS.free_free h.ht) (by rw [← h.al.cs]; exact hg), ⟨h.al.cells c, h.nr.give hg, h.hs, h.ht, h.qt, h.one, h.ev.more, h.evt.more⟩⟩
theorem OnI.reads (h : OnI s t k) (hk : k ≤ 60) : ∃ (ev : List Ev) (s' t' : WoS), s.read 0 0 = (ev, false, 0, s') ∧ t.read 0 0 = (ev, false, 0, t') ∧ ev.length ≤ 60 := by
  obtain ⟨X, sl, h1, h2, h3, h4⟩ := h.one
  have hx : s.e.l[0]? = some (X, sl) := by rw [h1]; rfl
  obtain ⟨⟨Y, tl⟩, hy⟩ : ∃ y, t.e.l[0]? = some y := ⟨_, List.getElem?_eq_getElem (by rw [← h.al.len, h1]; exact Nat.zero_lt_one)⟩
  have ha := h.al.at_ 0 _ _ hx hy
  simp only at ha
  have hl : sl.evs.length ≤ 60 := Nat.le_trans (h.ev _ (List.mem_of_getElem? hx)) hk
  have hlg : lagE sl.d.b.toNat sl.evs 0 = false := by unfold lagE; rw [h2]; exact decide_eq_false (by show ¬ 500 < _; omega)
  have hne : newE sl.d.b.toNat sl.evs 0 = sl.evs := by unfold newE; rw [hlg]; rfl
  obtain ⟨f, hF⟩ := Option.isSome_iff_exists.1 h3
  obtain ⟨f2, hF2⟩ := Option.isSome_iff_exists.1 (ha.F.symm.trans h3)
  have r1 := WoS.read_ok (s := s) (j := 0) (i := 0) (k := 0) hx hF (by rw [h4]; rfl)
  have r2 := WoS.read_ok (s := t) (j := 0) (i := 0) (k := 0) hy hF2 (by rw [← ha.rds, h4]; rfl)
  rw [← ha.d_, ← ha.evs] at r2
  rw [hlg, hne] at r1 r2
  exact ⟨sl.evs, _, _, r1, r2, hl⟩
theorem onStart {X Y : Nat} {v v' : Value} {F F' : Option Nat} (hF : F.isSome = true) (hF' : F'.isSome = true) : ∃ s' t', (⟨⟨9, newA 6, [(X, newSl ⟨1, 3, 500⟩ v F)]⟩, [], [], false⟩ : WoS).reader 0 = (0, 0, s') ∧ (⟨⟨9, newA 6, [(Y, newSl ⟨1, 3, 500⟩ v' F')]⟩, [], [], false⟩ : WoS).reader 0 = (0, 0, t') ∧ OnI s' t' 0 := by
  obtain ⟨f, hf⟩ := Option.isSome_iff_exists.1 hF
  obtain ⟨f', hf'⟩ := Option.isSome_iff_exists.1 hF'
  have e : ∀ {Z : Nat} {w : Value} {G : Option Nat}, EvL 0 [(Z, { newSl ⟨1, 3, 500⟩ w G with rds := [0] })] := fun {Z w G} x hx => by
    have : x = (Z, { newSl ⟨1, 3, 500⟩ w G with rds := [0] }) := by simpa using hx
    rw [this]; exact Nat.le_refl _
  refine ⟨⟨⟨9, newA 6, [(X, { newSl ⟨1, 3, 500⟩ v F with rds := [0] })]⟩, [], [], false⟩, ⟨⟨9, newA 6, [(Y, { newSl ⟨1, 3, 500⟩ v' F' with rds := [0] })]⟩, [], [], false⟩, ?_, ?_, ⟨⟨rfl, rfl, rfl, fun c x y hx hy => ?_⟩, NoR.new 6, rfl, rfl, rfl, ⟨X, _, rfl, rfl, hF, rfl⟩, e, e⟩⟩
  · exact WoS.reader_ok (s := ⟨⟨9, newA 6, [(X, newSl ⟨1, 3, 500⟩ v F)]⟩, [], [], false⟩) (j := 0) (WoS.free_free rfl) rfl hf (show 0 < 100 by decide)
  · exact WoS.reader_ok (s := ⟨⟨9, newA 6, [(Y, newSl ⟨1, 3, 500⟩ v' F')]⟩, [], [], false⟩) (j := 0) (WoS.free_free rfl) rfl hf' (show 0 < 100 by decide)
  · match c, hx, hy with
    | 0, hx, hy =>
      injection hx with hx
      injection hy with hy
      subst hx; subst hy
      exact ⟨rfl, rfl, rfl, rfl, rfl, hF.trans hF'.symm⟩
end
end Go.Proofs.YtiafdlofcjbllaaGreatDoor
