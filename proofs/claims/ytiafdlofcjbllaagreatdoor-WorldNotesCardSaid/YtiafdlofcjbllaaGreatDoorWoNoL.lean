/-
  WorldNotes: plain law (what readers are told of a thing that is deleted).
-/
import Derived.Test.YtiafdlofcjbllaaGreatDoorWo10
import Derived.Test.YtiafdlofcjbllaaGreatDoorWo11
import Derived.Test.YtiafdlofcjbllaaGreatDoorEn5
import Derived.Test.YtiafdlofcjbllaaGreatDoorEnLw
import Derived.Test.YtiafdlofcjbllaaGreatDoorJU
set_option maxRecDepth 100000
namespace Go.Proofs.YtiafdlofcjbllaaGreatDoor
open Go Go.RowKit
structure NoC (c1 c2 : List ACell) : Prop where
  cr1 : giveV 1 (newA 10) = ((0, 1), 0, c1)
  cr2 : giveV 1 c1 = ((1, 1), 0, c2)
  st : stV c2 (1, 1) = 1
  mg : mergeA c2 = c2
theorem noC : ∃ c1 c2, NoC c1 c2 := ⟨(newA 10).set 0 (1, 1), ((newA 10).set 0 (1, 1)).set 1 (1, 1), by kernel_rfl, by kernel_rfl, by kernel_rfl, by kernel_rfl⟩
def b7 (d : V3) : V3 := ⟨d.k, d.a, 7⟩
theorem b7_ok {d : V3} (h : descE d = 0) : descE (b7 d) = 0 := by
  unfold descE at h ⊢
  unfold b7
  split at h
  · rename_i q
    rw [if_pos ⟨q.1, q.2.1, q.2.2.1, q.2.2.2.1, (by decide : (0 : Int) ≤ 7), (by decide : (7 : Int) ≤ 1000)⟩]
    exact h
  · cases h
/-- A component that is new. -/
structure N0 (d : V3) (t : SlS) : Prop where
  d : t.d = d
  F : t.F.isSome = true
  evs : t.evs = []
  rds : t.rds = []
  has : t.has 1 = false
/-- One that was put or not, with a reader. -/
structure N1 (d : V3) (t : SlS) (w : Bool) : Prop where
  d : t.d = d
  F : t.F.isSome = true
  evs : t.evs = if w then [(1, 1)] else []
  rds : t.rds = [if w then 1 else 0]
  has : t.has 1 = w
/-- One that the thing is gone from. -/
structure N2 (t : SlS) (w : Bool) : Prop where
  b : t.d.b = 7
  F : t.F.isSome = true
  evs : t.evs = if w then [(1, 1), (3, 1)] else []
  rds : t.rds = [if w then 1 else 0]
structure NtW (c2 : List ACell) (ds : List V3) (bt : Nat → Bool) (s : WoS) (i : Nat) : Prop where
  top_ : s.e.top = 2
  cs : s.e.cs = c2
  held : s.held = false
  q : s.q = []
  len : s.e.l.length = ds.length
  at_ : ∀ (c : Nat) (x : Cmp), s.e.l[c]? = some x → ∃ d, ds[c]? = some d ∧ (c < i → N1 d x.2 (bt c)) ∧ (i ≤ c → N0 d x.2)
structure N2W (m : Nat) (bt : Nat → Bool) (s : WoS) (i : Nat) : Prop where
  held : s.held = false
  len : s.e.l.length = m
  ev : EvL 2 s.e.l
  at_ : ∀ (c : Nat) (x : Cmp), s.e.l[c]? = some x → i ≤ c → N2 x.2 (bt c)
section
variable {c1 c2 : List ACell} {ds : List V3} {bt : Nat → Bool} {s : WoS} {i : Nat}
theorem NewL.nt {l : List Cmp} (h : NewL ds l) (ho : ∀ (c : Nat) (x : Cmp), l[c]? = some x → x.2.Ok) (h7 : ∀ d ∈ ds, d.b = 7) {rs : List Int} : NtW c2 ds bt ⟨⟨2, c2, l⟩, [], rs, false⟩ 0 := ⟨rfl, rfl, rfl, rfl, h.len, fun c x hx => by
  obtain ⟨d, v, F, h1, h2⟩ := h.at_ c x hx
  have hf := (ho c x hx).flag
  refine ⟨d, h1, fun h => absurd h (Nat.not_lt_zero _), fun _ => ⟨by rw [h2]; rfl, ?_, by rw [h2]; rfl, by rw [h2]; rfl, by rw [h2]; rfl⟩⟩
  rw [hf, h2]
  show decide (0 < d.b) = true
  rw [h7 d (List.mem_of_getElem? h1)]; rfl⟩
theorem NtW.live (hc : NoC c1 c2) (h : NtW c2 ds bt s i) : s.e.live (1, 1) = 0 := EnS.live_zero.2 (by rw [h.cs]; exact hc.st)
theorem NtW.ev (h : NtW c2 ds bt s i) : EvL 1 s.e.l := fun x hx => by
  obtain ⟨c, hc⟩ := List.getElem?_of_mem hx
  obtain ⟨d, _, h1, h2⟩ := h.at_ c x hc
  by_cases hlt : c < i
  · rw [(h1 hlt).evs]; split <;> decide
  · rw [(h2 (by omega)).evs]; decide
/-- The i-th component changed to one that has a reader. -/
theorem NtW.push (h : NtW c2 ds bt s i) {X : Nat} {t t' : SlS} (hx : s.e.l[i]? = some (X, t)) (hn : ∀ d, N0 d t → N1 d t' (bt i)) : NtW c2 ds bt { s with e := ⟨s.e.top, s.e.cs, s.e.l.set i (X, t')⟩ } (i + 1) := ⟨h.top_, h.cs, h.held, h.q, by show (s.e.l.set i _).length = _; rw [List.length_set]; exact h.len, fun c x hc => by
  replace hc : (s.e.l.set i (X, t'))[c]? = some x := hc
  rw [List.getElem?_set] at hc
  by_cases he : i = c
  · subst he
    rw [if_pos rfl] at hc
    split at hc
    · injection hc with hc
      subst hc
      obtain ⟨d, h1, h2, h3⟩ := h.at_ i _ hx
      exact ⟨d, h1, fun _ => hn d (h3 (Nat.le_refl _)), fun hh => absurd hh (by omega)⟩
    · cases hc
  · rw [if_neg he] at hc
    obtain ⟨d, h1, h2, h3⟩ := h.at_ c x hc
    exact ⟨d, h1, fun _ => h2 (by omega), fun _ => h3 (by omega)⟩⟩
theorem NtW.no (h : NtW c2 ds bt s i) (hi : i < ds.length) (hb : bt i = false) : ∃ s', s.reader (i : Int) = (0, 0, s') ∧ NtW c2 ds bt s' (i + 1) := by
  obtain ⟨⟨X, t⟩, hx⟩ : ∃ x, s.e.l[i]? = some x := ⟨_, List.getElem?_eq_getElem (by rw [h.len]; exact hi)⟩
  obtain ⟨d, h1, _, h3⟩ := h.at_ i _ hx
  have h0 := h3 (Nat.le_refl _)
  obtain ⟨f, hF⟩ := Option.isSome_iff_exists.1 h0.F
  have hr := WoS.reader_ok (WoS.free_free h.held) hx hF (by rw [h0.rds]; decide)
  rw [h0.rds] at hr
  refine ⟨_, hr, h.push hx fun d' hd' => ⟨hd'.d, hd'.F, ?_, ?_, ?_⟩⟩
  · rw [hb]; exact hd'.evs
  · rw [hb]; show [] ++ [t.evs.length] = _; rw [hd'.evs]; rfl
  · rw [hb]; exact hd'.has
theorem NtW.yes (hc : NoC c1 c2) (h : NtW c2 ds bt s i) (hok : ∀ d ∈ ds, descE d = 0) {d : V3} (hd : ds[i]? = some d) (hb : bt i = true) : ∃ u s1 s', s.ins (1, 1) (i : Int) (mkV d.k 1 1) = (u, false, 0, s1) ∧ (∀ x ∈ s1.e.l, x.2.evs.length < 4611686018427387904) ∧ s1.reader (i : Int) = (0, 0, s') ∧ NtW c2 ds bt s' (i + 1) := by
  have hi := (List.getElem?_eq_some_iff.1 hd).1
  obtain ⟨⟨X, t⟩, hx⟩ : ∃ x, s.e.l[i]? = some x := ⟨_, List.getElem?_eq_getElem (by rw [h.len]; exact hi)⟩
  obtain ⟨d', h1, _, h3⟩ := h.at_ i _ hx
  rw [hd] at h1
  injection h1 with h1
  subst h1
  have h0 := h3 (Nat.le_refl _)
  simp only at h0
  obtain ⟨f, hF⟩ := Option.isSome_iff_exists.1 h0.F
  have hde := hok d (List.mem_of_getElem? hd)
  have her : t.err 1 (mkV d.k 1 1) = 0 := by
    rw [← h0.d]
    exact err_fit (by decide) (by rw [h0.d]; exact hde) 1 1
  have hin := EnS.ins_in (s := s.e) (h := (1, 1)) (c := (i : Int)) (v := mkV d.k 1 1) (h.live hc) (x := (X, t)) (by rw [EnS.slot_nat]; exact hx)
  simp only [Int.toNat_natCast] at hin
  have hbb : t.putB 1 (mkV d.k 1 1) = false := by unfold SlS.putB; rw [h0.has, Bool.and_false]
  rw [hbb, her] at hin
  have hm : s.may (1, 1) = 0 := by rw [WoS.may_not4 (by rw [h.live hc]; decide)]; exact WoS.free_free h.held
  have hpe : (t.put 1 (mkV d.k 1 1)).evs = [(1, 1)] := by
    rw [SlS.put_of her]
    show t.noted (kdE (memS t.S 1)) 1 = _
    rw [show memS t.S 1 = false from h0.has]
    unfold SlS.noted ntE
    rw [if_pos h0.F, h0.evs]
    rfl
  have hpF : (t.put 1 (mkV d.k 1 1)).F = t.F := SlS.put_F _ _ _
  have hlen : i < s.e.l.length := by rw [h.len]; exact hi
  have hx1 : (s.e.l.set i (X, t.put 1 (mkV d.k 1 1)))[i]? = some (X, t.put 1 (mkV d.k 1 1)) := by simp [hlen]
  obtain ⟨s1, hs1⟩ : ∃ z, z = ({ s with e := ⟨s.e.top, s.e.cs, s.e.l.set i (X, t.put 1 (mkV d.k 1 1))⟩ } : WoS) := ⟨_, rfl⟩
  have hr := WoS.reader_ok (s := s1) (j := i) (X := X) (t := t.put 1 (mkV d.k 1 1)) (f := f) (WoS.free_free (by rw [hs1]; exact h.held)) (by rw [hs1]; exact hx1) (by rw [hpF]; exact hF) (by rw [SlS.put_rds, h0.rds]; decide)
  have hev : EvL 2 s1.e.l := by
    have := EvL.ins (h := (1, 1)) (c := (i : Int)) (v := mkV d.k 1 1) h.ev
    rw [hin] at this
    rw [hs1]; exact this
  have hrl : (t.put 1 (mkV d.k 1 1)).rds.length = 0 := by rw [SlS.put_rds, h0.rds]; rfl
  rw [hrl] at hr
  have e : ({ s1 with e := ⟨s1.e.top, s1.e.cs, s1.e.l.set i (X, { t.put 1 (mkV d.k 1 1) with rds := (t.put 1 (mkV d.k 1 1)).rds ++ [(t.put 1 (mkV d.k 1 1)).evs.length] })⟩ } : WoS) = { s with e := ⟨s.e.top, s.e.cs, s.e.l.set i (X, { t.put 1 (mkV d.k 1 1) with rds := (t.put 1 (mkV d.k 1 1)).rds ++ [(t.put 1 (mkV d.k 1 1)).evs.length] })⟩ } := by
    rw [hs1]
    show WoS.mk ⟨_, _, (s.e.l.set i _).set i _⟩ _ _ _ = _
    rw [List.set_set]
  rw [e] at hr
  refine ⟨_, s1, _, by rw [hs1]; exact WoS.ins_ok hm hin, hev.lt (by decide), hr, h.push hx fun d' hd' => ⟨?_, ?_, ?_, ?_, ?_⟩⟩
  · show (t.put 1 _).d = d'; rw [SlS.put_d]; exact hd'.d
  · show (t.put 1 _).F.isSome = true; rw [hpF]; exact hd'.F
  · rw [hb]; exact hpe
  · rw [hb]; show (t.put 1 _).rds ++ [(t.put 1 _).evs.length] = _; rw [SlS.put_rds, h0.rds, hpe]; rfl
  · rw [hb]; show (t.put 1 _).has 1 = true; rw [SlS.put_has her]; rfl
theorem N1.gone {d : V3} {t : SlS} {w : Bool} (h : N1 d t w) (h7 : d.b = 7) : N2 (t.take 1) w := by
  cases w
  · have e : t.take 1 = t := SlS.take_no h.has
    rw [e]
    exact ⟨by rw [h.d]; exact h7, h.F, by rw [h.evs]; rfl, h.rds⟩
  · refine ⟨by rw [SlS.take_d, h.d]; exact h7, by rw [SlS.take_F]; exact h.F, ?_, by rw [SlS.take_rds]; exact h.rds⟩
    unfold SlS.take
    rw [if_pos (show memS t.S 1 = true from h.has)]
    show t.noted 3 1 = _
    unfold SlS.noted ntE
    rw [if_pos h.F, h.evs]
    rfl
/-- What is left when the thing is gone. -/
theorem NtW.strip (h : NtW c2 ds bt s ds.length) (h7 : ∀ d ∈ ds, d.b = 7) {t : WoS} (hl : t.e.l = strL s.e.l 1) (hh : t.held = false) : N2W ds.length bt t 0 := by
  refine ⟨hh, by rw [hl, strL_len]; exact h.len, by rw [hl]; exact h.ev.strip 1, fun c x hx _ => ?_⟩
  rw [hl] at hx
  unfold strL at hx
  rw [List.getElem?_map] at hx
  cases hy : s.e.l[c]? with
  | none => rw [hy] at hx; cases hx
  | some y =>
    rw [hy] at hx
    simp only [Option.map_some, Option.some.injEq] at hx
    subst hx
    obtain ⟨d, h1, h2, _⟩ := h.at_ c y hy
    exact (h2 (List.getElem?_eq_some_iff.1 h1).1).gone (h7 d (List.mem_of_getElem? h1))
theorem NtW.edel (hc : NoC c1 c2) (h : NtW c2 ds bt s i) : ∃ (n : Int) (cs : List ACell), s.e.del (1, 1) = (n, 0, ⟨s.e.top, cs, strL s.e.l 1⟩) := ⟨_, _, by unfold EnS.del; rw [if_pos (h.live hc)]⟩
theorem NtW.del (hc : NoC c1 c2) (h : NtW c2 ds bt s ds.length) (h7 : ∀ d ∈ ds, d.b = 7) : ∃ (n : Int) (t : WoS), s.del (1, 1) = (n, 0, t) ∧ N2W ds.length bt t 0 := by
  obtain ⟨n, cs, hd⟩ := h.edel hc
  have hm : s.may (1, 1) = 0 := by rw [WoS.may_not4 (by rw [h.live hc]; decide)]; exact WoS.free_free h.held
  exact ⟨n, _, WoS.del_ok hm hd, h.strip h7 rfl h.held⟩
theorem NtW.defer (hc : NoC c1 c2) (h : NtW c2 ds bt s i) : s.defer [⟨1, (1, 1), 0, V3.z⟩] = (0, { s with q := [⟨1, (1, 1), 0, V3.z⟩] }) := by
  have hst : stV s.e.cs (1, 1) ≠ 0 := by rw [h.cs, hc.st]; decide
  have hk : s.kn ⟨1, (1, 1), 0, V3.z⟩ = (true, true) := WoS.kn_del rfl
  have := WoS.defer_ok (s := s) (l := [⟨1, (1, 1), 0, V3.z⟩]) (by
    rw [WoS.defE_q (by rfl) (by simp [hst]) (by simp [hk]) (by simp [hk]), h.q]
    rfl)
  rw [this, h.q]
  rfl
theorem NtW.maint (hc : NoC c1 c2) (h : NtW c2 ds bt s ds.length) (h7 : ∀ d ∈ ds, d.b = 7) : ∃ (u : V3) (t : WoS), ({ s with q := [⟨1, (1, 1), 0, V3.z⟩] } : WoS).maint = (u, 0, t) ∧ N2W ds.length bt t 0 := by
  obtain ⟨n, cs, hd⟩ := h.edel hc
  obtain ⟨e, q, r, hl⟩ := s
  obtain ⟨tp, cs0, l⟩ := e
  obtain rfl : cs0 = c2 := h.cs
  have hd2 : (EnS.mk tp (mergeA cs0) l).del (1, 1) = (n, 0, ⟨tp, cs, strL l 1⟩) := by rw [hc.mg]; exact hd
  have ha := WoS.apply_del (s := ⟨⟨tp, mergeA cs0, l⟩, [], r, hl⟩) (o := ⟨1, (1, 1), 0, V3.z⟩) rfl hd2
  have hr : (WoS.mk ⟨tp, mergeA cs0, l⟩ [] r hl).run [⟨1, (1, 1), 0, V3.z⟩] = (1, 0, _) := WoS.run_snoc (l := []) (by unfold WoS.run; rfl) ha
  exact ⟨_, _, WoS.maint_ok (s := ⟨⟨tp, cs0, l⟩, [⟨1, (1, 1), 0, V3.z⟩], r, hl⟩) (WoS.free_free h.held) hr, h.strip h7 rfl h.held⟩
/-- Ahead of Maintain nothing is told. -/
theorem NtW.read (h : NtW c2 ds bt s ds.length) (hi : i < ds.length) {q : List OpW} : ({ s with q := q } : WoS).read (i : Int) (0 : Nat) = ([], false, 0, { s with q := q }) := by
  obtain ⟨⟨X, t⟩, hx⟩ : ∃ x, s.e.l[i]? = some x := ⟨_, List.getElem?_eq_getElem (by rw [h.len]; exact hi)⟩
  obtain ⟨d, h1, h2, _⟩ := h.at_ i _ hx
  have hn := h2 hi
  simp only at hn
  obtain ⟨f, hF⟩ := Option.isSome_iff_exists.1 hn.F
  have hk : t.evs.length = if bt i then 1 else 0 := by rw [hn.evs]; split <;> rfl
  have hr0 : t.rds = [t.evs.length] := by rw [hn.rds, hk]
  have hr := WoS.read_ok (s := { s with q := q }) (j := i) (i := 0) (k := t.evs.length) hx hF (by rw [hr0]; rfl)
  have hlg : lagE t.d.b.toNat t.evs t.evs.length = false := by unfold lagE; rw [Nat.sub_self]; exact decide_eq_false (Nat.not_lt_zero _)
  have hne : newE t.d.b.toNat t.evs t.evs.length = [] := by unfold newE; rw [hlg]; simp
  have hset : ({ t with rds := t.rds.set 0 t.evs.length } : SlS) = t := by
    obtain ⟨a1, a2, a3, a4, a5, a6, a7⟩ := t
    simp only at hr0 ⊢
    rw [hr0]
    rfl
  rw [hlg, hne, hset] at hr
  rw [hr]
  have e : s.e.l.set i (X, t) = s.e.l := by
    obtain ⟨g1, g2⟩ := List.getElem?_eq_some_iff.1 hx
    rw [← g2, List.set_getElem_self]
  show (_, _, _, WoS.mk ⟨_, _, s.e.l.set i (X, t)⟩ _ _ _) = _
  rw [e]
theorem N2W.read {m : Nat} (h : N2W m bt s i) (hi : i < m) : ∃ s', s.read (i : Int) (0 : Nat) = ((if bt i then [(3, 1)] else []), false, 0, s') ∧ N2W m bt s' (i + 1) := by
  obtain ⟨⟨X, t⟩, hx⟩ : ∃ x, s.e.l[i]? = some x := ⟨_, List.getElem?_eq_getElem (by rw [h.len]; exact hi)⟩
  have hn := h.at_ i _ hx (Nat.le_refl _)
  simp only at hn
  obtain ⟨f, hF⟩ := Option.isSome_iff_exists.1 hn.F
  have hr := WoS.read_ok (s := s) (j := i) (i := 0) (k := if bt i then 1 else 0) hx hF (by rw [hn.rds]; rfl)
  have hlg : lagE t.d.b.toNat t.evs (if bt i then 1 else 0) = false := by unfold lagE; rw [hn.b, hn.evs]; cases bt i <;> rfl
  have hne : newE t.d.b.toNat t.evs (if bt i then 1 else 0) = if bt i then [(3, 1)] else [] := by unfold newE; rw [hlg, hn.evs]; cases bt i <;> rfl
  rw [hlg, hne] at hr
  refine ⟨_, hr, h.held, by show (s.e.l.set i _).length = m; rw [List.length_set]; exact h.len, ?_, fun c x hc hle => ?_⟩
  · show EvL 2 (s.e.l.set i _)
    refine h.ev.set ?_
    have h9 : (X, t).2.evs.length ≤ 2 := h.ev _ (List.mem_of_getElem? hx)
    exact h9
  · replace hc : (s.e.l.set i _)[c]? = some x := hc
    rw [List.getElem?_set, if_neg (by omega)] at hc
    exact h.at_ c x hc (by omega)
end
end Go.Proofs.YtiafdlofcjbllaaGreatDoor
