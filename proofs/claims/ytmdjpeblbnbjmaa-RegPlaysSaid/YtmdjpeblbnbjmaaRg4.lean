/-
  Components (reg.Reg), 4: the calls of one of its slots, over the whole.
-/
import Derived.Test.YtmdjpeblbnbjmaaRg3
set_option maxRecDepth 100000
namespace Go.Proofs.Ytmdjpeblbnbjmaa
open Go Go.RowKit
attribute [local irreducible] wpList Calls Code.wp okI okN pS tS memS getG pG insS delS getV pV tV okVal newSl SlS.put SlS.err SlS.putU SlS.putB descE SlS.take

theorem set_same {l : List Cmp} {c : Nat} {x : Cmp} (h : l[c]? = some x) : l.set c (x.1, x.2) = l := by
  obtain ⟨h1, h2⟩ := List.getElem?_eq_some_iff.1 h
  rw [show (x.1, x.2) = x from rfl, ← h2, List.set_getElem_self]
theorem St.rgAt {w0 w : World} {R : Nat} {l : List Cmp} {L : List As} (hs : St w0 (RgB R l :: L) w) {c : Nat} {x : Cmp} (hc : l[c]? = some x) :
    ∃ T : As, St w0 (SlB x.1 x.2 :: T :: L) w ∧ ∀ (s' : SlS) (L' : List As) (w' : World), St w0 (SlB x.1 s' :: T :: L') w' → St w0 (RgB R (l.set c (x.1, s')) :: L') w' := by
  obtain ⟨hle, A, cap, hs⟩ := hs.rgopen
  refine ⟨star (Ytmdjpeblbnbjmaa.blk R (rgC A l.length cap) 85) (star (own A l.length cap 87 1 (rgP l)) (SlsBut l c)), ?_, ?_⟩
  · have h1 := St.slsOut hc hs.up2
    have h2 : St w0 (SlB x.1 x.2 :: Ytmdjpeblbnbjmaa.blk R (rgC A l.length cap) 85 :: own A l.length cap 87 1 (rgP l) :: SlsBut l c :: L) w := h1.ent (Ent.cons _ (Ent.push _ [_, _] _))
    exact h2.ent (Ent.cons _ ((Ent.cons _ (Ent.shut2 fun _ h => h)).trans (Ent.shut2 fun _ h => h)))
  · intro s' L' w' h
    have h2 := h.ent (Ent.cons _ ((Ent.open2 fun _ h => h).trans (Ent.cons _ (Ent.open2 fun _ h => h))))
    have h3 := St.slsIn hc (h2.ent (Ent.cons _ (Ent.pull _ [_, _] _)))
    refine St.rgshut (l := l.set c (x.1, s')) (by rw [List.length_set]; exact hle) (by rw [List.length_set]) (rgP_set hc s').symm h3.dn2
section
variable {w0 w : World} {L : List As} {R : Nat} {l : List Cmp} {c : Nat} {X : Nat} {s : SlS}
theorem rg_wf (hs : St w0 (RgB R l :: L) w) {x : Cmp} (hc : l[c]? = some x) : x.2.Wf := by
  obtain ⟨T, h, _⟩ := hs.rgAt hc
  exact h.slwf
theorem rg_flag (hs : St w0 (RgB R l :: L) w) (hc : Hid (l[c]? = some (X, s))) {p : Value} (hp : Hid (fpV s.F = p)) :
    Calls Try.prog 17 #[.pointer (some ⟨X, 0, none⟩)] w fun r w' => r = .returned p ∧ w = w' := by
  obtain ⟨T, h, _⟩ := hs.rgAt hc.out
  exact sl_flag_v h hp
theorem rg_put (hs : St w0 (RgB R l :: L) w) (hc : Hid (l[c]? = some (X, s))) {i : Int} {v : V3} (hl : s.evs.length < 4611686018427387904)
    {u : V3} {b : Bool} {e : Int} {l' : List Cmp} (hu : Hid (s.putU i v = u)) (hb : Hid (s.putB i v = b)) (he : Hid (s.err i v = e)) (hl' : Hid (l.set c (X, s.put i v) = l')) :
    Calls Try.prog 18 #[.pointer (some ⟨X, 0, none⟩), .int .i64 i, val3 v] w fun r w' => r = .returned (.tuple #[val3 u, .bool b, .int .i64 e]) ∧ St w0 (RgB R l' :: L) w' := by
  obtain ⟨T, h, hb2⟩ := hs.rgAt hc.out
  rw [← hl'.out]
  exact (sl_put h hl hu hb he rfl).mono fun r w' ⟨h1, h2⟩ => ⟨h1, hb2 _ _ _ h2⟩
theorem rg_take (hs : St w0 (RgB R l :: L) w) (hc : Hid (l[c]? = some (X, s))) {i : Int} (hi : (Lit.int .i64 i).wf = true) (hl : s.evs.length < 4611686018427387904)
    {u : V3} {b : Bool} {l' : List Cmp} (hu : Hid (s.get i = u)) (hb : Hid (s.has i = b)) (hl' : Hid (l.set c (X, s.take i) = l')) :
    Calls Try.prog 31 #[.pointer (some ⟨X, 0, none⟩), .int .i64 i] w fun r w' => r = .returned (.tuple #[val3 u, .bool b]) ∧ St w0 (RgB R l' :: L) w' := by
  obtain ⟨T, h, hb2⟩ := hs.rgAt hc.out
  rw [← hl'.out]
  exact (sl_take h hi hl hu hb rfl).mono fun r w' ⟨h1, h2⟩ => ⟨h1, hb2 _ _ _ h2⟩
theorem rg_set (hs : St w0 (RgB R l :: L) w) (hc : Hid (l[c]? = some (X, s))) {i : Int} {v : V3} (hl : s.evs.length < 4611686018427387904)
    {e : Int} {l' : List Cmp} (he : Hid (s.errSet i v = e)) (hl' : Hid (l.set c (X, s.set i v) = l')) :
    Calls Try.prog 30 #[.pointer (some ⟨X, 0, none⟩), .int .i64 i, val3 v] w fun r w' => r = .returned (.int .i64 e) ∧ St w0 (RgB R l' :: L) w' := by
  obtain ⟨T, h, hb2⟩ := hs.rgAt hc.out
  rw [← hl'.out]
  exact (sl_set h hl he rfl).mono fun r w' ⟨h1, h2⟩ => ⟨h1, hb2 _ _ _ h2⟩
theorem rg_get (hs : St w0 (RgB R l :: L) w) (hc : Hid (l[c]? = some (X, s))) {v : Value} (hv : Hid (s.pv = v)) {i : Int} (hi : (Lit.int .i64 i).wf = true) {u : V3} {b : Bool} (hu : Hid (s.get i = u)) (hb : Hid (s.has i = b)) :
    IvC v "Get" #[.int .i64 i] w fun r w' => r = .tuple #[val3 u, .bool b] ∧ Grew w w' := by
  obtain ⟨T, h, _⟩ := hs.rgAt hc.out
  exact sl_get h hv hi hu hb
theorem Rd.rgp (hc : Hid (l[c]? = some (X, s))) {v : Value} (hv : Hid (s.pv = v)) : Rd w0 (RgB R l :: L) ⟨X, 0, none⟩ v := fun w hs => by
  obtain ⟨T, h, _⟩ := St.rgAt hs hc.out
  exact Rd.slp_v hv _ h
theorem rg_desc (hs : St w0 (RgB R l :: L) w) (hc : Hid (l[c]? = some (X, s))) {d : V3} (hd : Hid (s.d = d)) :
    Calls Try.prog 42 #[.pointer (some ⟨X, 0, none⟩)] w fun r w' => r = .returned (val3 d) ∧ Grew w w' := by
  obtain ⟨T, h, _⟩ := hs.rgAt hc.out
  rw [← hd.out]
  exact sl_desc h
theorem rg_reader (hs : St w0 (RgB R l :: L) w) (hc : Hid (l[c]? = some (X, s))) {f : Nat} (hF : s.F = some f) (hr : s.rds.length < 100) {n : Nat} (hn : Hid (s.rds.length = n)) {l' : List Cmp} (hl' : Hid (l.set c (X, { s with rds := s.rds ++ [s.evs.length] }) = l')) :
    Calls Try.prog 32 #[.pointer (some ⟨f, 0, none⟩)] w fun e w' => e = .returned (.tuple #[.int .i64 (n : Nat), .int .i64 0]) ∧ St w0 (RgB R l' :: L) w' := by
  obtain ⟨T, h, hb2⟩ := hs.rgAt hc.out
  rw [← hl'.out]
  exact (sl_reader h hF hr hn rfl).mono fun r w' ⟨h1, h2⟩ => ⟨h1, hb2 _ _ _ h2⟩
theorem rg_read (hs : St w0 (RgB R l :: L) w) (hc : Hid (l[c]? = some (X, s))) {f : Nat} (hF : s.F = some f) {r k : Nat} (hr : s.rds[r]? = some k) (hl : s.evs.length < 4611686018427387904) {b : Bool} {ev : List Ev} {l' : List Cmp} (hb : Hid (lagE s.d.b.toNat s.evs k = b)) (hnl : Hid (newE s.d.b.toNat s.evs k = ev)) (hl' : Hid (l.set c (X, { s with rds := s.rds.set r s.evs.length }) = l')) :
    Calls Try.prog 33 #[.pointer (some ⟨f, 0, none⟩), .int .i64 (r : Nat)] w fun e w' => ∃ A cap n, Hid (ev.length = n) ∧ e = .returned (.tuple #[.slice A n cap, .bool b, .int .i64 0]) ∧ St w0 (own A n cap 80 2 (es2 ev) :: RgB R l' :: L) w' := by
  obtain ⟨T, h, hb2⟩ := hs.rgAt hc.out
  rw [← hl'.out]
  exact (sl_read h hF hr hl hb hnl rfl).mono fun e w' ⟨A, cap, n, h1, h2, h3⟩ => ⟨A, cap, n, h1, h2, (hb2 _ _ _ (h3.dn2)).rot⟩
end
end Go.Proofs.Ytmdjpeblbnbjmaa
