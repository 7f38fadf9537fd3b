/-
  A world (world.World): what its calls answer and leave behind. No function of the program is walked here.
-/
import Derived.Test.YtcnbmfaicbkhcaaGreatDoorEnLw
set_option maxRecDepth 100000
namespace Go.Proofs.YtcnbmfaicbkhcaaGreatDoor
open Go Go.RowKit
/-- An Op. -/
structure OpW where
  k : Int
  h : Hdl
  c : Int
  v : V3
def OpW.ok (o : OpW) : Bool := if o.k = 1 then decide (o.c = 0 ∧ o.v = V3.z) else if o.k = 2 then decide (0 ≤ o.c) && okVal o.v else if o.k = 3 then decide (0 ≤ o.c ∧ o.v = V3.z) else false
/-- A world: things, what waits, numbers, whether it is held. -/
structure WoS where
  e : EnS
  q : List OpW
  r : List Int
  held : Bool
def WoS.free (s : WoS) : Int := if s.held then 13 else 0
def WoS.may (s : WoS) (h : Hdl) : Int := if stV s.e.cs h = 0 then 4 else s.free
def WoS.give (k : Nat) (s : WoS) : Hdl × Int × WoS := match giveV k s.e.cs with | (v, x, c) => (v, x, { s with e := ⟨s.e.top, c, s.e.l⟩ })
def WoS.create (s : WoS) : Hdl × Int × WoS := if s.free = 0 then s.give 1 else ((0, 0), s.free, s)
def WoS.del (s : WoS) (h : Hdl) : Int × Int × WoS := if s.may h = 0 then (match s.e.del h with | (n, x, e) => (n, x, { s with e := e })) else (0, s.may h, s)
def WoS.ins (s : WoS) (h : Hdl) (c : Int) (v : V3) : V3 × Bool × Int × WoS := if s.may h = 0 then (match s.e.ins h c v with | (u, b, x, e) => (u, b, x, { s with e := e })) else (V3.z, false, s.may h, s)
def WoS.rem (s : WoS) (h : Hdl) (c : Int) : V3 × Int × WoS := if s.may h = 0 then (match s.e.rem h c with | (u, x, e) => (u, x, { s with e := e })) else (V3.z, s.may h, s)
def WoS.get (s : WoS) (h : Hdl) (c : Int) : V3 × Int := s.e.get h c
def WoS.set (s : WoS) (h : Hdl) (c : Int) (v : V3) : Int × WoS := match s.e.set h c v with | (x, e) => (x, { s with e := e })
/-- Whether an Op's component is known, and its value of that kind. -/
def WoS.kn (s : WoS) (o : OpW) : Bool × Bool := if o.k = 1 then (true, true) else match s.e.slot o.c with
  | some x => (true, decide (o.k = 3) || decide (o.v.k = x.2.d.k))
  | none => (false, true)
def WoS.defE (s : WoS) (l : List OpW) : Int := if l.any fun o => !o.ok then 1 else if l.any fun o => decide (stV s.e.cs o.h = 0) then 4 else if !(l.all fun o => (s.kn o).1) then 11 else if !(l.all fun o => (s.kn o).2) then 9 else if 10000 < s.q.length + l.length then 2 else 0
def WoS.defer (s : WoS) (l : List OpW) : Int × WoS := if s.defE l = 0 then (0, { s with q := s.q ++ l }) else (s.defE l, s)
def WoS.apply (s : WoS) (o : OpW) : Bool × WoS :=
  if o.k = 1 then (match s.e.del o.h with | (_, x, e) => (decide (x = 0), { s with e := e }))
  else if o.k = 2 then (match s.e.ins o.h o.c o.v with | (_, _, x, e) => (decide (x = 0), { s with e := e }))
  else (match s.e.rem o.h o.c with | (_, x, e) => (decide (x = 0), { s with e := e }))
def WoS.run (s : WoS) : List OpW → Nat × Nat × WoS
  | [] => (0, 0, s)
  | o :: l => match s.apply o with
    | (b, t) => match t.run l with
      | (a, k, u) => (if b then a + 1 else a, if b then k else k + 1, u)
def WoS.maint (s : WoS) : V3 × Int × WoS := if s.free = 0 then (match ({ s with e := ⟨s.e.top, mergeA s.e.cs, s.e.l⟩, q := [] } : WoS).run s.q with
  | (a, k, u) => (⟨((idxS 2 s.e.cs).length : Nat), (a : Nat), (k : Nat)⟩, 0, u)) else (V3.z, s.free, s)
def WoS.flE (s : WoS) (c : Int) : Int := match s.e.slot c with
  | none => 11
  | some x => if x.2.F.isSome then 0 else 14
section
variable {s : WoS} {h : Hdl}
theorem WoS.may_not4 (h4 : s.e.live h ≠ 4) : s.may h = s.free := by
  have hs : stV s.e.cs h ≠ 0 := fun h0 => h4 (by unfold EnS.live; rw [if_pos h0])
  unfold WoS.may; rw [if_neg hs]
end
theorem St.front {w0 w : World} : ∀ {L M : List As}, St w0 (L ++ M) w → St w0 L w
  | L, [], hs => by rwa [List.append_nil] at hs
  | L, p :: M, hs => St.front (L := L) (M := M) (hs.ent (Ent.pull p L M)).drop
theorem St.only3 {w0 w : World} {a b c : As} {L : List As} (hs : St w0 (a :: b :: c :: L) w) : St w0 [a, b, c] w := St.front (L := [a, b, c]) (M := L) hs
theorem St.only4 {w0 w : World} {a b c d : As} {L : List As} (hs : St w0 (a :: b :: c :: d :: L) w) : St w0 [a, b, c, d] w := St.front (L := [a, b, c, d]) (M := L) hs
/-! ### Cells -/
def c7w (o : OpW) : List Value := [.int .i64 o.k, .int .i64 o.h.1, .int .i64 o.h.2, .int .i64 o.c, .int .i64 o.v.k, .int .i64 o.v.a, .int .i64 o.v.b]
def i8v (l : List Int) : List Value := l.map (Value.int .i64)
theorem i8v_len (l : List Int) : (i8v l).length = l.length := by simp [i8v]
theorem i8v_one (l : List Int) : ∀ u ∈ i8v l, u.oneCell' = true := by
  intro u hu
  obtain ⟨x, _, rfl⟩ := List.mem_map.1 hu
  rfl
end Go.Proofs.YtcnbmfaicbkhcaaGreatDoor
