/-
  Regions that draw their order, walked once over the class of worlds that hold a state of XSl: reads, and calls that leave the state. No program stands here.
-/
import Derived.Test.YtkcbjkadalebjaaSl
import Derived.WalkKit
import Derived.BigQuiet
namespace Go.Proofs.Ytkcbjkadalebjaa
open Go Go.RowKit

/-- A world that holds a state. -/
structure StW (w0 : World) (L : List As) where
  w : World
  st : St w0 L w
theorem StW.ne {w0 w : World} {L : List As} (hs : St w0 L w) : Nonempty (StW w0 L) := ⟨⟨_, hs⟩⟩
theorem wp_region_quiet_st {P : Program} {id : Nat} {Q : Exit → Act → World → Prop} {a : Act} {w w0 : World} {L : List As} {l : List Oper} (hs : St w0 L w) (hm : P.follows .mixedOrders = true) (hB : Region.lexB .any l.toArray = true)
    (h : wpQuiet P l.toArray (fun w' => ∃ p : StW w0 L, w' = p.w) (fun a' => ∀ w', (∃ p : StW w0 L, w' = p.w) → Q .normal a' w') l a) : (Code.region id l.toArray true).wp P Q a w :=
  wp_region_quiet (C := fun w' => ∃ p : StW w0 L, w' = p.w) hm hB ⟨⟨_, hs.drew⟩, rfl⟩ (by simpa using h)
/-- A contract, met in a world of the class. -/
theorem in_st {P : Program} {f : FuncId} {args : Array Value} {w0 : World} {L : List As} {p : StW w0 L} {v : Value}
    (h : Calls P f args p.w fun e w' => e = .returned v ∧ St w0 L w') : Calls P f args p.w fun e w'' => e = .returned v ∧ ∃ q : StW w0 L, w'' = q.w :=
  h.mono fun _ _ ⟨he, hs⟩ => ⟨he, ⟨_, hs⟩, rfl⟩
theorem in_same {P : Program} {f : FuncId} {args : Array Value} {w0 : World} {L : List As} {p : StW w0 L} {v : Value}
    (h : Calls P f args p.w fun e w' => e = .returned v ∧ p.w = w') : Calls P f args p.w fun e w'' => e = .returned v ∧ ∃ q : StW w0 L, w'' = q.w :=
  h.mono fun _ _ ⟨he, hs⟩ => ⟨he, p, hs.symm⟩
theorem Rd.all {w0 : World} {L : List As} {a : Addr} {v : Value} (h : Rd w0 L a v) : ∀ p : StW w0 L, p.w.cell? a = some v := fun p => h _ p.st
/-- A readable slice at one place, by what stands there. -/
theorem RdS.get {w0 : World} {L : List As} {A : Option Addr} {xs : List Value} (h : RdS w0 L A xs) {k : Nat} {v : Value} (hk : xs[k]? = some v) : ∃ b o, A = some ⟨b, o, none⟩ ∧ Rd w0 L ⟨b, o + k, none⟩ v := by
  obtain ⟨⟨b, o, s⟩, h1, h2, h3⟩ := h k v hk
  simp only at h2
  subst h2
  exact ⟨b, o, h1, h3⟩
theorem RdS.int {w0 : World} {L : List As} {A : Option Addr} {zs : List Int} (h : RdS w0 L A (zs.map (Value.int .i64))) {k : Nat} (hk : k < zs.length) : ∃ b o e, A = some ⟨b, o, none⟩ ∧ Rd w0 L ⟨b, o + k, none⟩ (.int .i64 e) ∧ zs[k]? = some e := by
  obtain ⟨b, o, h1, h2⟩ := h.get (k := k) (v := .int .i64 zs[k]) (by simp [hk])
  exact ⟨b, o, zs[k], h1, h2, by simp [hk]⟩
end Go.Proofs.Ytkcbjkadalebjaa
