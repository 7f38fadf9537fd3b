/-
  SlotAlike: the calls of one slot out of many.
-/
import Derived.Test.YtmdjpeblbnbjmaaSlAlL
set_option maxRecDepth 100000
namespace Go.Proofs.Ytmdjpeblbnbjmaa
open Go Go.RowKit
attribute [local irreducible] wpList Calls Code.wp okI okN pS tS memS getG pG insS delS getV pV tV okVal newSl SlS.put SlS.err SlS.putU SlS.putB descE mkD mkV SlS.take SlS.set SlS.errSet SlS.get SlS.has kdE
section
variable {w0 w : World} {L : List As} {l : List Cmp} {c X : Nat} {s s' : SlS} {i : Int} {v u : V3} {b : Bool} {e : Int}
theorem sls_put (hs : St w0 (Sls l :: L) w) (hc : Hid (l[c]? = some (X, s))) (hl : s.evs.length < 4611686018427387904)
    (hu : Hid (s.putU i v = u)) (hb : Hid (s.putB i v = b)) (he : Hid (s.err i v = e)) (hs' : Hid (s.put i v = s')) :
    Calls Try.prog 18 #[.pointer (some ⟨X, 0, none⟩), .int .i64 i, val3 v] w fun r w' => r = .returned (.tuple #[val3 u, .bool b, .int .i64 e]) ∧ St w0 (Sls (l.set c (X, s')) :: L) w' :=
  (sl_put (hs.slsOut hc.out) hl hu hb he hs').mono fun _ _ ⟨h1, h2⟩ => ⟨h1, h2.slsIn hc.out⟩
theorem sls_take (hs : St w0 (Sls l :: L) w) (hc : Hid (l[c]? = some (X, s))) (hi : (Lit.int .i64 i).wf = true) (hl : s.evs.length < 4611686018427387904)
    (hu : Hid (s.get i = u)) (hb : Hid (s.has i = b)) (hs' : Hid (s.take i = s')) :
    Calls Try.prog 31 #[.pointer (some ⟨X, 0, none⟩), .int .i64 i] w fun r w' => r = .returned (.tuple #[val3 u, .bool b]) ∧ St w0 (Sls (l.set c (X, s')) :: L) w' :=
  (sl_take (hs.slsOut hc.out) hi hl hu hb hs').mono fun _ _ ⟨h1, h2⟩ => ⟨h1, h2.slsIn hc.out⟩
theorem sls_set (hs : St w0 (Sls l :: L) w) (hc : Hid (l[c]? = some (X, s))) (hl : s.evs.length < 4611686018427387904)
    (he : Hid (s.errSet i v = e)) (hs' : Hid (s.set i v = s')) :
    Calls Try.prog 30 #[.pointer (some ⟨X, 0, none⟩), .int .i64 i, val3 v] w fun r w' => r = .returned (.int .i64 e) ∧ St w0 (Sls (l.set c (X, s')) :: L) w' :=
  (sl_set (hs.slsOut hc.out) hl he hs').mono fun _ _ ⟨h1, h2⟩ => ⟨h1, h2.slsIn hc.out⟩
theorem sls_get (hs : St w0 (Sls l :: L) w) (hc : Hid (l[c]? = some (X, s))) {p : Value} (hp : Hid (s.pv = p)) (hi : (Lit.int .i64 i).wf = true) (hu : Hid (s.get i = u)) (hb : Hid (s.has i = b)) :
    IvC p "Get" #[.int .i64 i] w fun r w' => r = .tuple #[val3 u, .bool b] ∧ Grew w w' :=
  sl_get (hs.slsOut hc.out) hp hi hu hb
theorem sls_len (hs : St w0 (Sls l :: L) w) (hc : Hid (l[c]? = some (X, s))) {p : Value} (hp : Hid (s.pv = p)) {n : Nat} (hn : Hid (s.S.length = n)) :
    IvC p "Len" #[] w fun r w' => r = .int .i64 (n : Nat) ∧ Grew w w' :=
  sl_len (hs.slsOut hc.out) hp hn
theorem Rd.slsp (hc : Hid (l[c]? = some (X, s))) {p : Value} (hp : Hid (s.pv = p)) : Rd w0 (Sls l :: L) ⟨X, 0, none⟩ p := fun _ hs =>
  Rd.slp_v hp _ (St.slsOut hc.out hs)
end
end Go.Proofs.Ytmdjpeblbnbjmaa
