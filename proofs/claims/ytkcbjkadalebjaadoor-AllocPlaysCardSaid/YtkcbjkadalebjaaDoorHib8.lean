/-
  The statements of sets of numbers: what the document fixes (awake), pickNext; HibitLevels.
-/
import Derived.Test.YtkcbjkadalebjaaDoorHib7
import Derived.Test.YtkcbjkadalebjaaDoorFrame
set_option maxRecDepth 100000
namespace Go.Proofs.YtkcbjkadalebjaaDoor
open Go Go.RowKit
attribute [local irreducible] wpList Calls Code.wp

theorem ints_cells (l : List Int) : ∀ v ∈ l.map (Value.int .i64), v.cells = #[v] := by
  intro v hv
  obtain ⟨i, _, rfl⟩ := List.mem_map.1 hv
  rfl
def LawPost (w0 : World) (e : Ending) (w' : World) : Prop := e = .returned (.bool true) ∧ St w0 [] w'
theorem hlen_v {w0 w : World} {L : List As} {T : Nat} {S : List Nat} (hs : St w0 (HSet T S :: L) w) {n : Nat} (h : Hid (S.length = n)) :
    Calls Tryd.prog 35 #[.pointer (some ⟨T, 0, none⟩)] w fun e w' => e = .returned (.int .i64 (n : Nat)) ∧ w = w' := by
  rw [← h.out]; exact hlen_h hs
theorem add_v {w0 w : World} {L : List As} {T : Nat} {S : List Nat} (hs : St w0 (HSet T S :: L) w) {i : Int} {b : Bool} {x : Int} {S' : List Nat} (hb : Hid ((okN i && !memS S i) = b)) (hx : Hid (errN i = x)) (h : Hid (addS S i = S')) :
    Calls Tryd.prog 30 #[.pointer (some ⟨T, 0, none⟩), .int .i64 i] w fun e w' => e = .returned (.tuple #[.bool b, .int .i64 x]) ∧ St w0 (HSet T S' :: L) w' := by
  rw [← hb.out, ← hx.out, ← h.out]; exact add_h hs i
theorem remove_v {w0 w : World} {L : List As} {T : Nat} {S : List Nat} (hs : St w0 (HSet T S :: L) w) {i : Int} {b : Bool} {x : Int} {S' : List Nat} (hb : Hid (memS S i = b)) (hx : Hid (errN i = x)) (h : Hid (remS S i = S')) :
    Calls Tryd.prog 32 #[.pointer (some ⟨T, 0, none⟩), .int .i64 i] w fun e w' => e = .returned (.tuple #[.bool b, .int .i64 x]) ∧ St w0 (HSet T S' :: L) w' := by
  rw [← hb.out, ← hx.out, ← h.out]; exact remove_h hs i
theorem has_gv {w0 w : World} {L : List As} {T : Nat} {S : List Nat} (hs : St w0 (HSet T S :: L) w) {i : Int} {b : Bool} (h : Hid (memS S i = b)) :
    Calls Tryd.prog 33 #[.pointer (some ⟨T, 0, none⟩), .int .i64 i] w fun e w' => e = .returned (.bool b) ∧ Grew w w' := by
  rw [← h.out]; exact has_g hs i
theorem hlist_v {w0 w : World} {L : List As} {T : Nat} {S : List Nat} (hs : St w0 (HSet T S :: L) w) (hT : Tab w) {f m : Int} {l : List Nat} (h : Hid (listS S f m = l)) :
    Calls Tryd.prog 46 #[.pointer (some ⟨T, 0, none⟩), .int .i64 f, .int .i64 m] w fun e w' =>
      ∃ A cap, e = .returned (.slice A l.length cap) ∧ St w [own A l.length cap 3 1 (intv l)] w' := by
  rw [← h.out]; exact hlist_g hs hT f m
theorem new_v {w0 w : World} {L : List As} {A : Option Addr} {zs : List Int} {c n : Nat} {S : List Nat} (hs : St w0 L w) (hr : RdS w0 L A (zs.map (Value.int .i64))) (hl : zs.length ≤ maxLen) (hn : zs.length = n) (h : Hid (setS zs = S)) :
    Calls Tryd.prog 29 #[.slice A n c] w fun e w' => ∃ T, e = .returned (.pointer (some ⟨T, 0, none⟩)) ∧ St w0 (HSet T S :: L) w' := by
  subst hn; rw [← h.out]; exact new_h hs hr hl
theorem awake2_a : setS [5, 70000] = [5, 70000] := by decide +kernel
theorem awake2_b : addS [5, 70000] 5 = [5, 70000] := by decide +kernel
theorem awake2_c : wordS [5, 70000] 1 17 = 32 := by decide +kernel
attribute [local irreducible] wordS setS addS okN memS remS
end Go.Proofs.YtkcbjkadalebjaaDoor
