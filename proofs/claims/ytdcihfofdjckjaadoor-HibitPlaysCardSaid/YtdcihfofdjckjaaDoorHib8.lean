/-
  The statements of sets of numbers: what the document fixes (awake), pickNext; HibitLevels.
-/
import Derived.Test.YtdcihfofdjckjaaDoorHib7
import Derived.Test.YtdcihfofdjckjaaDoorFrame
set_option maxRecDepth 100000
namespace Go.Proofs.YtdcihfofdjckjaaDoor
open Go Go.RowKit
attribute [local irreducible] wpList Calls Code.wp

theorem ints_cells (l : List Int) : ∀ v ∈ l.map (Value.int .i64), v.cells = #[v] := by
  intro v hv
  obtain ⟨i, _, rfl⟩ := List.mem_map.1 hv
  rfl
def LawPost (w0 : World) (e : Ending) (w' : World) : Prop := e = .returned (.bool true) ∧ St w0 [] w'
theorem hlen_v {w0 w : World} {L : List As} {T : Nat} {S : List Nat} (hs : St w0 (HSet T S :: L) w) {n : Nat} (h : Hid (S.length = n)) :
    Calls Tryd.prog 14 #[.pointer (some ⟨T, 0, none⟩)] w fun e w' => e = .returned (.int .i64 (n : Nat)) ∧ w = w' := by
  rw [← h.out]; exact hlen_h hs
theorem hword_v {w0 w : World} {L : List As} {T : Nat} {S : List Nat} (hs : St w0 (HSet T S :: L) w) {level a : Int} {x : Nat} (h : Hid (wordS S level a = x)) :
    Calls Tryd.prog 11 #[.pointer (some ⟨T, 0, none⟩), .int .i64 level, .int .i64 a] w fun e w' => e = .returned (.int .u64 (x : Nat)) ∧ Grew w w' := by
  rw [← h.out]; exact hword_g hs level a
theorem add_v {w0 w : World} {L : List As} {T : Nat} {S : List Nat} (hs : St w0 (HSet T S :: L) w) {i : Int} {b : Bool} {x : Int} {S' : List Nat} (hb : Hid ((okN i && !memS S i) = b)) (hx : Hid (errN i = x)) (h : Hid (addS S i = S')) :
    Calls Tryd.prog 17 #[.pointer (some ⟨T, 0, none⟩), .int .i64 i] w fun e w' => e = .returned (.tuple #[.bool b, .int .i64 x]) ∧ St w0 (HSet T S' :: L) w' := by
  rw [← hb.out, ← hx.out, ← h.out]; exact add_h hs i
theorem remove_v {w0 w : World} {L : List As} {T : Nat} {S : List Nat} (hs : St w0 (HSet T S :: L) w) {i : Int} {b : Bool} {x : Int} {S' : List Nat} (hb : Hid (memS S i = b)) (hx : Hid (errN i = x)) (h : Hid (remS S i = S')) :
    Calls Tryd.prog 18 #[.pointer (some ⟨T, 0, none⟩), .int .i64 i] w fun e w' => e = .returned (.tuple #[.bool b, .int .i64 x]) ∧ St w0 (HSet T S' :: L) w' := by
  rw [← hb.out, ← hx.out, ← h.out]; exact remove_h hs i
theorem has_gv {w0 w : World} {L : List As} {T : Nat} {S : List Nat} (hs : St w0 (HSet T S :: L) w) {i : Int} {b : Bool} (h : Hid (memS S i = b)) :
    Calls Tryd.prog 28 #[.pointer (some ⟨T, 0, none⟩), .int .i64 i] w fun e w' => e = .returned (.bool b) ∧ Grew w w' := by
  rw [← h.out]; exact has_g hs i
theorem hlist_v {w0 w : World} {L : List As} {T : Nat} {S : List Nat} (hs : St w0 (HSet T S :: L) w) (hT : Tab w) {f m : Int} {l : List Nat} (h : Hid (listS S f m = l)) :
    Calls Tryd.prog 13 #[.pointer (some ⟨T, 0, none⟩), .int .i64 f, .int .i64 m] w fun e w' =>
      ∃ A cap, e = .returned (.slice A l.length cap) ∧ St w [own A l.length cap 3 1 (intv l)] w' := by
  rw [← h.out]; exact hlist_g hs hT f m
theorem new_v {w0 w : World} {L : List As} {A : Option Addr} {zs : List Int} {c n : Nat} {S : List Nat} (hs : St w0 L w) (hr : RdS w0 L A (zs.map (Value.int .i64))) (hl : zs.length ≤ maxLen) (hn : zs.length = n) (h : Hid (setS zs = S)) :
    Calls Tryd.prog 10 #[.slice A n c] w fun e w' => ∃ T, e = .returned (.pointer (some ⟨T, 0, none⟩)) ∧ St w0 (HSet T S :: L) w' := by
  subst hn; rw [← h.out]; exact new_h hs hr hl
theorem awake2_a : setS [5, 70000] = [5, 70000] := by decide +kernel
theorem awake2_b : addS [5, 70000] 5 = [5, 70000] := by decide +kernel
theorem awake2_c : wordS [5, 70000] 1 17 = 32 := by decide +kernel
attribute [local irreducible] wordS setS addS okN memS remS
theorem awake2 {w : World} (hT : Tab w) : Calls Tryd.prog 9 #[] w fun e w' => e = .returned (.bool true) ∧ Grew w w' := by
  have hs := St.start w
  have H1 := Lib.hid awake2_a
  have H2 := Lib.hid awake2_b
  have H3 : Hid ((okN 5 && !memS [5, 70000] 5) = false) := by rw [Hid]; decide +kernel
  have H4 : Hid (errN 5 = 0) := by rw [Hid]; decide +kernel
  have H5 : Hid (nextS [5, 70000] 6 = 70000) := by rw [Hid]; decide +kernel
  have H6 := Lib.hid awake2_c
  have H7 : Hid (memS [5, 70000] 5 = true) := by rw [Hid]; decide +kernel
  have H8 : Hid ([5, 70000].length = 2) := rfl
  go_enter Tryd.func9, Tryd.ntmps9
  go_wp2_with (first
    | (refine wpl_buildN (vs := [5, 70000].map (Value.int .i64)) elem24 rfl rfl (by decide) (by decide) (ints_cells _) hs ?_; clear hs; intro g w1 hs)
    | (go_at_call 10; refine (new_v (zs := [5, 70000]) hs RdS.blk (by decide) rfl H1).mono ?_; clear hs; rintro e w1 ⟨T, rfl, hs⟩)
    | (go_at_call 17; refine (add_v hs H3 H4 H2).mono ?_; clear hs; rintro e w1 ⟨rfl, hs⟩)
    | (go_at_call 15; refine (next_v hs (hT.grew hs.made_grew2) H5).mono ?_; rintro e w' ⟨rfl, hg⟩; replace hs := hs.grew hg; clear hg)
    | (go_at_call 14; refine (hlen_v hs H8).mono ?_; rintro e w' ⟨rfl, rfl⟩)
    | (go_at_call 11; refine (hword_v hs H6).mono ?_; rintro e w' ⟨rfl, hg⟩; replace hs := hs.grew hg; clear hg)
    | (go_at_call 28; refine (has_gv hs H7).mono ?_; rintro e w' ⟨rfl, hg⟩; replace hs := hs.grew hg; clear hg))
  go_ret
  exact ⟨rfl, hs.made_grew⟩
theorem pick_c (lo hi : Int) (w : World) : Calls Tryd.prog 16 #[.int .i64 lo, .int .i64 hi] w fun e w' => e = .returned (.int .i64 (if lo < hi then hi else -1)) ∧ w = w' := by
  by_cases h : lo < hi
  · rw [if_pos h]
    go_enter Tryd.func16, Tryd.ntmps16
    go_wp2
    go_ret
    exact ⟨rfl, rfl⟩
  · rw [if_neg h]
    go_enter Tryd.func16, Tryd.ntmps16
    go_wp2
    go_ret
    exact ⟨rfl, rfl⟩
end Go.Proofs.YtdcihfofdjckjaaDoor
