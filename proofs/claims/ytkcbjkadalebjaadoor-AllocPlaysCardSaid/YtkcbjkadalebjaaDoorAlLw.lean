/-
  The statements of handles: what is common.
-/
import Derived.Test.YtkcbjkadalebjaaDoorAl6
set_option maxRecDepth 100000
namespace Go.Proofs.YtkcbjkadalebjaaDoor
open Go Go.RowKit
attribute [local irreducible] wpList Calls Code.wp

theorem aw5a : giveV 1 (newA 2) = ((0, 1), 0, [(1, 1), (0, 0)]) := by decide +kernel
theorem aw5b : delA 1 [(1, 1), (0, 0)] (0, 1) = (0, [(9, 1), (0, 0)]) := by decide +kernel
theorem aw5c : giveV 1 [(9, 1), (0, 0)] = ((1, 1), 0, [(9, 1), (1, 1)]) := by decide +kernel
theorem aw5d : stV [(9, 1), (1, 1)] (0, 1) = 0 := by decide +kernel
theorem hRd {w0 w : World} {g : Nat} {h : Hdl} {t : TypeId} {L : List As} (hs : St w0 (blk g (h2 h).toArray t :: L) w) : w.cell? ⟨g, 0, none⟩ = some (.int .i64 h.1) ∧ w.cell? ⟨g, 1, none⟩ = some (.int .i64 h.2) := ⟨Rd.blk (by rfl) w hs, Rd.blk (by rfl) w hs⟩
attribute [local irreducible] idxS addS okN memS remS errN insS delS nextS stA gnA stV atA hsV mergeA giveV delA newA
set_option maxHeartbeats 1000000 in
theorem awake5 {w : World} (hT : Tab w) : Calls Tryd.prog 12 #[] w fun e w' => e = .returned (.bool true) ∧ Grew w w' := by
  have hs := St.start w
  have HA := Lib.hid aw5a
  have HB := Lib.hid aw5b
  have HC := Lib.hid aw5c
  have HD := Lib.hid aw5d
  have tk : True := trivial
  go_enter Tryd.func12, Tryd.ntmps12
  go_upto_region 7 with (first
    | (go_at_call 8; refine (anew_c hs (n := 2) (top := 1) (by decide) (by decide) (by decide) (by decide)).mono ?_; clear hs; rintro e w' ⟨D, rfl, hs⟩)
    | (go_at_call 9; refine (create_c hT hs HA).mono ?_; clear hs; rintro e w' ⟨rfl, hs⟩)
    | (clear tk; refine wpl_alloc zeroH hs ?_; clear hs; intro g3 w3 hs; replace hs : St w (blk g3 (h2 (0, 0)).toArray 30 :: _) w3 := hs)
    | (refine wpl_store_agg (ad := ⟨g3, 0, none⟩) (v := hv (0, 1)) rfl rfl (sizeH _) hs WrA.slotH ?_; clear hs; intro w4 hs)
    | (refine wpl_load_agg (cs := h2 (0, 1)) (b := g3) (o := 0) rfl aggH (sizeH _) hs ?hh ?_; case hh => exact fun j x hx => Rd.blk (by simpa using hx))
    | (go_at_call 10; refine (delete_c hs.rot HB).mono ?_; clear hs; rintro e w' ⟨rfl, hs⟩)
    | (go_at_call 9; refine (create_c hT hs HC).mono ?_; clear hs; rintro e w' ⟨rfl, hs⟩)
    | (refine wpl_alloc zeroH hs ?_; clear hs; intro g6 w5 hs; replace hs : St w (blk g6 (h2 (0, 0)).toArray 30 :: _) w5 := hs)
    | (refine wpl_store_agg (ad := ⟨g6, 0, none⟩) (v := hv (1, 1)) rfl rfl (sizeH _) hs WrA.slotH ?_; clear hs; intro w6 hs))
  obtain ⟨f0, f1⟩ := hRd hs
  obtain ⟨e0, e1⟩ := hRd hs.up2
  go_wp2_with (first
    | (go_at_call 11; refine (state_c hs.rot HD).mono ?_; rintro e w' ⟨rfl, hg⟩; replace hs := hs.grew hg; clear hg))
  go_ret
  exact ⟨rfl, hs.below⟩
end Go.Proofs.YtkcbjkadalebjaaDoor
