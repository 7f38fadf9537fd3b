/-
  A world in memory: Held, Hold, Free.
-/
import Derived.Test.YtiafdlofcjbllaaGreatDoorWo5
set_option maxRecDepth 100000
namespace Go.Proofs.YtiafdlofcjbllaaGreatDoor
open Go Go.RowKit
attribute [local irreducible] wpList Calls Code.wp
section
variable {w0 w : World} {L : List As} {W E A R X Q n : Nat} {s : WoS}
theorem size_bo : (Tryz.prog.info? 4).map (·.size) = some 1 := by kernel_rfl
theorem Wr.wo3 {E X Q n : Nat} {held b : Bool} {top : Int} {t : TypeId} : Wr w0 (YtiafdlofcjbllaaGreatDoor.blk W (woC E X Q held n top) t :: L) ⟨W, 3, none⟩ (.bool b) (YtiafdlofcjbllaaGreatDoor.blk W (woC E X Q b n top) t :: L) := Wr.blk (by simp [woC])
theorem woheld_c (hs : St w0 (WoB W E A R X Q n s :: L) w) : Calls Tryz.prog 51 #[.pointer (some ⟨W, 0, none⟩)] w fun e w' => e = .returned (.bool s.held) ∧ Grew w w' := by
  have hs := hs.woopen
  have c3 := Rd.blk (w0 := w0) (g := W) (k := 3) (cs := woC E X Q s.held n s.e.top) (t := 132) (v := .bool s.held) rfl _ hs
  clear hs
  go_enter Tryz.func51, Tryz.ntmps51
  go_wp2
  go_ret
  exact ⟨rfl, Grew.refl _⟩
theorem wohold_c (hs : St w0 (WoB W E A R X Q n s :: L) w) : Calls Tryz.prog 62 #[.pointer (some ⟨W, 0, none⟩)] w fun e w' => e = .returned (.int .i64 s.free) ∧ St w0 (WoB W E A R X Q n { s with held := true } :: L) w' := by
  have HF := Lib.hid (wofree_c hs)
  obtain ⟨f, hf⟩ : ∃ f, Hid (s.free = f) := ⟨_, rfl⟩
  rw [hf.out] at HF ⊢
  go_enter Tryz.func62, Tryz.ntmps62
  go_wp2_with (first
    | (go_at_call 104; refine HF.out.mono ?_; rintro r w' ⟨rfl, hg⟩; replace hs := (hs.grew hg).woopen)
    | (refine wpl_store (v := .bool true) rfl rfl rfl size_bo hs (Wr.wo3 (b := true)) ?_; clear hs; intro w hs))
  go_ret
  exact ⟨rfl, St.woshut (s := { s with held := true }) hs⟩
theorem wofreeW_c (hs : St w0 (WoB W E A R X Q n s :: L) w) : Calls Tryz.prog 68 #[.pointer (some ⟨W, 0, none⟩)] w fun e w' => e = .returned (.tuple #[]) ∧ St w0 (WoB W E A R X Q n { s with held := false } :: L) w' := by
  replace hs := hs.woopen
  go_enter Tryz.func68, Tryz.ntmps68
  go_wp2_with (first
    | (refine wpl_store (v := .bool false) rfl rfl rfl size_bo hs (Wr.wo3 (b := false)) ?_; clear hs; intro w hs))
  go_end0
  exact ⟨rfl, St.woshut (s := { s with held := false }) hs⟩
end
end Go.Proofs.YtiafdlofcjbllaaGreatDoor
