/-
  Going over (scan), 2: over; the least number of a part.
-/
import Derived.Test.YtpnjoeiohigjmaaDoorSc
set_option maxRecDepth 100000
namespace Go.Proofs.YtpnjoeiohigjmaaDoor
open Go Go.RowKit
attribute [local irreducible] wpList Calls Code.wp mayW scW exTell

/-! ### over -/
theorem results_tmp2 {fn : Func} {t u : Tmp} (h : fn.results = #[.tmp t, .tmp u]) (tmps : Array Value) (P : Program) (w : World) :
    (results fn tmps).run P w = .ok (.tuple #[tmps.getD t undef, tmps.getD u undef]) w := by simp [results, h]
theorem over_nil (n : Int) (w : World) : Calls Tryd.prog 39 #[.pointer none, .int .i64 n] w fun e w' => e = .returned (.tuple #[.pointer none, .bool false]) ∧ w' = w := by
  go_enter Tryd.func39, Tryd.ntmps39
  go_wp2
  refine bodyPost_ret (results_tmp2 rfl _ _ _) rfl ?_
  exact ⟨rfl, rfl⟩
theorem over_none {w : World} {D : Nat} {l : List NodeE} {ss : List Value} {N P : Option Addr} {cap cap2 : Nat} (hv : ExV D l ss N cap P cap2 w) {n : Int} (hn : n < 0 ∨ (l.length : Int) ≤ n) :
    Calls Tryd.prog 39 #[ptr D, .int .i64 n] w fun e w' => e = .returned (.tuple #[.pointer none, .bool false]) ∧ w' = w := by
  have HV := Lib.hid hv
  have HN := Lib.hid hn
  clear hv hn
  go_enter Tryd.func39, Tryd.ntmps39
  go_wp2_with (first
    | (go_at_call 48; refine (needs_none HV.out HN.out).mono ?_; rintro e w' ⟨rfl, rfl⟩))
  refine bodyPost_ret (results_tmp2 rfl _ _ _) rfl ?_
  exact ⟨rfl, rfl⟩
theorem over_c {w : World} {D : Nat} {l : List NodeE} {ss : List Value} {N P : Option Addr} {cap cap2 : Nat} (hv : ExV D l ss N cap P cap2 w) (hok : ArOk l ss.length) {Ss : Nat → List Nat} (hsets : SetsOk w ss Ss) {n : Nat} (hn : n < l.length) :
    Calls Tryd.prog 39 #[ptr D, .int .i64 (n : Nat)] w fun e w' => ∃ K R, e = .returned (.tuple #[ptr K, .bool true]) ∧ Hid (ScC w D n l ss R Ss) ∧ St w [WkB K D n R] w' := by
  have HV := Lib.hid hv
  have HO := Lib.hid hok
  have HS := Lib.hid hsets
  have HN := Lib.hid hn
  have hn2 : n < 1000 := by have := hok.few; omega
  clear hv hok hsets hn
  unfold ptr
  go_enter Tryd.func39, Tryd.ntmps39
  go_wp2_with (first
    | (go_at_call 48; refine (needs_v HV.out HO.out HN.out).mono ?_; rintro e w' ⟨A, capA, R, r, rfl, HRl, hr0, HR, hs⟩)
    | (at_make; refine wpl_make (n := n + 1) (bytes := 8) (size := 1) (z := .int .u64 0) Tryd.underlying93 (by kernel_rfl) rfl rfl rfl (by omega) (by unfold maxLen; omega) hs ?_; clear hs; intro g w1 hs; rw [made_u64] at hs)
    | (refine wpl_box_v (v := .agg #[ptr D, .slice A r capA, .slice (some ⟨g, 0, none⟩) (n + 1) (n + 1)]) rfl hs ?_; clear hs; intro K w2 hs))
  refine bodyPost_ret (results_tmp2 rfl _ _ _) rfl ?_
  refine ⟨K, R, rfl, Lib.hid ⟨⟨_, _, _, _, HV.out⟩, HO.out, HN.out, HR.out, HS.out⟩, ?_⟩
  rw [← HRl.out] at hs
  exact hs.rot.ent (Ent.cons _ (Ent.swap _ _ _)) |>.wkshut List.length_replicate
/-- Has a node a number? -/
def tel (l : List NodeE) (Ss : Nat → List Nat) (n : Int) : Nat → Bool := fun i => exTell l Ss n i
end Go.Proofs.YtpnjoeiohigjmaaDoor
