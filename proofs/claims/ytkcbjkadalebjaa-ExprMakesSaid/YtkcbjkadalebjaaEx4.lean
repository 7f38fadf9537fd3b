/-
  Expressions (expr.Arena), 4: New, Len, And, Or, Xor, Not, Set.
-/
import Derived.Test.YtkcbjkadalebjaaEx3
set_option maxRecDepth 100000
namespace Go.Proofs.Ytkcbjkadalebjaa
open Go Go.RowKit
attribute [local irreducible] wpList Calls Code.wp addV addN

theorem and_c {w0 w : World} {L : List As} {D : Nat} {l : List NodeE} {ss : List Value} (hs : St w0 (ExB D l ss :: L) w) {A : Option Addr} {m cap : Nat} {kids : List Int} (hA : A = none → m = 0 ∧ cap = 0) (hm : Hid (kids.length = m)) (hm2 : m ≤ 4000000000) (hr : RdS w0 (ExB D l ss :: L) A (ints kids))
    {v : Int} {l' : List NodeE} (hv1 : Hid (addV l 2 kids = v)) (hl' : Hid (addN l 2 kids = l')) :
    Calls Try.prog 16 #[ptr D, .slice A m cap] w fun e w' => e = .returned (.int .i64 v) ∧ St w0 (ExB D l' ss :: L) w' := by
  generalize hp : ptr D = p
  go_enter Try.func16, Try.ntmps16
  go_wp2_with (first
    | (go_at_call 33; subst hp; refine (add_c (k := 2) hs hA hm hm2 hr (fun h => absurd h (by decide)) hv1 hl').mono ?_; clear hs; rintro e w' ⟨rfl, hs⟩))
  go_ret
  exact ⟨rfl, hs⟩
theorem or_c {w0 w : World} {L : List As} {D : Nat} {l : List NodeE} {ss : List Value} (hs : St w0 (ExB D l ss :: L) w) {A : Option Addr} {m cap : Nat} {kids : List Int} (hA : A = none → m = 0 ∧ cap = 0) (hm : Hid (kids.length = m)) (hm2 : m ≤ 4000000000) (hr : RdS w0 (ExB D l ss :: L) A (ints kids))
    {v : Int} {l' : List NodeE} (hv1 : Hid (addV l 3 kids = v)) (hl' : Hid (addN l 3 kids = l')) :
    Calls Try.prog 19 #[ptr D, .slice A m cap] w fun e w' => e = .returned (.int .i64 v) ∧ St w0 (ExB D l' ss :: L) w' := by
  generalize hp : ptr D = p
  go_enter Try.func19, Try.ntmps19
  go_wp2_with (first
    | (go_at_call 33; subst hp; refine (add_c (k := 3) hs hA hm hm2 hr (fun h => absurd h (by decide)) hv1 hl').mono ?_; clear hs; rintro e w' ⟨rfl, hs⟩))
  go_ret
  exact ⟨rfl, hs⟩
theorem xor_c {w0 w : World} {L : List As} {D : Nat} {l : List NodeE} {ss : List Value} (hs : St w0 (ExB D l ss :: L) w) {A : Option Addr} {m cap : Nat} {kids : List Int} (hA : A = none → m = 0 ∧ cap = 0) (hm : Hid (kids.length = m)) (hm2 : m ≤ 4000000000) (hr : RdS w0 (ExB D l ss :: L) A (ints kids))
    {v : Int} {l' : List NodeE} (hv1 : Hid (addV l 4 kids = v)) (hl' : Hid (addN l 4 kids = l')) :
    Calls Try.prog 20 #[ptr D, .slice A m cap] w fun e w' => e = .returned (.int .i64 v) ∧ St w0 (ExB D l' ss :: L) w' := by
  generalize hp : ptr D = p
  go_enter Try.func20, Try.ntmps20
  go_wp2_with (first
    | (go_at_call 33; subst hp; refine (add_c (k := 4) hs hA hm hm2 hr (fun h => absurd h (by decide)) hv1 hl').mono ?_; clear hs; rintro e w' ⟨rfl, hs⟩))
  go_ret
  exact ⟨rfl, hs⟩
theorem build_ar0 (w : World) : (Instr.build 62 #[]).run Try.prog w = .ok (.agg (exC none none 0 0 0 0).toArray) w := by kernel_rfl
theorem exnew_c {w0 w : World} {L : List As} (hs : St w0 L w) : Calls Try.prog 12 #[] w fun e w' => ∃ D, e = .returned (ptr D) ∧ St w0 (ExB D [] [] :: L) w' := by
  go_enter Try.func12, Try.ntmps12
  go_wp2_with (first
    | (refine wpl_buildS build_ar0 rfl ?_)
    | (refine wpl_box_v (v := .agg (exC none none 0 0 0 0).toArray) rfl hs ?_; clear hs; intro D w hs))
  go_ret
  refine ⟨D, rfl, ?_⟩
  replace hs := (hs.own_nil 27 1).rot
  replace hs := (hs.own_nil 38 2).rot
  exact hs.ent (Ent.exshut (rs := []) rfl rfl rfl)
/-! ### Len -/
theorem exlen_c {w0 w : World} {L : List As} {D : Nat} {l : List NodeE} {ss : List Value} (hs : St w0 (ExB D l ss :: L) w) : Calls Try.prog 23 #[ptr D] w fun e w' => e = .returned (.int .i64 (l.length : Nat)) ∧ w' = w := by
  obtain ⟨rs, N, capN, P, capP, hrs, hs1⟩ := hs.exopen
  obtain ⟨d0, d1⟩ := exRd hs1
  clear hrs hs hs1
  unfold ptr
  go_enter Try.func23, Try.ntmps23
  go_wp2
  go_ret
  exact ⟨rfl, rfl⟩
theorem not_c {w0 w : World} {L : List As} {D : Nat} {l : List NodeE} {ss : List Value} (hs : St w0 (ExB D l ss :: L) w) (i : Int)
    {v : Int} {l' : List NodeE} (hv1 : Hid (addV l 5 [i] = v)) (hl' : Hid (addN l 5 [i] = l')) :
    Calls Try.prog 15 #[ptr D, .int .i64 i] w fun e w' => e = .returned (.int .i64 v) ∧ St w0 (ExB D l' ss :: L) w' := by
  generalize hp : ptr D = p
  go_enter Try.func15, Try.ntmps15
  go_wp2_with (first
    | (refine wpl_build1 (v := .int .i64 i) elem24 (by decide) rfl rfl hs ?_; clear hs; intro g w hs; replace hs := hs.rot)
    | (go_at_call 33; subst hp; refine (add_c (k := 5) (kids := [i]) (A := some ⟨g, 0, none⟩) (m := 1) hs (fun h => nomatch h) (Lib.hid rfl) (by omega) (RdS.blk.tail) (fun h => absurd h (by decide)) hv1 hl').mono ?_; clear hs; rintro e w' ⟨rfl, hs⟩))
  go_ret
  exact ⟨rfl, hs.rot.drop⟩
theorem add_set {l : List NodeE} {i : Int} (hl : l.length < 1000) : addV l 1 [i] = (l.length : Int) ∧ addN l 1 [i] = l ++ [⟨1, [i.toNat]⟩] := by
  have h : addOk l 1 [i] = true := by unfold addOk; rw [decide_eq_true hl]; rfl
  unfold addV addN
  rw [h]
  exact ⟨rfl, rfl⟩
theorem size_slP : (Try.prog.info? 50).map (·.size) = some 1 := by kernel_rfl
theorem exset_c {w0 w : World} {L : List As} {D : Nat} {l : List NodeE} {ss : List Value} (hs : St w0 (ExB D l ss :: L) w) (hl : l.length < 1000) (hss : ss.length ≤ 1000000) (q : Option Addr) :
    Calls Try.prog 14 #[ptr D, .pointer q] w fun e w' => e = .returned (.int .i64 (l.length : Nat)) ∧ St w0 (ExB D (l ++ [⟨1, [ss.length]⟩]) (ss ++ [.pointer q]) :: L) w' := by
  obtain ⟨rs, N, capN, P, capP, hrs, hs1⟩ := hs.exopen
  obtain ⟨d0, d1⟩ := exRd hs1
  obtain ⟨ha, hb⟩ := add_set (i := (ss.length : Nat)) hl
  rw [Int.toNat_natCast] at hb
  have HA := Lib.hid ha
  have HB := Lib.hid hb
  clear hrs hs1 ha hb
  have h0 : decide ((0 : Int) ≤ (l.length : Nat)) = true := decide_eq_true (Int.natCast_nonneg _)
  generalize hn : ss.length = m at *
  unfold ptr
  go_enter Try.func14, Try.ntmps14
  go_wp2_with (first
    | (refine wpl_build1 (v := .int .i64 (m : Nat)) elem24 (by decide) rfl rfl hs ?_; clear hs; intro g w hs; replace hs := hs.rot)
    | (go_at_call 33; refine (add_c (k := 1) (kids := [(m : Int)]) (A := some ⟨g, 0, none⟩) (m := 1) hs (fun h => nomatch h) (Lib.hid rfl) (by omega) (RdS.blk.tail) (fun _ => by simp) HA HB).mono ?_; clear hs d0 d1; rintro e w' ⟨rfl, hs⟩; replace hs := hs.rot.drop; obtain ⟨rs, N, capN, P, capP, hrs, hs⟩ := hs.exopen; have HRS := Lib.hid hrs; clear hrs; rw [hn] at hs; obtain ⟨d0, d1⟩ := exRd hs)
    | (refine wpl_build1 (v := .pointer q) elemP (by decide) rfl rfl hs ?_; clear hs; intro g w hs)
    | (refine wpl_append (A := P) (B := some ⟨g, 0, none⟩) (n := m) (m := 1) (news := [.pointer q]) elemP rfl rfl hs (Ent.skip (Ent.skip (Ent.skip (Ent.refl _)))) RdS.blk rfl (by intro u hu; simp at hu; subst hu; rfl) (by unfold maxLen; omega) (by omega) ?_; clear hs; intro P2 capP2 w hs; replace hs := hs.up2)
    | (refine wpl_store (v := .slice P2 (m + 1) capP2) rfl rfl rfl size_slP hs (Wr.blk (by simp [exC])) ?_; clear hs; intro w hs))
  go_ret
  refine ⟨rfl, ?_⟩
  replace hs : St w0 (Ytkcbjkadalebjaa.blk D (exC N P2 (l ++ [(⟨1, [m]⟩ : NodeE)]).length capN (m + 1) capP2).toArray 62 :: _) w := hs
  exact hs.up3.rot.up3.drop.ent (Ent.exshut HRS.out rfl (by simp [hn]))
end Go.Proofs.Ytkcbjkadalebjaa
