/-
  Going over (scan), 1: a walk's memory; over; a word of a walk.
-/
import Derived.Test.YtpnjoeiohigjmaaDoorScLaw
import Derived.Test.YtpnjoeiohigjmaaDoorJC
set_option maxRecDepth 100000
namespace Go.Proofs.YtpnjoeiohigjmaaDoor
open Go Go.RowKit
attribute [local irreducible] wpList Calls Code.wp mayW

/-- A walk over node n of the arena D, made of R. -/
def WkB (K D n : Nat) (R : List Nat) : As := fun h => ∃ (A : Option Addr) (cap g : Nat) (W : List Nat), W.length = n + 1 ∧
  star (own (some ⟨g, 0, none⟩) (n + 1) (n + 1) 32 1 (u64s W)) (star (own A R.length cap 3 1 (ints (natI R))) (YtpnjoeiohigjmaaDoor.blk K #[ptr D, .slice A R.length cap, .slice (some ⟨g, 0, none⟩) (n + 1) (n + 1)] 103)) h
theorem St.wkopen {w0 w : World} {K D n : Nat} {R : List Nat} {L : List As} (hs : St w0 (WkB K D n R :: L) w) : ∃ (A : Option Addr) (cap g : Nat) (W : List Nat), W.length = n + 1 ∧
    St w0 (own (some ⟨g, 0, none⟩) (n + 1) (n + 1) 32 1 (u64s W) :: own A R.length cap 3 1 (ints (natI R)) :: YtpnjoeiohigjmaaDoor.blk K #[ptr D, .slice A R.length cap, .slice (some ⟨g, 0, none⟩) (n + 1) (n + 1)] 103 :: L) w := by
  obtain ⟨x, r, hd, hx, a, b, hab, e, ⟨A, cap, g, W, hW, hp⟩, hb⟩ := hs.sat
  have hs2 : St w0 (star (own (some ⟨g, 0, none⟩) (n + 1) (n + 1) 32 1 (u64s W)) (star (own A R.length cap 3 1 (ints (natI R))) (YtpnjoeiohigjmaaDoor.blk K #[ptr D, .slice A R.length cap, .slice (some ⟨g, 0, none⟩) (n + 1) (n + 1)] 103)) :: L) w :=
    ⟨hs.below, x, r, hd, hx, a, b, hab, e, hp, hb⟩
  exact ⟨A, cap, g, W, hW, (hs2.ent (Ent.open2 fun _ h => h)).ent (Ent.cons _ (Ent.open2 fun _ h => h))⟩
theorem St.wkshut {w0 w : World} {K D n : Nat} {R : List Nat} {L : List As} {A : Option Addr} {cap g : Nat} {W : List Nat} (hW : W.length = n + 1)
    (hs : St w0 (own (some ⟨g, 0, none⟩) (n + 1) (n + 1) 32 1 (u64s W) :: own A R.length cap 3 1 (ints (natI R)) :: YtpnjoeiohigjmaaDoor.blk K #[ptr D, .slice A R.length cap, .slice (some ⟨g, 0, none⟩) (n + 1) (n + 1)] 103 :: L) w) : St w0 (WkB K D n R :: L) w :=
  ((hs.ent (Ent.cons _ (Ent.shut2 fun _ h => h))).ent (Ent.shut2 fun _ h => h)).conv fun _ h => ⟨A, cap, g, W, hW, h⟩
/-- What a walk stands on. -/
structure ScC (w0 : World) (D n : Nat) (l : List NodeE) (ss : List Value) (R : List Nat) (Ss : Nat → List Nat) : Prop where
  view : ∃ N cap P cap2, ExV D l ss N cap P cap2 w0
  ok : ArOk l ss.length
  lt : n < l.length
  need : NeedOk l n R
  sets : SetsOk w0 ss Ss
theorem scW_in {l : List NodeE} {Ss : Nat → List Nat} {n : Nat} {level at_ : Int} (h : inPl level at_) : scW l Ss n level at_ = mayW l Ss n level at_ := if_pos h
theorem scW_out {l : List NodeE} {Ss : Nat → List Nat} {n : Nat} {level at_ : Int} (h : ¬ inPl level at_) : scW l Ss n level at_ = 0 := if_neg h
theorem words_m {w0 w : World} {L : List As} {D g n : Nat} {l : List NodeE} {ss : List Value} {R : List Nat} {Ss : Nat → List Nat} {A : Option Addr} {capR r : Nat} {W : List Nat} (hc : Hid (ScC w0 D n l ss R Ss)) (hs : St w0 (own (some ⟨g, 0, none⟩) (n + 1) (n + 1) 32 1 (u64s W) :: own A r capR 3 1 (ints (natI R)) :: L) w) (hW : Hid (W.length = n + 1)) (hr : Hid (R.length = r))
    {level at_ : Int} {x : Nat} (hx : Hid (mayW l Ss n level at_ = x)) :
    Calls Tryd.prog 49 #[ptr D, .slice A r capR, .int .i64 level, .int .i64 at_, .slice (some ⟨g, 0, none⟩) (n + 1) (n + 1)] w fun e w' => e = .returned (.int .u64 (x : Nat)) ∧
      ∃ W', Hid (W'.length = n + 1) ∧ St w0 (own (some ⟨g, 0, none⟩) (n + 1) (n + 1) 32 1 (u64s W') :: own A r capR 3 1 (ints (natI R)) :: L) w' := by
  obtain ⟨N, cap, P, cap2, hv⟩ := hc.out.view
  exact words_c hs hv hW.out hc.out.ok hc.out.lt hc.out.need hr (RdS.own hs.drop) (lv := decide (0 < level)) rfl hc.out.sets rfl (by unfold mayW at hx; exact hx)
attribute [local irreducible] scW
set_option maxHeartbeats 1000000 in
theorem scword_c {w0 w : World} {L : List As} {K D n : Nat} {l : List NodeE} {ss : List Value} {R : List Nat} {Ss : Nat → List Nat} (hc : ScC w0 D n l ss R Ss) (hs : St w0 (WkB K D n R :: L) w) (level at_ : Int) {x : Nat} (hx : Hid (scW l Ss n level at_ = x)) :
    Calls Tryd.prog 41 #[ptr K, .int .i64 level, .int .i64 at_] w fun e w' => e = .returned (.int .u64 (x : Nat)) ∧ St w0 (WkB K D n R :: L) w' := by
  by_cases h1 : level < 0
  · have hx0 : x = 0 := by
      rw [← hx.out]
      exact scW_out fun h => by have := h.1; omega
    subst hx0
    clear hx
    go_enter Tryd.func41, Tryd.ntmps41
    go_wp2
    go_ret
    exact ⟨rfl, hs⟩
  · by_cases h2 : 4 ≤ level
    · have hx0 : x = 0 := by
        rw [← hx.out]
        exact scW_out fun h => by have := h.2.1; omega
      subst hx0
      clear hx
      go_enter Tryd.func41, Tryd.ntmps41
      go_wp2
      go_ret
      exact ⟨rfl, hs⟩
    · by_cases h3 : 0 ≤ at_
      · have h4 : level = 0 ∨ level = 1 ∨ level = 2 ∨ level = 3 := by omega
        clear h1 h2
        rcases h4 with rfl | rfl | rfl | rfl
        · skip
          by_cases ha : at_ < 262144
          · have HX : Hid (mayW l Ss n 0 at_ = x) := by rw [Hid, ← hx.out, scW_in ⟨by decide, by decide, h3, by simpa using ha⟩]
            have da : decide (262144 ≤ at_) = false := decide_eq_false (by omega)
            obtain ⟨A, cap, g, W, hW, hs⟩ := hs.wkopen
            obtain ⟨r, HR⟩ : ∃ r, Hid (R.length = r) := ⟨_, rfl⟩
            rw [HR.out] at hs
            have HWl := Lib.hid hW
            have HC := Lib.hid hc
            clear hW ha hx hc
            generalize hp : ptr D = p at hs
            go_enter Tryd.func41, Tryd.ntmps41
            go_upto_region 3 with (fail)
            have hb := (hs.up2).only
            refine wp_region_plain [false, false, false, false, false, false, false, false, false, false, false, false, false, false, true, true] hb (by kernel_rfl) (by kernel_rfl) fun hne => ?_
            have e0 := (Rd.blk (w0 := w0) (g := K) (k := 0) (cs := #[p, .slice A r cap, .slice (some ⟨g, 0, none⟩) (n + 1) (n + 1)]) (t := 103) (L := []) rfl).alln
            have e1 := (Rd.blk (w0 := w0) (g := K) (k := 1) (cs := #[p, .slice A r cap, .slice (some ⟨g, 0, none⟩) (n + 1) (n + 1)]) (t := 103) (L := []) rfl).alln
            have e2 := (Rd.blk (w0 := w0) (g := K) (k := 2) (cs := #[p, .slice A r cap, .slice (some ⟨g, 0, none⟩) (n + 1) (n + 1)]) (t := 103) (L := []) rfl).alln
            simp only [pickOps]
            repeat (go_big_quiet_step (fail))
            refine wpQuiet_nil ?_
            clear hne e0 e1 e2
            simp only [chainIx]
            replace hs := hs.drew
            clear hb
            subst hp
            refine wpChainP_next rfl ?_
            go_wp2_with (first
              | (go_at_call 49; refine (words_m HC hs HWl HR HX).mono ?_; clear hs; rintro e w' ⟨rfl, W', HW', hs⟩))
            refine ⟨hs.up2.only, ?_⟩
            refine wpChain_last rfl ?_
            go_wp2
            go_ret
            rw [← HR.out] at hs
            exact ⟨rfl, hs.wkshut HW'.out⟩
          · have hx0 : x = 0 := by
              rw [← hx.out]
              exact scW_out fun h => ha (by simpa using h.2.2.2)
            subst hx0
            have da : decide (262144 ≤ at_) = true := decide_eq_true (by omega)
            clear ha hx hc
            go_enter Tryd.func41, Tryd.ntmps41
            go_wp2
            go_ret
            exact ⟨rfl, hs⟩
        · skip
          by_cases ha : at_ < 4096
          · have HX : Hid (mayW l Ss n 1 at_ = x) := by rw [Hid, ← hx.out, scW_in ⟨by decide, by decide, h3, by simpa using ha⟩]
            have da : decide (4096 ≤ at_) = false := decide_eq_false (by omega)
            obtain ⟨A, cap, g, W, hW, hs⟩ := hs.wkopen
            obtain ⟨r, HR⟩ : ∃ r, Hid (R.length = r) := ⟨_, rfl⟩
            rw [HR.out] at hs
            have HWl := Lib.hid hW
            have HC := Lib.hid hc
            clear hW ha hx hc
            generalize hp : ptr D = p at hs
            go_enter Tryd.func41, Tryd.ntmps41
            go_upto_region 3 with (fail)
            have hb := (hs.up2).only
            refine wp_region_plain [false, false, false, false, false, false, false, false, false, false, false, false, false, false, true, true] hb (by kernel_rfl) (by kernel_rfl) fun hne => ?_
            have e0 := (Rd.blk (w0 := w0) (g := K) (k := 0) (cs := #[p, .slice A r cap, .slice (some ⟨g, 0, none⟩) (n + 1) (n + 1)]) (t := 103) (L := []) rfl).alln
            have e1 := (Rd.blk (w0 := w0) (g := K) (k := 1) (cs := #[p, .slice A r cap, .slice (some ⟨g, 0, none⟩) (n + 1) (n + 1)]) (t := 103) (L := []) rfl).alln
            have e2 := (Rd.blk (w0 := w0) (g := K) (k := 2) (cs := #[p, .slice A r cap, .slice (some ⟨g, 0, none⟩) (n + 1) (n + 1)]) (t := 103) (L := []) rfl).alln
            simp only [pickOps]
            repeat (go_big_quiet_step (fail))
            refine wpQuiet_nil ?_
            clear hne e0 e1 e2
            simp only [chainIx]
            replace hs := hs.drew
            clear hb
            subst hp
            refine wpChainP_next rfl ?_
            go_wp2_with (first
              | (go_at_call 49; refine (words_m HC hs HWl HR HX).mono ?_; clear hs; rintro e w' ⟨rfl, W', HW', hs⟩))
            refine ⟨hs.up2.only, ?_⟩
            refine wpChain_last rfl ?_
            go_wp2
            go_ret
            rw [← HR.out] at hs
            exact ⟨rfl, hs.wkshut HW'.out⟩
          · have hx0 : x = 0 := by
              rw [← hx.out]
              exact scW_out fun h => ha (by simpa using h.2.2.2)
            subst hx0
            have da : decide (4096 ≤ at_) = true := decide_eq_true (by omega)
            clear ha hx hc
            go_enter Tryd.func41, Tryd.ntmps41
            go_wp2
            go_ret
            exact ⟨rfl, hs⟩
        · skip
          by_cases ha : at_ < 64
          · have HX : Hid (mayW l Ss n 2 at_ = x) := by rw [Hid, ← hx.out, scW_in ⟨by decide, by decide, h3, by simpa using ha⟩]
            have da : decide (64 ≤ at_) = false := decide_eq_false (by omega)
            obtain ⟨A, cap, g, W, hW, hs⟩ := hs.wkopen
            obtain ⟨r, HR⟩ : ∃ r, Hid (R.length = r) := ⟨_, rfl⟩
            rw [HR.out] at hs
            have HWl := Lib.hid hW
            have HC := Lib.hid hc
            clear hW ha hx hc
            generalize hp : ptr D = p at hs
            go_enter Tryd.func41, Tryd.ntmps41
            go_upto_region 3 with (fail)
            have hb := (hs.up2).only
            refine wp_region_plain [false, false, false, false, false, false, false, false, false, false, false, false, false, false, true, true] hb (by kernel_rfl) (by kernel_rfl) fun hne => ?_
            have e0 := (Rd.blk (w0 := w0) (g := K) (k := 0) (cs := #[p, .slice A r cap, .slice (some ⟨g, 0, none⟩) (n + 1) (n + 1)]) (t := 103) (L := []) rfl).alln
            have e1 := (Rd.blk (w0 := w0) (g := K) (k := 1) (cs := #[p, .slice A r cap, .slice (some ⟨g, 0, none⟩) (n + 1) (n + 1)]) (t := 103) (L := []) rfl).alln
            have e2 := (Rd.blk (w0 := w0) (g := K) (k := 2) (cs := #[p, .slice A r cap, .slice (some ⟨g, 0, none⟩) (n + 1) (n + 1)]) (t := 103) (L := []) rfl).alln
            simp only [pickOps]
            repeat (go_big_quiet_step (fail))
            refine wpQuiet_nil ?_
            clear hne e0 e1 e2
            simp only [chainIx]
            replace hs := hs.drew
            clear hb
            subst hp
            refine wpChainP_next rfl ?_
            go_wp2_with (first
              | (go_at_call 49; refine (words_m HC hs HWl HR HX).mono ?_; clear hs; rintro e w' ⟨rfl, W', HW', hs⟩))
            refine ⟨hs.up2.only, ?_⟩
            refine wpChain_last rfl ?_
            go_wp2
            go_ret
            rw [← HR.out] at hs
            exact ⟨rfl, hs.wkshut HW'.out⟩
          · have hx0 : x = 0 := by
              rw [← hx.out]
              exact scW_out fun h => ha (by simpa using h.2.2.2)
            subst hx0
            have da : decide (64 ≤ at_) = true := decide_eq_true (by omega)
            clear ha hx hc
            go_enter Tryd.func41, Tryd.ntmps41
            go_wp2
            go_ret
            exact ⟨rfl, hs⟩
        · skip
          by_cases ha : at_ < 1
          · have HX : Hid (mayW l Ss n 3 at_ = x) := by rw [Hid, ← hx.out, scW_in ⟨by decide, by decide, h3, by simpa using ha⟩]
            have da : decide (1 ≤ at_) = false := decide_eq_false (by omega)
            obtain ⟨A, cap, g, W, hW, hs⟩ := hs.wkopen
            obtain ⟨r, HR⟩ : ∃ r, Hid (R.length = r) := ⟨_, rfl⟩
            rw [HR.out] at hs
            have HWl := Lib.hid hW
            have HC := Lib.hid hc
            clear hW ha hx hc
            generalize hp : ptr D = p at hs
            go_enter Tryd.func41, Tryd.ntmps41
            go_upto_region 3 with (fail)
            have hb := (hs.up2).only
            refine wp_region_plain [false, false, false, false, false, false, false, false, false, false, false, false, false, false, true, true] hb (by kernel_rfl) (by kernel_rfl) fun hne => ?_
            have e0 := (Rd.blk (w0 := w0) (g := K) (k := 0) (cs := #[p, .slice A r cap, .slice (some ⟨g, 0, none⟩) (n + 1) (n + 1)]) (t := 103) (L := []) rfl).alln
            have e1 := (Rd.blk (w0 := w0) (g := K) (k := 1) (cs := #[p, .slice A r cap, .slice (some ⟨g, 0, none⟩) (n + 1) (n + 1)]) (t := 103) (L := []) rfl).alln
            have e2 := (Rd.blk (w0 := w0) (g := K) (k := 2) (cs := #[p, .slice A r cap, .slice (some ⟨g, 0, none⟩) (n + 1) (n + 1)]) (t := 103) (L := []) rfl).alln
            simp only [pickOps]
            repeat (go_big_quiet_step (fail))
            refine wpQuiet_nil ?_
            clear hne e0 e1 e2
            simp only [chainIx]
            replace hs := hs.drew
            clear hb
            subst hp
            refine wpChainP_next rfl ?_
            go_wp2_with (first
              | (go_at_call 49; refine (words_m HC hs HWl HR HX).mono ?_; clear hs; rintro e w' ⟨rfl, W', HW', hs⟩))
            refine ⟨hs.up2.only, ?_⟩
            refine wpChain_last rfl ?_
            go_wp2
            go_ret
            rw [← HR.out] at hs
            exact ⟨rfl, hs.wkshut HW'.out⟩
          · have hx0 : x = 0 := by
              rw [← hx.out]
              exact scW_out fun h => ha (by simpa using h.2.2.2)
            subst hx0
            have da : decide (1 ≤ at_) = true := decide_eq_true (by omega)
            clear ha hx hc
            go_enter Tryd.func41, Tryd.ntmps41
            go_wp2
            go_ret
            exact ⟨rfl, hs⟩
      · have hx0 : x = 0 := by
          rw [← hx.out]
          exact scW_out fun h => h3 h.2.2.1
        subst hx0
        have h5 : at_ < 0 := by omega
        clear hx
        go_enter Tryd.func41, Tryd.ntmps41
        go_wp2
        go_ret
        exact ⟨rfl, hs⟩
end Go.Proofs.YtpnjoeiohigjmaaDoor
