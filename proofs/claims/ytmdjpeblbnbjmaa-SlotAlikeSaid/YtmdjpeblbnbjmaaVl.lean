/-
  The contracts of what a value is (value.Ok, value.Zero).
-/
import Derived.Test.YtmdjpeblbnbjmaaR4
set_option maxRecDepth 100000
namespace Go.Proofs.Ytmdjpeblbnbjmaa
open Go Go.RowKit
attribute [local irreducible] wpList Calls Code.wp

/-- Whether a value may be. -/
def okVal (v : V3) : Bool := if v.k = 1 then v.b == 0 else if v.k = 2 then true else if v.k = 3 then (v.a == 0 && v.b == 0) else false
theorem vok_c {w : World} (v : V3) : Calls Try.prog 50 #[val3 v] w fun e w' => e = .returned (.bool (okVal v)) ∧ Grew w w' := by
  have hw := St.start w
  obtain ⟨b, hb⟩ : ∃ b, Hid (okVal v = b) := ⟨_, rfl⟩
  rw [hb.out]
  by_cases h1 : v.k = 1
  · have e : Hid ((v.b == 0) = b) := by rw [Hid, ← hb.out]; unfold okVal; rw [if_pos h1]
    have d1 : (v.k == 1) = true := by simp [h1]
    clear h1 hb
    go_enter Try.func50, Try.ntmps50
    go_upto_region 1 with (first
      | (refine wpl_box_v (v := val3 v) rfl hw ?_; clear hw; intro g1 w1 hw))
    have hh := has3_slot (w0 := w) (L := []) (g := g1) (v := v) (t := 40)
    obtain ⟨c0, c1, c2⟩ := hh.facts hw
    go_wp2
    go_ret
    exact ⟨by rw [← e.out]; rfl, hw.made_grew⟩
  · have n1 : (v.k == 1) = false := by simp [h1]
    by_cases h2 : v.k = 2
    · have e : Hid (true = b) := by rw [Hid, ← hb.out]; unfold okVal; rw [if_neg h1, if_pos h2]
      have d2 : (v.k == 2) = true := by simp [h2]
      clear h1 h2 hb
      go_enter Try.func50, Try.ntmps50
      go_upto_region 1 with (first
        | (refine wpl_box_v (v := val3 v) rfl hw ?_; clear hw; intro g1 w1 hw))
      have hh := has3_slot (w0 := w) (L := []) (g := g1) (v := v) (t := 40)
      obtain ⟨c0, c1, c2⟩ := hh.facts hw
      go_wp2
      go_ret
      exact ⟨by rw [← e.out]; rfl, hw.made_grew⟩
    · have n2 : (v.k == 2) = false := by simp [h2]
      by_cases h3 : v.k = 3
      · have d3 : (v.k == 3) = true := by simp [h3]
        cases ha : (v.a == 0)
        · have e : Hid (false = b) := by rw [Hid, ← hb.out]; unfold okVal; rw [if_neg h1, if_neg h2, if_pos h3, ha]; rfl
          clear h1 h2 h3 hb
          go_enter Try.func50, Try.ntmps50
          go_upto_region 1 with (first
            | (refine wpl_box_v (v := val3 v) rfl hw ?_; clear hw; intro g1 w1 hw))
          have hh := has3_slot (w0 := w) (L := []) (g := g1) (v := v) (t := 40)
          obtain ⟨c0, c1, c2⟩ := hh.facts hw
          go_wp2
          go_ret
          exact ⟨by rw [← e.out]; rfl, hw.made_grew⟩
        · have e : Hid ((v.b == 0) = b) := by rw [Hid, ← hb.out]; unfold okVal; rw [if_neg h1, if_neg h2, if_pos h3, ha]; rfl
          clear h1 h2 h3 hb
          go_enter Try.func50, Try.ntmps50
          go_upto_region 1 with (first
            | (refine wpl_box_v (v := val3 v) rfl hw ?_; clear hw; intro g1 w1 hw))
          have hh := has3_slot (w0 := w) (L := []) (g := g1) (v := v) (t := 40)
          obtain ⟨c0, c1, c2⟩ := hh.facts hw
          go_wp2
          go_ret
          exact ⟨by rw [← e.out]; rfl, hw.made_grew⟩
      · have e : Hid (false = b) := by rw [Hid, ← hb.out]; unfold okVal; rw [if_neg h1, if_neg h2, if_neg h3]
        have n3 : (v.k == 3) = false := by simp [h3]
        clear h1 h2 h3 hb
        go_enter Try.func50, Try.ntmps50
        go_upto_region 1 with (first
          | (refine wpl_box_v (v := val3 v) rfl hw ?_; clear hw; intro g1 w1 hw))
        have hh := has3_slot (w0 := w) (L := []) (g := g1) (v := v) (t := 40)
        obtain ⟨c0, c1, c2⟩ := hh.facts hw
        go_wp2
        go_ret
        exact ⟨by rw [← e.out]; rfl, hw.made_grew⟩
end Go.Proofs.Ytmdjpeblbnbjmaa
