/-
  Contracts of lazy.Ok and of slices.ContainsFunc over Ops.
-/
import Derived.Test.YtiafdlofcjbllaaGreatDoorWoLaw
import Derived.Test.YtiafdlofcjbllaaGreatDoorRegM
import Derived.Laws.StructEq
import Derived.Laws.Tables
import Derived.Laws.Cover2
import Derived.KernelRfl
set_option maxRecDepth 100000
namespace Go.Proofs.YtiafdlofcjbllaaGreatDoor
open Go Go.RowKit
attribute [local irreducible] wpList Calls Code.wp
def valW (o : OpW) : Value := .agg (c7w o).toArray
theorem sizeW (o : OpW) : (Tryz.prog.info? 99).map (·.size) = some (c7w o).length := by kernel_rfl
theorem aggW : aggB Tryz.prog 99 = true := by kernel_rfl
theorem eqV_in (a b c d e f : Int) (w : World) : (Op.equalIn 10000 38 (.agg #[.int .i64 a, .int .i64 b, .int .i64 c]) (.agg #[.int .i64 d, .int .i64 e, .int .i64 f])).run Tryz.prog w = .ok ((a == d) && ((b == e) && (c == f))) w := by
  have u3 := Tryz.underlying3
  have a3 := Tryz.isAgg3
  have z3 := Tryz.sizeOf3
  have hS : Tryz.prog.underlying 38 = some (.struct (Tryz.prog.fieldsOf 38)) := by kernel_rfl
  have hp : Tryz.prog.stoodInHeld 38 = false := by kernel_rfl
  rw [show (10000 : Nat) = 9999 + 1 from rfl, run_equalIn_agg w 9999 38 _ _ hS hp]
  simp only [Program.fieldsOf, Tryz.underlying38]
  go_simp
  by_cases h1 : a = d <;> by_cases h2 : b = e <;> by_cases h3 : c = f <;> simp [h1, h2, h3]
theorem eqV_bin (a b c d e f : Int) (w : World) : (binOp .eql 38 (.agg #[.int .i64 a, .int .i64 b, .int .i64 c]) (.agg #[.int .i64 d, .int .i64 e, .int .i64 f])).run Tryz.prog w = .ok (.bool ((a == d) && ((b == e) && (c == f)))) w := by
  rw [run_eql_struct, eqV_in]; rfl
/-- The cells of an Op in a block. -/
theorem opW_facts {w0 w : World} {L : List As} {g : Nat} {o : OpW} (hs : St w0 (blk g (c7w o).toArray 99 :: L) w) :
    Rd w0 (blk g (c7w o).toArray 99 :: L) ⟨g, 0, none⟩ (.int .i64 o.k) ∧ Rd w0 (blk g (c7w o).toArray 99 :: L) ⟨g, 3, none⟩ (.int .i64 o.c) ∧ (∀ j x, (c3 o.v)[j]? = some x → Rd w0 (blk g (c7w o).toArray 99 :: L) ⟨g, 4 + j, none⟩ x) := by
  refine ⟨Rd.blk rfl, Rd.blk rfl, fun j x hx => ?_⟩
  obtain ⟨k, h, c, v⟩ := o
  match j, hx with
  | 0, hx => injection hx with hx; subst hx; exact Rd.blk rfl
  | 1, hx => injection hx with hx; subst hx; exact Rd.blk rfl
  | 2, hx => injection hx with hx; subst hx; exact Rd.blk rfl
theorem wok_c {w : World} (o : OpW) : Calls Tryz.prog 108 #[valW o] w fun e w' => e = .returned (.bool o.ok) ∧ Grew w w' := by
  have hw := St.start w
  have he := eqV_bin
  have hv := fun w => vok_c (w := w) o.v
  obtain ⟨b, hb⟩ : ∃ b, Hid (o.ok = b) := ⟨_, rfl⟩
  rw [hb.out]
  by_cases h1 : o.k = 1
  · have d1 : (o.k == 1) = true := by simp [h1]
    by_cases h2 : o.c = 0
    · have d2 : (o.c == 0) = true := by simp [h2]
      have e : Hid ((o.v.k == 0 && (o.v.a == 0 && o.v.b == 0)) = b) := by
        rw [Hid, ← hb.out]
        unfold OpW.ok
        rw [if_pos h1, h2]
        obtain ⟨k, h, c, ⟨x, y, z⟩⟩ := o
        by_cases q1 : x = 0 <;> by_cases q2 : y = 0 <;> by_cases q3 : z = 0 <;> simp_all [V3.z]
      clear h1 h2 hb
      go_enter Tryz.func108, Tryz.ntmps108
      go_upto_region 1 with (first
        | (refine wpl_box_v (v := valW o) rfl hw ?_; clear hw; intro g1 w1 hw))
      obtain ⟨c0, c3, c4⟩ := opW_facts hw
      replace c0 := c0 _ hw
      replace c3 := c3 _ hw
      have c40 := c4 0 _ rfl _ hw
      have c41 := c4 1 _ rfl _ hw
      have c42 := c4 2 _ rfl _ hw
      clear c4
      go_wp2
      all_goals (go_ret; exact ⟨by rw [← e.out]; rfl, hw.made_grew⟩)
    · have d2 : (o.c == 0) = false := by simp [h2]
      have e : Hid (false = b) := by
        rw [Hid, ← hb.out]
        unfold OpW.ok
        rw [if_pos h1]; simp [h2]
      clear h1 h2 hb
      go_enter Tryz.func108, Tryz.ntmps108
      go_upto_region 1 with (first
        | (refine wpl_box_v (v := valW o) rfl hw ?_; clear hw; intro g1 w1 hw))
      obtain ⟨c0, c3, c4⟩ := opW_facts hw
      replace c0 := c0 _ hw
      replace c3 := c3 _ hw
      have c40 := c4 0 _ rfl _ hw
      have c41 := c4 1 _ rfl _ hw
      have c42 := c4 2 _ rfl _ hw
      clear c4
      go_wp2
      all_goals (go_ret; exact ⟨by rw [← e.out]; rfl, hw.made_grew⟩)
  have n1 : (o.k == 1) = false := by simp [h1]
  by_cases h2 : o.k = 2
  · have d2 : (o.k == 2) = true := by simp [h2]
    by_cases h3 : 0 ≤ o.c
    · have d3 : decide (o.c ≥ 0) = true := decide_eq_true h3
      have e : Hid (okVal o.v = b) := by
        rw [Hid, ← hb.out]
        unfold OpW.ok
        rw [if_neg h1, if_pos h2, decide_eq_true h3]
        rfl
      clear h1 h2 h3 hb
      go_enter Tryz.func108, Tryz.ntmps108
      go_upto_region 1 with (first
        | (refine wpl_box_v (v := valW o) rfl hw ?_; clear hw; intro g1 w1 hw))
      obtain ⟨c0, c3, c4⟩ := opW_facts hw
      replace c0 := c0 _ hw
      replace c3 := c3 _ hw
      have c40 := c4 0 _ rfl _ hw
      have c41 := c4 1 _ rfl _ hw
      have c42 := c4 2 _ rfl _ hw
      clear c4
      go_wp2_with (first
        | (go_at_call 148; refine (hv _).mono ?_; rintro r w' ⟨rfl, hg⟩))
      all_goals (go_ret; exact ⟨by rw [← e.out]; rfl, hw.made_grew.trans hg⟩)
    · have d3 : decide (o.c ≥ 0) = false := decide_eq_false h3
      have e : Hid (false = b) := by
        rw [Hid, ← hb.out]
        unfold OpW.ok
        rw [if_neg h1, if_pos h2, decide_eq_false h3]
        rfl
      clear h1 h2 h3 hb
      go_enter Tryz.func108, Tryz.ntmps108
      go_upto_region 1 with (first
        | (refine wpl_box_v (v := valW o) rfl hw ?_; clear hw; intro g1 w1 hw))
      obtain ⟨c0, c3, c4⟩ := opW_facts hw
      replace c0 := c0 _ hw
      replace c3 := c3 _ hw
      have c40 := c4 0 _ rfl _ hw
      have c41 := c4 1 _ rfl _ hw
      have c42 := c4 2 _ rfl _ hw
      clear c4
      go_wp2
      all_goals (go_ret; exact ⟨by rw [← e.out]; rfl, hw.made_grew⟩)
  have n2 : (o.k == 2) = false := by simp [h2]
  by_cases h4 : o.k = 3
  · have d2 : (o.k == 3) = true := by simp [h4]
    by_cases h3 : 0 ≤ o.c
    · have d3 : decide (o.c ≥ 0) = true := decide_eq_true h3
      have e : Hid ((o.v.k == 0 && (o.v.a == 0 && o.v.b == 0)) = b) := by
        rw [Hid, ← hb.out]
        unfold OpW.ok
        rw [if_neg h1, if_neg h2, if_pos h4]
        obtain ⟨k, h, c, ⟨x, y, z⟩⟩ := o
        by_cases q1 : x = 0 <;> by_cases q2 : y = 0 <;> by_cases q3 : z = 0 <;> simp_all [V3.z]
      clear h1 h2 h3 h4 hb
      go_enter Tryz.func108, Tryz.ntmps108
      go_upto_region 1 with (first
        | (refine wpl_box_v (v := valW o) rfl hw ?_; clear hw; intro g1 w1 hw))
      obtain ⟨c0, c3, c4⟩ := opW_facts hw
      replace c0 := c0 _ hw
      replace c3 := c3 _ hw
      have c40 := c4 0 _ rfl _ hw
      have c41 := c4 1 _ rfl _ hw
      have c42 := c4 2 _ rfl _ hw
      clear c4
      go_wp2
      all_goals (go_ret; exact ⟨by rw [← e.out]; rfl, hw.made_grew⟩)
    · have d3 : decide (o.c ≥ 0) = false := decide_eq_false h3
      have e : Hid (false = b) := by
        rw [Hid, ← hb.out]
        unfold OpW.ok
        rw [if_neg h1, if_neg h2, if_pos h4]; simp [h3]
      clear h1 h2 h3 h4 hb
      go_enter Tryz.func108, Tryz.ntmps108
      go_upto_region 1 with (first
        | (refine wpl_box_v (v := valW o) rfl hw ?_; clear hw; intro g1 w1 hw))
      obtain ⟨c0, c3, c4⟩ := opW_facts hw
      replace c0 := c0 _ hw
      replace c3 := c3 _ hw
      have c40 := c4 0 _ rfl _ hw
      have c41 := c4 1 _ rfl _ hw
      have c42 := c4 2 _ rfl _ hw
      clear c4
      go_wp2
      all_goals (go_ret; exact ⟨by rw [← e.out]; rfl, hw.made_grew⟩)
  have n4 : (o.k == 3) = false := by simp [h4]
  have e : Hid (false = b) := by
    rw [Hid, ← hb.out]
    unfold OpW.ok
    rw [if_neg h1, if_neg h2, if_neg h4]
  clear h1 h2 h4 hb
  go_enter Tryz.func108, Tryz.ntmps108
  go_upto_region 1 with (first
    | (refine wpl_box_v (v := valW o) rfl hw ?_; clear hw; intro g1 w1 hw))
  obtain ⟨c0, c3, c4⟩ := opW_facts hw
  replace c0 := c0 _ hw
  replace c3 := c3 _ hw
  have c40 := c4 0 _ rfl _ hw
  have c41 := c4 1 _ rfl _ hw
  have c42 := c4 2 _ rfl _ hw
  clear c4
  go_wp2
  all_goals (go_ret; exact ⟨by rw [← e.out]; rfl, hw.made_grew⟩)
end Go.Proofs.YtiafdlofcjbllaaGreatDoor
