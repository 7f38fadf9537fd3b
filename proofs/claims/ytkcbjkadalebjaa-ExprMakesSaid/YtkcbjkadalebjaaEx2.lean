/-
  Expressions (expr.Arena), 2: the memory of an Arena; the test of kids.
-/
import Derived.Test.YtkcbjkadalebjaaEx
import Derived.Deep.DeepCutAuto
import Derived.Deep.CutBlock
set_option maxRecDepth 100000
namespace Go.Proofs.Ytkcbjkadalebjaa
open Go Go.RowKit
attribute [local irreducible] wpList Calls Code.wp

section
variable {w0 w : World} {a b c d e f g : As} {L : List As}
theorem St.up2 (hs : St w0 (a :: b :: c :: L) w) : St w0 (c :: a :: b :: L) w := hs.ent (Ent.pull c [a, b] L)
theorem St.dn2 (hs : St w0 (c :: a :: b :: L) w) : St w0 (a :: b :: c :: L) w := hs.ent (Ent.push c [a, b] L)
theorem St.up3 (hs : St w0 (a :: b :: c :: d :: L) w) : St w0 (d :: a :: b :: c :: L) w := hs.ent (Ent.pull d [a, b, c] L)
theorem St.dn3 (hs : St w0 (d :: a :: b :: c :: L) w) : St w0 (a :: b :: c :: d :: L) w := hs.ent (Ent.push d [a, b, c] L)
theorem St.up4 (hs : St w0 (a :: b :: c :: d :: e :: L) w) : St w0 (e :: a :: b :: c :: d :: L) w := hs.ent (Ent.pull e [a, b, c, d] L)
theorem St.dn4 (hs : St w0 (e :: a :: b :: c :: d :: L) w) : St w0 (a :: b :: c :: d :: e :: L) w := hs.ent (Ent.push e [a, b, c, d] L)
end
theorem Ent.unflat : ∀ (M L : List As), Ent (M ++ L) (big M :: L)
  | [], _ => fun _ h => emp_star h
  | _ :: M, L => fun _ h => star_assoc' (star_mono (fun _ y => y) (fun x => Ent.unflat M L x) h)
abbrev ptr (g : Nat) : Value := .pointer (some ⟨g, 0, none⟩)

/-! ### The test of kids -/
def bad (n : Nat) (x : Int) : Bool := decide (x < 0) || decide ((n : Int) ≤ x)
def clo (g : Nat) : Value := .func (Fn.func 48) #[] #[ptr g]
theorem any_take {n : Nat} {l : List Int} {k : Nat} {x : Int} (hk : l[k]? = some x) : (l.take (k + 1)).any (bad n) = ((l.take k).any (bad n) || bad n x) := by
  obtain ⟨hl, he⟩ := List.getElem?_eq_some_iff.1 hk
  rw [List.take_succ_eq_append_getElem hl, he, List.any_append]
  simp
theorem indexf_c {w : World} {g D : Nat} {A N : Option Addr} {m cap n cap2 : Nat} {l : List Int} (hm : Hid (l.length = m)) (hm2 : m ≤ 4000000000) (hr : ∀ k x, l[k]? = some x → ∃ b o, A = some ⟨b, o, none⟩ ∧ w.cell? ⟨b, o + k, none⟩ = some (.int .i64 x))
    (hg : w.cell? ⟨g, 0, none⟩ = some (ptr D)) (hD : w.cell? ⟨D, 0, none⟩ = some (.slice N n cap2)) :
    Calls Try.prog 58 #[.slice A m cap, clo g] w fun e w' => ∃ z, e = .returned (.int .i64 z) ∧ decide (0 ≤ z) = l.any (bad n) ∧ w' = w := by
  unfold clo ptr at *
  go_enter Try.func58, Try.ntmps58
  go_wp2
  go_loopw [8] (fun cv wr => ∃ k : Nat, k ≤ m ∧ cv = .int .i64 (k : Nat) ∧ Hid ((l.take k).any (bad n) = false) ∧ w = wr) (fun cv _ => m - (intOf cv).toNat)
  case atStart => exact ⟨0, Nat.zero_le _, rfl, rfl, rfl⟩
  case round =>
    obtain ⟨k, hk, rfl, HT, rfl⟩ := hrel
    by_cases hlt : k < m
    · obtain ⟨x, hx⟩ : ∃ x, l[k]? = some x := ⟨_, List.getElem?_eq_getElem (by rw [hm.out]; exact hlt)⟩
      obtain ⟨b, o, rfl, hc⟩ := hr k x hx
      have HN := Lib.hid (any_take (n := n) hx)
      clear hr hx
      have hb1 : ∀ y : Int, bad n x = true → decide (0 ≤ ((k : Nat) : Int)) = l.any (bad n) := fun _ hb => by
        rw [decide_eq_true (Int.natCast_nonneg k)]
        symm
        have h3 := HN.out
        rw [hb, Bool.or_true] at h3
        rw [← List.take_append_drop (k + 1) l, List.any_append, h3, Bool.true_or]
      by_cases h1 : x < 0
      · have hb := hb1 0 (by unfold bad; rw [decide_eq_true h1, Bool.true_or])
        clear hb1
        go_wp2
        go_ret
        exact ⟨_, rfl, hb, rfl⟩
      · by_cases h3 : (n : Int) ≤ x
        · have hb := hb1 0 (by unfold bad; rw [decide_eq_true h3, Bool.or_true])
          clear hb1
          go_wp2
          go_ret
          exact ⟨_, rfl, hb, rfl⟩
        · have HT2 : Hid ((l.take (k + 1)).any (bad n) = false) := by
            rw [Hid, HN.out, HT.out]
            unfold bad
            rw [decide_eq_false h1, decide_eq_false h3]
            rfl
          clear hb1
          go_wp2
          go_roundw
          case rel => exact ⟨k + 1, by omega, rfl, HT2, trivial⟩
          case measure => simp [intOf] <;> omega
    · have hkm : k = m := by omega
      subst hkm
      go_wp2
      go_ret
      have h3 := HT.out
      rw [List.take_of_length_le (by rw [hm.out]; exact Nat.le_refl _)] at h3
      exact ⟨_, rfl, h3.symm, rfl⟩
theorem containsf_c {w : World} {g D : Nat} {A N : Option Addr} {m cap n cap2 : Nat} {l : List Int} (hm : Hid (l.length = m)) (hm2 : m ≤ 4000000000) (hr : ∀ k x, l[k]? = some x → ∃ b o, A = some ⟨b, o, none⟩ ∧ w.cell? ⟨b, o + k, none⟩ = some (.int .i64 x))
    (hg : w.cell? ⟨g, 0, none⟩ = some (ptr D)) (hD : w.cell? ⟨D, 0, none⟩ = some (.slice N n cap2)) :
    Calls Try.prog 49 #[.slice A m cap, clo g] w fun e w' => e = .returned (.bool (l.any (bad n))) ∧ w' = w := by
  generalize hcl : clo g = cl
  go_enter Try.func49, Try.ntmps49
  go_wp2_with (first
    | (go_at_call 58; subst hcl; refine (indexf_c hm hm2 hr hg hD).mono ?_; rintro e w' ⟨z, rfl, hz, rfl⟩))
  go_ret
  exact ⟨rfl, rfl⟩
end Go.Proofs.Ytkcbjkadalebjaa
