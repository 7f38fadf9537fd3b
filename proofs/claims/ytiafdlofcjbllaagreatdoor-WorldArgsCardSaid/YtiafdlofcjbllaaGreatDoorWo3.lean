/-
  Contracts of lazy.Queue (New, Len, Add, Drain, All) and of slices.Clone over Ops.
-/
import Derived.Test.YtiafdlofcjbllaaGreatDoorWo2
set_option maxRecDepth 100000
namespace Go.Proofs.YtiafdlofcjbllaaGreatDoor
open Go Go.RowKit
attribute [local irreducible] wpList Calls Code.wp
theorem elemW : ElemOk Tryz.prog 57 99 7 56 := ElemOk.of Tryz.underlying57 (z := valW ⟨0, (0, 0), 0, V3.z⟩) (by kernel_rfl) rfl (by decide)
theorem sizeSW : (Tryz.prog.info? 57).map (·.size) = some 1 := by kernel_rfl
theorem St.own_no {w0 w : World} {A : Option Addr} {n cap : Nat} {e : TypeId} {size : Nat} {xs : List Value} {L : List As} (hs : St w0 (own A n cap e size xs :: L) w) : A = none → n = 0 ∧ cap = 0 :=
  hs.fact fun _ h hA => by
    rcases h.2 with ⟨_, h0, h1, _⟩ | ⟨g, cur, hB, _⟩
    · exact ⟨h0, h1⟩
    · rw [hA] at hB; cases hB
theorem Wr.qu {w0 : World} {L : List As} {Q : Nat} {t : TypeId} {u v : Value} : Wr w0 (YtiafdlofcjbllaaGreatDoor.blk Q #[u] t :: L) ⟨Q, 0, none⟩ v (YtiafdlofcjbllaaGreatDoor.blk Q #[v] t :: L) := Wr.blk (by simp)
theorem c7_one (l : List OpW) : ∀ u ∈ l.flatMap c7w, u.oneCell' = true := by
  intro u hu
  obtain ⟨o, _, h⟩ := List.mem_flatMap.1 hu
  simp only [c7w, List.mem_cons, List.not_mem_nil, or_false] at h
  rcases h with rfl | rfl | rfl | rfl | rfl | rfl | rfl <;> rfl
theorem c7_len (l : List OpW) : (l.flatMap c7w).length = l.length * 7 := flat_len c7len l
/-- A queue: what waits. -/
def QuB (Q : Nat) (l : List OpW) : As := fun h => ∃ (A : Option Addr) (cap : Nat), big [blk Q #[.slice A l.length cap] 199, own A l.length cap 99 7 (l.flatMap c7w)] h
section
variable {w0 w : World} {L : List As} {Q : Nat} {l : List OpW}
theorem St.quopen (hs : St w0 (QuB Q l :: L) w) : ∃ (A : Option Addr) (cap : Nat), St w0 (YtiafdlofcjbllaaGreatDoor.blk Q #[.slice A l.length cap] 199 :: YtiafdlofcjbllaaGreatDoor.own A l.length cap 99 7 (l.flatMap c7w) :: L) w := by
  obtain ⟨hb, x, r, hd, hx, y, z, hyz, e, ⟨A, cap, hh⟩, hz⟩ := hs
  refine ⟨A, cap, ?_⟩
  have h1 : St w0 (big [YtiafdlofcjbllaaGreatDoor.blk Q #[.slice A l.length cap] 199, YtiafdlofcjbllaaGreatDoor.own A l.length cap 99 7 (l.flatMap c7w)] :: L) w := ⟨hb, x, r, hd, hx, y, z, hyz, e, hh, hz⟩
  exact h1.ent (Ent.flat _ L)
theorem St.qushut {n : Nat} {A : Option Addr} {cap : Nat} (hn : l.length = n) (hs : St w0 (YtiafdlofcjbllaaGreatDoor.blk Q #[.slice A n cap] 199 :: YtiafdlofcjbllaaGreatDoor.own A n cap 99 7 (l.flatMap c7w) :: L) w) : St w0 (QuB Q l :: L) w := by
  subst hn
  exact (hs.ent (Ent.unflat [_, _] L)).conv fun _ h => ⟨A, cap, h⟩
end
theorem qnew_c {w0 w : World} {L : List As} (hs : St w0 L w) : Calls Tryz.prog 101 #[] w fun e w' => ∃ Q, e = .returned (.pointer (some ⟨Q, 0, none⟩)) ∧ St w0 (QuB Q [] :: L) w' := by
  have hs := hs.own_nil 99 7
  go_enter Tryz.func101, Tryz.ntmps101
  go_wp2_with (first
    | (refine wpl_box_v (v := .agg #[.slice none 0 0]) rfl hs ?_; clear hs; intro g1 w1 hs))
  go_ret
  exact ⟨g1, rfl, St.qushut rfl hs⟩
theorem qlen_c {w0 w : World} {L : List As} {Q : Nat} {l : List OpW} (hs : St w0 (QuB Q l :: L) w) : Calls Tryz.prog 57 #[.pointer (some ⟨Q, 0, none⟩)] w fun e w' => e = .returned (.int .i64 (l.length : Nat)) ∧ Grew w w' := by
  obtain ⟨A, cap, hs⟩ := hs.quopen
  have c0 := Rd.blk (w0 := w0) (g := Q) (k := 0) (cs := #[.slice A l.length cap]) (t := 199) (v := .slice A l.length cap) rfl _ hs
  obtain ⟨n, hn⟩ : ∃ n, Hid (l.length = n) := ⟨_, rfl⟩
  rw [hn.out] at c0 ⊢
  clear hs
  go_enter Tryz.func57, Tryz.ntmps57
  go_wp2
  go_ret
  exact ⟨rfl, Grew.refl _⟩
theorem eqlW_nil (w : World) : (binOp .eql 57 (.slice none 0 0) (.slice none 0 0)).run Tryz.prog w = .ok (.bool true) w := by kernel_rfl
theorem eqlW_some (a : Addr) (n cap : Nat) (w : World) : (binOp .eql 57 (.slice (some a) n cap) (.slice none 0 0)).run Tryz.prog w = .ok (.bool false) w := by kernel_rfl
theorem cloneW_c {w0 w : World} {L : List As} {A : Option Addr} {n cap : Nat} {l : List OpW} (hA : A = none → n = 0 ∧ cap = 0) (hn : l.length = n) (hm : n ≤ 1000000) (hs : St w0 L w) (hr : RdS w0 L A (l.flatMap c7w)) :
    Calls Tryz.prog 157 #[.slice A n cap] w fun e w' => ∃ B cap', e = .returned (.slice B n cap') ∧ St w0 (own B n cap' 99 7 (l.flatMap c7w) :: L) w' := by
  have HN := Lib.hid hn
  clear hn
  cases A with
  | none =>
    obtain ⟨rfl, rfl⟩ := hA rfl
    have he := eqlW_nil
    have hl : l = [] := List.eq_nil_of_length_eq_zero HN.out
    subst hl
    have hs2 := Lib.hid (hs.own_nil 99 7)
    clear hA hr
    go_enter Tryz.func157, Tryz.ntmps157
    go_wp2
    go_ret
    exact ⟨none, 0, rfl, hs2.out⟩
  | some a =>
    have he := eqlW_some a n cap
    clear hA
    go_enter Tryz.func157, Tryz.ntmps157
    go_wp2_with (first
      | (refine wpl_build_none elemW hs ?_; clear hs; intro B w hs)
      | (refine wpl_append (n := 0) (m := n) (news := l.flatMap c7w) elemW rfl rfl hs (Ent.refl _) hr.tail (by rw [c7_len, HN.out]) (c7_one _) (by unfold maxLen; omega) (by omega) ?_; clear hs; intro B2 cap2 w hs))
    go_ret
    rw [Nat.zero_add, List.nil_append] at hs
    exact ⟨B2, cap2, by first | rfl | (rw [Nat.zero_add]; rfl), hs⟩
/-- What Add answers. -/
def quE (l q : List OpW) : Int := if l.any (fun o => !o.ok) then 1 else if 10000 < q.length + l.length then 2 else 0
theorem qadd_c {w0 w : World} {L : List As} {Q : Nat} {q l : List OpW} {D : Option Addr} {cap : Nat} (hq : q.length ≤ 10000) (hl : l.length ≤ 1000000) (hs : St w0 (QuB Q q :: L) w) (hr : RdS w0 L D (l.flatMap c7w)) :
    Calls Tryz.prog 110 #[.pointer (some ⟨Q, 0, none⟩), .slice D l.length cap] w fun e w' => e = .returned (.int .i64 (quE l q)) ∧ St w0 (QuB Q (if quE l q = 0 then q ++ l else q) :: L) w' := by
  have hr2 : RdS w0 (QuB Q q :: L) D (l.flatMap c7w) := hr.tail
  have HB := Lib.hid (containsA_c (cap := cap) (by omega) hs hr2)
  by_cases h1 : l.any (fun o => !o.ok) = true
  · have e : quE l q = 1 := by unfold quE; rw [if_pos h1]
    rw [h1] at HB
    rw [e, if_neg (by decide)]
    generalize l.length = n at HB ⊢
    clear h1 e hr hr2
    go_enter Tryz.func110, Tryz.ntmps110
    go_wp2_with (first
      | (go_at_call 106; refine HB.out.mono ?_; rintro r w' ⟨rfl, hg⟩))
    go_ret
    exact ⟨rfl, hs.grew hg⟩
  replace h1 : l.any (fun o => !o.ok) = false := by simpa using h1
  rw [h1] at HB
  obtain ⟨n, hn⟩ : ∃ n, Hid (l.length = n) := ⟨_, rfl⟩
  obtain ⟨m, hm⟩ : ∃ m, Hid (q.length = m) := ⟨_, rfl⟩
  by_cases h2 : 10000 < q.length + l.length
  · have e : quE l q = 2 := by unfold quE; rw [h1, if_pos h2]; rfl
    rw [e, if_neg (by decide)]
    have d : decide ((n : Int) > 10000 - (m : Int)) = true := decide_eq_true (by rw [hn.out, hm.out] at h2; omega)
    have hw : m ≤ 10000 := hm.out ▸ hq
    obtain ⟨A, c, hs3⟩ := hs.quopen
    clear hs3
    rw [hn.out] at HB ⊢
    clear h1 e hr hr2 h2 hq hl
    go_enter Tryz.func110, Tryz.ntmps110
    go_wp2_with (first
      | (go_at_call 106; refine HB.out.mono ?_; rintro r w' ⟨rfl, hg⟩; have hs2 := hs.grew hg; obtain ⟨A, c, hs3⟩ := hs2.quopen; rw [hm.out] at hs3; have c0 := Rd.blk (w0 := w0) (g := Q) (k := 0) (cs := #[.slice A m c]) (t := 199) (v := .slice A m c) rfl _ hs3))
    go_ret
    exact ⟨rfl, hs2⟩
  · have e : quE l q = 0 := by unfold quE; rw [h1, if_neg h2]; rfl
    rw [e, if_pos rfl]
    have d : decide ((n : Int) > 10000 - (m : Int)) = false := decide_eq_false (by rw [hn.out, hm.out] at h2; omega)
    have hw : m ≤ 10000 := hm.out ▸ hq
    have hw2 : n ≤ 1000000 := hn.out ▸ hl
    have hln : (l.flatMap c7w).length = n * 7 := by rw [c7_len, hn.out]
    have hone := Lib.hid (c7_one l)
    rw [hn.out] at HB ⊢
    clear h1 e hr2 h2 hq hl
    go_enter Tryz.func110, Tryz.ntmps110
    go_wp2_with (first
      | (go_at_call 106; refine HB.out.mono ?_; rintro r w' ⟨rfl, hg⟩; have hs2 := hs.grew hg; obtain ⟨A, c, hs3⟩ := hs2.quopen; rw [hm.out] at hs3; have c0 := Rd.blk (w0 := w0) (g := Q) (k := 0) (cs := #[.slice A m c]) (t := 199) (v := .slice A m c) rfl _ hs3; clear hs hs2)
      | (refine wpl_append (n := m) (m := n) (news := l.flatMap c7w) (xs := q.flatMap c7w) elemW rfl rfl hs3 (Ent.swap _ _ _) hr.tail.tail hln hone.out (by unfold maxLen; omega) (by omega) ?_; clear hs3 c0; intro B2 cap2 w hs)
      | (refine wpl_store (v := .slice B2 (m + n) cap2) rfl rfl rfl sizeSW hs.rot Wr.qu ?_; clear hs; intro w hs))
    go_ret
    refine ⟨rfl, St.qushut (n := m + n) (A := B2) (cap := cap2) (by rw [List.length_append, hn.out, hm.out]) ?_⟩
    rw [List.flatMap_append]
    exact hs
theorem qdrain_c {w0 w : World} {L : List As} {Q : Nat} {q : List OpW} (hs : St w0 (QuB Q q :: L) w) :
    Calls Tryz.prog 111 #[.pointer (some ⟨Q, 0, none⟩)] w fun e w' => ∃ A cap, e = .returned (.slice A q.length cap) ∧ St w0 (QuB Q [] :: own A q.length cap 99 7 (q.flatMap c7w) :: L) w' := by
  obtain ⟨A, cap, hs⟩ := hs.quopen
  have c0 := Rd.blk (w0 := w0) (g := Q) (k := 0) (cs := #[.slice A q.length cap]) (t := 199) (v := .slice A q.length cap) rfl _ hs
  obtain ⟨n, hn⟩ : ∃ n, Hid (q.length = n) := ⟨_, rfl⟩
  rw [hn.out] at c0 hs ⊢
  go_enter Tryz.func111, Tryz.ntmps111
  go_wp2_with (first
    | (refine wpl_store (v := .slice none 0 0) rfl rfl rfl sizeSW hs Wr.qu ?_; clear hs c0; intro w hs))
  go_ret
  exact ⟨A, cap, rfl, St.qushut rfl ((hs.ent (Ent.swap _ _ _)).own_nil 99 7 |>.ent (by (repeat first | exact Ent.refl _ | refine Ent.step (by repeat first | exact Ent.refl _ | apply Ent.skip) ?_)))⟩
theorem qall_c {w0 w : World} {L : List As} {Q : Nat} {q : List OpW} (hq : q.length ≤ 10000) (hs : St w0 (QuB Q q :: L) w) :
    Calls Tryz.prog 124 #[.pointer (some ⟨Q, 0, none⟩)] w fun e w' => ∃ A cap, e = .returned (.slice A q.length cap) ∧ St w0 (own A q.length cap 99 7 (q.flatMap c7w) :: QuB Q q :: L) w' := by
  obtain ⟨A, cap, hs⟩ := hs.quopen
  have c0 := Rd.blk (w0 := w0) (g := Q) (k := 0) (cs := #[.slice A q.length cap]) (t := 199) (v := .slice A q.length cap) rfl _ hs
  have hcap : A = none → q.length = 0 ∧ cap = 0 := hs.drop.own_no
  have HB := Lib.hid (cloneW_c (l := q) hcap rfl (by omega) hs (RdS.own hs.drop).tail)
  obtain ⟨n, hn⟩ : ∃ n, Hid (q.length = n) := ⟨_, rfl⟩
  rw [hn.out] at HB c0 hs ⊢
  go_enter Tryz.func124, Tryz.ntmps124
  go_wp2_with (first
    | (go_at_call 157; refine HB.out.mono ?_; clear hs c0; rintro r w ⟨B, cB, rfl, hs⟩))
  go_ret
  have hs2 := hs.ent (M := _ :: _ :: _ :: L) ((Ent.swap _ _ _).trans ((Ent.cons _ (Ent.swap _ _ _))))
  exact ⟨B, cB, rfl, (St.qushut hn.out hs2).rot⟩
end Go.Proofs.YtiafdlofcjbllaaGreatDoor
