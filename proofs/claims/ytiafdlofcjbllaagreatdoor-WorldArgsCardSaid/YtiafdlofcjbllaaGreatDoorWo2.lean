/-
  slices.ContainsFunc over Ops with each of the three functions that World.Defer and Queue.Add hand over.
-/
import Derived.Test.YtiafdlofcjbllaaGreatDoorWo1
set_option maxRecDepth 100000
namespace Go.Proofs.YtiafdlofcjbllaaGreatDoor
open Go Go.RowKit
attribute [local irreducible] wpList Calls Code.wp
theorem c7len (o : OpW) : (c7w o).length = 7 := rfl
theorem opW_rd {w0 : World} {L : List As} {g : Nat} (o : OpW) : ∀ j x, (c7w o)[j]? = some x → Rd w0 (blk g (valW o).cells 99 :: L) ⟨g, 0 + j, none⟩ x := fun j x hx => by
  rw [Nat.zero_add]
  exact Rd.blk (by rw [show (valW o).cells = (c7w o).toArray from rfl, List.getElem?_toArray]; exact hx)
theorem any_take {α : Type} {p : α → Bool} {l : List α} {k : Nat} {x : α} (hx : l[k]? = some x) : (l.take (k + 1)).any p = ((l.take k).any p || p x) := by
  rw [List.take_add_one, hx]; simp
theorem any_of {α : Type} {p : α → Bool} {l : List α} {k : Nat} {x : α} (hx : l[k]? = some x) (h : p x = true) : l.any p = true :=
  List.any_eq_true.2 ⟨x, List.mem_of_getElem? hx, h⟩
theorem nokA_c {w : World} (o : OpW) : Calls Tryz.prog 149 #[valW o] w fun e w' => e = .returned (.bool (!o.ok)) ∧ Grew w w' := by
  have hw := St.start w
  have hv := fun w => wok_c (w := w) o
  go_enter Tryz.func149, Tryz.ntmps149
  go_upto_region 1 with (first
    | (refine wpl_box_v (v := valW o) rfl hw ?_; clear hw; intro g1 w1 hw))
  go_wp2_with (first
    | (refine wpl_load_agg (cs := c7w o) (b := g1) (o := 0) rfl aggW (sizeW o) hw (opW_rd o) ?_)
    | (go_at_call 108; refine (hv _).mono ?_; rintro r w' ⟨rfl, hg⟩))
  go_ret
  exact ⟨rfl, hw.made_grew.trans hg⟩
theorem indexA_c {w w0 : World} {L : List As} {l : List OpW} {D : Option Addr} {cap : Nat} (hl : l.length ≤ 4000000000) (hs : St w0 L w) (hr : RdS w0 L D (l.flatMap c7w)) :
    Calls Tryz.prog 147 #[.slice D l.length cap, .func (Fn.func 149) #[] #[]] w fun r w' => ∃ i : Int, r = .returned (.int .i64 i) ∧ decide (i ≥ 0) = l.any (fun o => !o.ok) ∧ Grew w w' := by
  have HB := Lib.hid (fun w o => nokA_c (w := w) o)
  obtain ⟨n, hn⟩ : ∃ n, Hid (l.length = n) := ⟨_, rfl⟩
  rw [hn.out]
  have hl' : n ≤ 4000000000 := hn.out ▸ hl
  clear hl
  go_enter Tryz.func147, Tryz.ntmps147
  go_wp2
  go_loopw [8] (fun cv wr => ∃ k : Nat, k ≤ n ∧ Hid ((l.take k).any (fun o => !o.ok) = false) ∧ cv = .int .i64 (k : Nat) ∧ Grew w wr) (fun cv _ => n - (intOf cv).toNat)
  case atStart => exact ⟨0, by omega, rfl, rfl, Grew.refl _⟩
  case round =>
    obtain ⟨k, hk, hf, rfl, hg⟩ := hrel
    by_cases hkn : k < n
    · obtain ⟨o, ho⟩ : ∃ o, Hid (l[k]? = some o) := ⟨l[k]'(by rw [hn.out]; exact hkn), List.getElem?_eq_getElem _⟩
      have hs2 := hs.grew hg
      obtain ⟨ad, rfl, hsp, _⟩ := hr (k * 7) (.int .i64 o.k) (flat_get c7len ho.out 0 _ rfl)
      obtain ⟨gb, off, sp⟩ := ad
      obtain rfl : sp = none := hsp
      have hrd : ∀ j u, (c7w o)[j]? = some u → Rd w0 L ⟨gb, off + k * 7 + j, none⟩ u := fun j u hu => by
        obtain ⟨ad, hh, _, h⟩ := hr (k * 7 + j) u (flat_get c7len ho.out j u hu)
        injection hh with hh
        subst hh
        rwa [Nat.add_assoc]
      obtain ⟨b, hb⟩ : ∃ b, Hid ((fun o => !o.ok) o = b) := ⟨_, rfl⟩
      have HC : Hid (∀ w, Calls Tryz.prog 149 #[valW o] w fun e w' => e = .returned (.bool b) ∧ Grew w w') := fun w => by rw [← hb.out]; exact HB.out w o
      cases b
      · go_wp2_with (first
          | (refine wpl_load_agg (cs := c7w o) (b := gb) (o := off + k * 7) rfl aggW (sizeW o) hs2 hrd ?_)
          | (go_at_call 149; refine (HC.out _).mono ?_; rintro r w' ⟨rfl, hg2⟩))
        go_roundw
        case rel => exact ⟨k + 1, by omega, by rw [Hid, any_take ho.out, hf.out, hb.out]; rfl, by simp, hg.trans hg2⟩
        case measure => simp [intOf]; omega
      · go_wp2_with (first
          | (refine wpl_load_agg (cs := c7w o) (b := gb) (o := off + k * 7) rfl aggW (sizeW o) hs2 hrd ?_)
          | (go_at_call 149; refine (HC.out _).mono ?_; rintro r w' ⟨rfl, hg2⟩))
        go_ret
        exact ⟨(k : Nat), rfl, by rw [any_of ho.out hb.out]; simp, hg.trans hg2⟩
    · obtain rfl : k = n := by omega
      go_wp2
      go_ret
      exact ⟨-1, rfl, by rw [← hn.out, List.take_length] at hf; rw [hf.out]; rfl, hg⟩
theorem containsA_c {w w0 : World} {L : List As} {l : List OpW} {D : Option Addr} {cap : Nat} (hl : l.length ≤ 4000000000) (hs : St w0 L w) (hr : RdS w0 L D (l.flatMap c7w)) :
    Calls Tryz.prog 106 #[.slice D l.length cap, .func (Fn.func 149) #[] #[]] w fun r w' => r = .returned (.bool (l.any (fun o => !o.ok))) ∧ Grew w w' := by
  have HB := Lib.hid (indexA_c (cap := cap) hl hs hr)
  obtain ⟨n, hn⟩ : ∃ n, Hid (l.length = n) := ⟨_, rfl⟩
  rw [hn.out] at HB ⊢
  obtain ⟨b, hb⟩ : ∃ b, Hid (l.any (fun o => !o.ok) = b) := ⟨_, rfl⟩
  rw [hb.out] at HB ⊢
  clear hl hr
  go_enter Tryz.func106, Tryz.ntmps106
  go_wp2_with (first
    | (go_at_call 147; refine HB.out.mono ?_; rintro r w' ⟨i, rfl, hi, hg⟩))
  go_ret
  exact ⟨by rw [← hi]; rfl, hg⟩
theorem nokD_c {w : World} (o : OpW) : Calls Tryz.prog 107 #[valW o] w fun e w' => e = .returned (.bool (!o.ok)) ∧ Grew w w' := by
  have hw := St.start w
  have hv := fun w => wok_c (w := w) o
  go_enter Tryz.func107, Tryz.ntmps107
  go_upto_region 1 with (first
    | (refine wpl_box_v (v := valW o) rfl hw ?_; clear hw; intro g1 w1 hw))
  go_wp2_with (first
    | (refine wpl_load_agg (cs := c7w o) (b := g1) (o := 0) rfl aggW (sizeW o) hw (opW_rd o) ?_)
    | (go_at_call 108; refine (hv _).mono ?_; rintro r w' ⟨rfl, hg⟩))
  go_ret
  exact ⟨rfl, hw.made_grew.trans hg⟩
theorem indexD_c {w w0 : World} {L : List As} {l : List OpW} {D : Option Addr} {cap : Nat} (hl : l.length ≤ 4000000000) (hs : St w0 L w) (hr : RdS w0 L D (l.flatMap c7w)) :
    Calls Tryz.prog 147 #[.slice D l.length cap, .func (Fn.func 107) #[] #[]] w fun r w' => ∃ i : Int, r = .returned (.int .i64 i) ∧ decide (i ≥ 0) = l.any (fun o => !o.ok) ∧ Grew w w' := by
  have HB := Lib.hid (fun w o => nokD_c (w := w) o)
  obtain ⟨n, hn⟩ : ∃ n, Hid (l.length = n) := ⟨_, rfl⟩
  rw [hn.out]
  have hl' : n ≤ 4000000000 := hn.out ▸ hl
  clear hl
  go_enter Tryz.func147, Tryz.ntmps147
  go_wp2
  go_loopw [8] (fun cv wr => ∃ k : Nat, k ≤ n ∧ Hid ((l.take k).any (fun o => !o.ok) = false) ∧ cv = .int .i64 (k : Nat) ∧ Grew w wr) (fun cv _ => n - (intOf cv).toNat)
  case atStart => exact ⟨0, by omega, rfl, rfl, Grew.refl _⟩
  case round =>
    obtain ⟨k, hk, hf, rfl, hg⟩ := hrel
    by_cases hkn : k < n
    · obtain ⟨o, ho⟩ : ∃ o, Hid (l[k]? = some o) := ⟨l[k]'(by rw [hn.out]; exact hkn), List.getElem?_eq_getElem _⟩
      have hs2 := hs.grew hg
      obtain ⟨ad, rfl, hsp, _⟩ := hr (k * 7) (.int .i64 o.k) (flat_get c7len ho.out 0 _ rfl)
      obtain ⟨gb, off, sp⟩ := ad
      obtain rfl : sp = none := hsp
      have hrd : ∀ j u, (c7w o)[j]? = some u → Rd w0 L ⟨gb, off + k * 7 + j, none⟩ u := fun j u hu => by
        obtain ⟨ad, hh, _, h⟩ := hr (k * 7 + j) u (flat_get c7len ho.out j u hu)
        injection hh with hh
        subst hh
        rwa [Nat.add_assoc]
      obtain ⟨b, hb⟩ : ∃ b, Hid ((fun o => !o.ok) o = b) := ⟨_, rfl⟩
      have HC : Hid (∀ w, Calls Tryz.prog 107 #[valW o] w fun e w' => e = .returned (.bool b) ∧ Grew w w') := fun w => by rw [← hb.out]; exact HB.out w o
      cases b
      · go_wp2_with (first
          | (refine wpl_load_agg (cs := c7w o) (b := gb) (o := off + k * 7) rfl aggW (sizeW o) hs2 hrd ?_)
          | (go_at_call 107; refine (HC.out _).mono ?_; rintro r w' ⟨rfl, hg2⟩))
        go_roundw
        case rel => exact ⟨k + 1, by omega, by rw [Hid, any_take ho.out, hf.out, hb.out]; rfl, by simp, hg.trans hg2⟩
        case measure => simp [intOf]; omega
      · go_wp2_with (first
          | (refine wpl_load_agg (cs := c7w o) (b := gb) (o := off + k * 7) rfl aggW (sizeW o) hs2 hrd ?_)
          | (go_at_call 107; refine (HC.out _).mono ?_; rintro r w' ⟨rfl, hg2⟩))
        go_ret
        exact ⟨(k : Nat), rfl, by rw [any_of ho.out hb.out]; simp, hg.trans hg2⟩
    · obtain rfl : k = n := by omega
      go_wp2
      go_ret
      exact ⟨-1, rfl, by rw [← hn.out, List.take_length] at hf; rw [hf.out]; rfl, hg⟩
theorem containsD_c {w w0 : World} {L : List As} {l : List OpW} {D : Option Addr} {cap : Nat} (hl : l.length ≤ 4000000000) (hs : St w0 L w) (hr : RdS w0 L D (l.flatMap c7w)) :
    Calls Tryz.prog 106 #[.slice D l.length cap, .func (Fn.func 107) #[] #[]] w fun r w' => r = .returned (.bool (l.any (fun o => !o.ok))) ∧ Grew w w' := by
  have HB := Lib.hid (indexD_c (cap := cap) hl hs hr)
  obtain ⟨n, hn⟩ : ∃ n, Hid (l.length = n) := ⟨_, rfl⟩
  rw [hn.out] at HB ⊢
  obtain ⟨b, hb⟩ : ∃ b, Hid (l.any (fun o => !o.ok) = b) := ⟨_, rfl⟩
  rw [hb.out] at HB ⊢
  clear hl hr
  go_enter Tryz.func106, Tryz.ntmps106
  go_wp2_with (first
    | (go_at_call 147; refine HB.out.mono ?_; rintro r w' ⟨i, rfl, hi, hg⟩))
  go_ret
  exact ⟨by rw [← hi]; rfl, hg⟩
end Go.Proofs.YtiafdlofcjbllaaGreatDoor
