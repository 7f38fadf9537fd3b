/-
  Things with parts (ent.Ents), 6: New; the statements' Descs.
-/
import Derived.Test.YtcnbmfaicbkhcaaGreatDoorEn4
import Derived.Deep.DeepCutAuto
set_option maxRecDepth 100000
namespace Go.Proofs.YtcnbmfaicbkhcaaGreatDoor
open Go Go.RowKit
def dscN (zs : List Int) (k : Nat) : V3 := mkD (zs.getD (3 * k) 0) (zs.getD (3 * k + 1) 0) (zs.getD (3 * k + 2) 0)
def descsN (zs : List Int) (k : Nat) : List V3 := (List.range k).map (dscN zs)
def descsL (zs : List Int) : List V3 := descsN zs (min 8 (zs.length / 3))
theorem cs3_nil : cs3 [] = [] := rfl
theorem cs3_rows (l : List V3) : cs3 l = l.flatMap c3 := rfl
attribute [local irreducible] wpList Calls Code.wp descE mkD dscN descsN descsL cs3
def errDs : Nat → List V3 → Int
  | _, [] => 0
  | k, d :: ds => if descE d = 0 then (if 64 ≤ k then 2 else errDs (k + 1) ds) else descE d
def newErr (n top : Int) (ds : List V3) : Int := if alMay n top then errDs 0 ds else 1
structure NewL (ds : List V3) (l : List Cmp) : Prop where
  len : l.length = ds.length
  at_ : ∀ (k : Nat) (x : Cmp), l[k]? = some x → ∃ d v F, ds[k]? = some d ∧ x.2 = newSl d v F
theorem NewL.nil : NewL [] [] := ⟨rfl, fun k x h => by simp at h⟩
theorem NewL.add {ds : List V3} {l : List Cmp} (h : NewL ds l) (d : V3) (X : Nat) (v : Value) (F : Option Nat) : NewL (ds ++ [d]) (l ++ [(X, newSl d v F)]) where
  len := by rw [List.length_append, List.length_append, h.len]; rfl
  at_ k x hx := by
    by_cases hk : k < l.length
    · rw [List.getElem?_append_left hk] at hx
      obtain ⟨d', v', F', h1, h2⟩ := h.at_ k x hx
      exact ⟨d', v', F', by rw [List.getElem?_append_left (by rw [← h.len]; exact hk)]; exact h1, h2⟩
    · rw [List.getElem?_append_right (by omega)] at hx
      obtain ⟨h1, h2⟩ := List.getElem?_eq_some_iff.1 hx
      have h3 : k - l.length = 0 := by simp at h1; omega
      have h4 : k - ds.length = 0 := by rw [← h.len]; exact h3
      refine ⟨d, v, F, ?_, ?_⟩
      · rw [List.getElem?_append_right (by rw [← h.len]; omega), h4]; rfl
      · rw [h3] at hx
        injection hx with hx
        rw [← hx]
theorem rgE_len {l : List Cmp} {d : V3} {k : Nat} (h : l.length = k) : rgE l d = if descE d = 0 then (if 64 ≤ k then 2 else 0) else descE d := by unfold rgE; rw [h]
def EnNew (w0 : World) (L : List As) (top : Int) (n : Nat) (ds : List V3) (e : Int) (r : Ending) (w' : World) : Prop :=
  (e = 0 ∧ ∃ E A R l, NewL ds l ∧ r = .returned (.tuple #[.pointer (some ⟨E, 0, none⟩), .int .i64 0]) ∧ St w0 (EnB E A R ⟨top, newA n, l⟩ :: L) w') ∨ (e ≠ 0 ∧ r = .returned (.tuple #[.pointer none, .int .i64 e]) ∧ St w0 L w')
theorem build_h1 (A : Nat) (w : World) : (Instr.build 153 #[(0, .pointer (some ⟨A, 0, none⟩))]).run Tryz.prog w = .ok (.agg #[.pointer (some ⟨A, 0, none⟩)]) w := by kernel_rfl
theorem build_p1 (A : Nat) (w : World) : (Instr.build 156 #[(0, .pointer (some ⟨A, 0, none⟩))]).run Tryz.prog w = .ok (.agg #[.pointer (some ⟨A, 0, none⟩)]) w := by kernel_rfl
theorem build_en (A R : Nat) (w : World) : (Instr.build 158 #[(0, .agg #[.pointer (some ⟨A, 0, none⟩)]), (1, .agg #[.pointer (some ⟨R, 0, none⟩)])]).run Tryz.prog w = .ok (.agg (enC A R)) w := by kernel_rfl
attribute [local irreducible] rgE newSl newA alMay errDs EnNew
set_option maxHeartbeats 2000000 in
theorem en_new {w0 w : World} {L : List As} (hs : St w0 L w) {n : Nat} {top : Int} (h1 : 1 ≤ n) (h2 : n ≤ 65536) (h3 : 1 ≤ top) (h4 : top ≤ 4294967295) {A : Option Addr} {m cA : Nat} {ds : List V3} (hm : Hid (ds.length = m)) (hmb : m ≤ 140737488355328) (hr : RdS w0 L A (cs3 ds)) {e : Int} (he : Hid (errDs 0 ds = e)) :
    Calls Tryz.prog 94 #[.int .i64 (n : Nat), .int .i64 top, .slice A m cA] w (EnNew w0 L top n ds e) := by
  rw [cs3_rows] at hr
  go_enter Tryz.func94, Tryz.ntmps94
  go_wp2_with (first
    | (go_at_call 176; refine (anew_c hs h1 h2 h3 h4).mono ?_; clear hs; rintro r w ⟨A1, rfl, hs⟩)
    | (go_at_call 177; refine (rg_new hs).mono ?_; clear hs; rintro r w ⟨R, rfl, hs⟩))
  clear h1 h2 h3 h4
  go_loopw [27] (fun iv wr => ∃ (k : Nat) (l : List Cmp), k ≤ m ∧ k ≤ 64 ∧ iv = .int .i64 (k : Nat) ∧ Hid (NewL (ds.take k) l) ∧ Hid (errDs k (ds.drop k) = e) ∧ St w0 (RgB R l :: AlB A1 top (newA n) :: L) wr) (fun iv _ => m - (intOf iv).toNat)
  case atStart => exact ⟨0, [], Nat.zero_le _, by decide, rfl, NewL.nil, he, hs⟩
  case round =>
    clear hs he
    obtain ⟨k, l, hk, hk64, rfl, HNL, HE, hs⟩ := hrel
    by_cases hlt : k < m
    · obtain ⟨d, hd⟩ : ∃ d, ds[k]? = some d := ⟨_, List.getElem?_eq_getElem (by rw [hm.out]; exact hlt)⟩
      have hcell := fun j x hx => hr.get (rows_get (C := 3) (encX := c3) (fun _ => rfl) hd j x hx)
      obtain ⟨b9, off, rfl, _⟩ := hcell 0 _ rfl
      have hld : ∀ j x, (c3 d)[j]? = some x → Rd w0 L ⟨b9, off + k * 3 + j, none⟩ x := fun j x hx => by
        obtain ⟨b', o', he, hr⟩ := hcell j x hx
        injection he with he
        injection he with e1 e2
        subst e1; subst e2
        rw [Nat.add_assoc]; exact hr
      have hdrop : ds.drop k = d :: ds.drop (k + 1) := by
        obtain ⟨h5, h6⟩ := List.getElem?_eq_some_iff.1 hd
        rw [List.drop_eq_getElem_cons h5, h6]
      have htake : ds.take (k + 1) = ds.take k ++ [d] := by
        obtain ⟨h5, h6⟩ := List.getElem?_eq_some_iff.1 hd
        rw [List.take_succ_eq_append_getElem h5, h6]
      have hll : Hid (l.length = k) := by rw [Hid, HNL.out.len, List.length_take, hm.out]; omega
      obtain ⟨e1, HE1⟩ : ∃ z, Hid (rgE l d = z) := ⟨_, rfl⟩
      have HEE : Hid (e1 = 0 → errDs (k + 1) (ds.drop (k + 1)) = e ∧ k < 64) := fun h0 => by
        have h5 := HE.out
        have h6 := HE1.out
        rw [rgE_len hll.out] at h6
        rw [hdrop] at h5
        unfold errDs at h5
        split at h5
        · rename_i h7
          rw [if_pos h7] at h6
          split at h5
          · rename_i h8
            rw [if_pos h8] at h6
            omega
          · exact ⟨h5, by omega⟩
        · rename_i h7
          rw [if_neg h7] at h6
          omega
      have HEN : Hid (e1 ≠ 0 → e1 = e) := fun h0 => by
        have h5 := HE.out
        have h6 := HE1.out
        rw [rgE_len hll.out] at h6
        rw [hdrop] at h5
        unfold errDs at h5
        split at h5
        · rename_i h7
          rw [if_pos h7] at h6
          split at h5
          · rename_i h8
            rw [if_pos h8] at h6
            omega
          · rename_i h8
            rw [if_neg h8] at h6
            omega
        · rename_i h7
          rw [if_neg h7] at h6
          omega
      have HT := Lib.hid htake
      clear hcell hd hdrop htake HE
      by_cases h0 : e1 = 0
      · obtain ⟨hE', hk6⟩ := HEE.out h0
        subst h0
        have HE' := Lib.hid hE'
        clear HEE HEN hE'
        go_wp2_with (first
          | (refine wpl_load_agg (cs := c3 d) (b := b9) (o := off + k * 3) rfl agg3D size3Dn hs ?hh ?_; case hh => exact fun j x hx => (hld j x hx).tail.tail)
          | (refine wpl_alloc zero3D hs ?_; clear hs; intro g12 w hs)
          | (refine wpl_store_agg (v := val3 d) rfl rfl (size3D _) hs WrA.slot3 ?_; clear hs; intro w hs)
          | (refine wpl_load3 (v := d) (g := g12) rfl (has3_slot (t := 120)) agg3D (size3Dn (v := V3.z)) hs ?_)
          | (go_at_call 178; refine (rg_add hs.rot d HE1 hll).mono ?_; clear hs; rintro r w ⟨X, v, F, rfl, hs⟩))
        have HNL' : Hid (NewL (ds.take (k + 1)) (l ++ [(X, newSl d v F)])) := by rw [HT.out]; exact HNL.out.add d X v F
        go_roundw
        case rel => exact ⟨k + 1, l ++ [(X, newSl d v F)], by omega, by omega, by first | rfl | go_num, HNL', HE', hs.rot.drop⟩
        case measure => simp [intOf] <;> omega
      · obtain rfl := HEN.out h0
        have e5 : (e1 == 0) = false := by simpa using h0
        have e6 : (e1 != 0) = true := by simpa using h0
        have H0 := Lib.hid h0
        clear HEE HEN h0
        go_wp2_with (first
          | (refine wpl_load_agg (cs := c3 d) (b := b9) (o := off + k * 3) rfl agg3D size3Dn hs ?hh ?_; case hh => exact fun j x hx => (hld j x hx).tail.tail)
          | (refine wpl_alloc zero3D hs ?_; clear hs; intro g12 w hs)
          | (refine wpl_store_agg (v := val3 d) rfl rfl (size3D _) hs WrA.slot3 ?_; clear hs; intro w hs)
          | (refine wpl_load3 (v := d) (g := g12) rfl (has3_slot (t := 120)) agg3D (size3Dn (v := V3.z)) hs ?_)
          | (go_at_call 178; refine (rg_add_no hs.rot d HE1 H0.out).mono ?_; clear hs; rintro r w ⟨rfl, hs⟩))
        go_ret2
        unfold EnNew
        exact .inr ⟨H0.out, rfl, hs.drop.drop.drop⟩
    · obtain rfl : k = m := by omega
      have HN : Hid (NewL ds l) := by
        have := HNL.out
        rwa [List.take_of_length_le (by rw [hm.out]; exact Nat.le_refl _)] at this
      have hE0 : e = 0 := by
        have := HE.out
        rw [List.drop_eq_nil_of_le (by rw [hm.out]; exact Nat.le_refl _)] at this
        unfold errDs at this
        exact this.symm
      clear HE HNL
      subst hE0
      go_wp2_with (first
        | (refine wpl_buildS (build_h1 A1) rfl ?_)
        | (refine wpl_buildS (build_p1 R) rfl ?_)
        | (refine wpl_buildS (build_en A1 R) rfl ?_)
        | (refine wpl_box_v (v := .agg (enC A1 R)) rfl hs ?_; clear hs; intro E w hs))
      go_ret2
      unfold EnNew
      refine .inl ⟨rfl, E, A1, R, l, HN.out, rfl, ?_⟩
      replace hs : St w0 (blk E (enC A1 R) 158 :: RgB R l :: AlB A1 top (newA n) :: L) w := hs
      exact St.enshut (s := ⟨top, newA n, l⟩) (hs.ent (by (repeat first | exact Ent.refl _ | refine Ent.step (by repeat first | exact Ent.refl _ | apply Ent.skip) ?_)))
theorem en_new_ok {w0 w : World} {L : List As} (hs : St w0 L w) {n : Nat} {top : Int} (h1 : 1 ≤ n) (h2 : n ≤ 65536) (h3 : 1 ≤ top) (h4 : top ≤ 4294967295) {A : Option Addr} {m cA : Nat} {ds : List V3} (hm : Hid (ds.length = m)) (hmb : m ≤ 140737488355328) (hr : RdS w0 L A (cs3 ds)) (he : Hid (errDs 0 ds = 0)) :
    Calls Tryz.prog 94 #[.int .i64 (n : Nat), .int .i64 top, .slice A m cA] w fun r w' => ∃ E A R l, Hid (NewL ds l) ∧ r = .returned (.tuple #[.pointer (some ⟨E, 0, none⟩), .int .i64 0]) ∧ St w0 (EnB E A R ⟨top, newA n, l⟩ :: L) w' :=
  (en_new hs h1 h2 h3 h4 hm hmb hr he).mono fun r w' h => by
    unfold EnNew at h
    rcases h with ⟨_, E, A, R, l, h1, h2, h3⟩ | ⟨h1, _⟩
    · exact ⟨E, A, R, l, h1, h2, h3⟩
    · exact absurd rfl h1
end Go.Proofs.YtcnbmfaicbkhcaaGreatDoor
