/-
  EntParts: plain law. No function of the program is walked here.
-/
import Derived.Test.YtiafdlofcjbllaaDoorEnLw
import Derived.Test.YtiafdlofcjbllaaDoorJG
import Derived.Test.YtiafdlofcjbllaaDoorOpE
set_option maxRecDepth 100000
namespace Go.Proofs.YtiafdlofcjbllaaDoor
open Go Go.RowKit
theorem shr_1 {w : Nat} : (w : Int) / 2 = ((w / 2 : Nat) : Int) := by omega
/-- One thing's parts: those of a list of numbers, each with its last value. -/
structure PaI (ds : List V3) (s : EnS) (T : List Nat) (vs : List V3) (k : Nat) : Prop where
  len : s.l.length = ds.length
  live : s.live (0, 1) = 0
  srt : T.Pairwise (· < ·)
  lt : ∀ a ∈ T, a < ds.length
  at_ : ∀ (c : Nat) (x : Cmp), s.l[c]? = some x → ds[c]? = some x.2.d ∧ x.2.has 0 = decide (c ∈ T) ∧ (c ∈ T → vs[c]? = some (x.2.get 0))
  ev : EvL k s.l
  vl : vs.length = 8
section
variable {ds : List V3} {s : EnS} {T : List Nat} {vs : List V3} {k : Nat}
theorem PaI.more (h : PaI ds s T vs k) : PaI ds s T vs (k + 1) := ⟨h.len, h.live, h.srt, h.lt, h.at_, h.ev.more, h.vl⟩
theorem PaI.is_ (h : PaI ds s T vs k) {c : Nat} (hc : c < ds.length) : ∃ x, s.l[c]? = some x := ⟨_, List.getElem?_eq_getElem (by rw [h.len]; exact hc)⟩
theorem PaI.short (h : PaI ds s T vs k) (h8 : ds.length ≤ 8) : T.length ≤ 8 := Nat.le_trans (sorted_short h.srt h.lt) h8
theorem PaI.rem_no (h : PaI ds s T vs k) {c : Nat} (hc : c < ds.length) (hn : c ∉ T) : s.rem (0, 1) (c : Nat) = (V3.z, 10, s) := by
  obtain ⟨x, hx⟩ := h.is_ hc
  have h1 := (h.at_ _ _ hx).2.1
  refine EnS.rem_no (u := V3.z) (e := 10) ?_ (by decide)
  rw [EnS.get_in h.live (x := x) (by rw [EnS.slot_nat]; exact hx)]
  show (if x.2.has 0 then _ else _) = _
  rw [h1, decide_eq_false hn]; rfl
theorem PaI.rem_yes (h : PaI ds s T vs k) {c : Nat} (hc : c < ds.length) (hn : c ∈ T) : ∃ v s', vs[c]? = some v ∧ s.rem (0, 1) (c : Nat) = (v, 0, s') ∧ PaI ds s' (delS c T) vs (k + 1) := by
  obtain ⟨x, hx⟩ := h.is_ hc
  obtain ⟨h1, h2, h3⟩ := h.at_ _ _ hx
  refine ⟨x.2.get 0, ⟨s.top, s.cs, s.l.set c (x.1, x.2.take 0)⟩, h3 hn, ?_, ?_⟩
  · obtain ⟨_, y, hy, _, _, hr⟩ := EnS.rem_in (s := s) (h := (0, 1)) (c := (c : Nat)) (u := x.2.get 0) (by
      rw [EnS.get_in h.live (x := x) (by rw [EnS.slot_nat]; exact hx)]
      show (if x.2.has 0 then _ else _) = _
      rw [h2, decide_eq_true hn]; rfl)
    rw [EnS.slot_nat, hx] at hy
    injection hy with hy
    subst hy
    rw [hr]; rfl
  · refine ⟨by show (s.l.set _ _).length = _; rw [List.length_set]; exact h.len, h.live, sorted_delS h.srt, fun a ha => h.lt a (mem_delS.1 ha).1, fun q y hy => ?_, h.ev.more.set (by
      have h4 := h.ev _ (List.mem_of_getElem? hx)
      have h5 := SlS.take_len x.2 0
      show (x.2.take 0).evs.length ≤ _
      omega), h.vl⟩
    replace hy : (s.l.set c (x.1, x.2.take 0))[q]? = some y := hy
    rw [List.getElem?_set] at hy
    split at hy
    · rename_i e
      subst e
      split at hy
      · injection hy with hy
        subst hy
        refine ⟨by show ds[c]? = some (x.2.take 0).d; rw [SlS.take_d]; exact h1, ?_, fun h9 => absurd rfl (mem_delS.1 h9).2⟩
        show (x.2.take 0).has 0 = _
        rw [SlS.take_has, decide_eq_false (fun h9 => (mem_delS.1 h9).2 rfl)]; rfl
      · cases hy
    · rename_i e
      obtain ⟨h6, h7, h8⟩ := h.at_ _ _ hy
      refine ⟨h6, ?_, fun h9 => h8 (mem_delS.1 h9).1⟩
      rw [h7]
      have : q ∈ delS c T ↔ q ∈ T := by rw [mem_delS]; exact ⟨fun h => h.1, fun h => ⟨h, fun e2 => e e2.symm⟩⟩
      rw [Bool.eq_iff_iff]; simp only [decide_eq_true_eq]; exact this.symm
theorem PaI.ins (h : PaI ds s T vs k) (h8 : ds.length ≤ 8) (hok : ∀ d ∈ ds, descE d = 0) {c : Nat} (hc : c < ds.length) {d : V3} (hd : ds[c]? = some d) (a b : Int) : ∃ u s', (c ∈ T → vs[c]? = some u) ∧ s.ins (0, 1) (c : Nat) (mkV d.k a b) = (u, decide (c ∈ T), 0, s') ∧ PaI ds s' (insS c T) (vs.set c (mkV d.k a b)) (k + 1) := by
  obtain ⟨x, hx⟩ := h.is_ hc
  obtain ⟨h1, h2, h3⟩ := h.at_ _ _ hx
  obtain rfl : d = x.2.d := by rw [hd] at h1; injection h1
  have he : x.2.err 0 (mkV x.2.d.k a b) = 0 := err_fit (by decide) (hok _ (List.mem_of_getElem? hd)) a b
  refine ⟨x.2.putU 0 (mkV x.2.d.k a b), ⟨s.top, s.cs, s.l.set c (x.1, x.2.put 0 (mkV x.2.d.k a b))⟩, fun hm => ?_, ?_, ?_⟩
  · unfold SlS.putU; rw [if_pos he]; exact h3 hm
  · rw [EnS.ins_in h.live (x := x) (by rw [EnS.slot_nat]; exact hx)]
    show (_, x.2.putB 0 _, x.2.err 0 _, _) = _
    unfold SlS.putB
    rw [he, h2]
    simp
  · refine ⟨by show (s.l.set _ _).length = _; rw [List.length_set]; exact h.len, h.live, sorted_insS h.srt, fun a ha => ?_, fun q y hy => ?_, h.ev.more.set (by
      have h4 := h.ev _ (List.mem_of_getElem? hx)
      have h5 := SlS.put_len x.2 0 (mkV x.2.d.k a b)
      show (x.2.put 0 _).evs.length ≤ _
      omega), by rw [List.length_set]; exact h.vl⟩
    · rcases mem_insS.1 ha with rfl | ha
      · exact hc
      · exact h.lt a ha
    · replace hy : (s.l.set c (x.1, x.2.put 0 (mkV x.2.d.k a b)))[q]? = some y := hy
      rw [List.getElem?_set] at hy
      split at hy
      · rename_i e
        subst e
        split at hy
        · injection hy with hy
          subst hy
          refine ⟨by show ds[c]? = some (x.2.put 0 _).d; rw [SlS.put_d]; exact h1, ?_, fun _ => ?_⟩
          · show (x.2.put 0 _).has 0 = _
            rw [SlS.put_has he, decide_eq_true (mem_insS.2 (.inl rfl))]; simp
          · show _ = some ((x.2.put 0 _).get 0)
            rw [SlS.put_get he, if_pos rfl, List.getElem?_set, if_pos rfl]
            rw [if_pos (by rw [h.vl]; omega)]
        · cases hy
      · rename_i e
        obtain ⟨h6, h7, h8⟩ := h.at_ _ _ hy
        have : q ∈ insS c T ↔ q ∈ T := by rw [mem_insS]; exact ⟨fun h => h.resolve_left fun e2 => e e2.symm, .inr⟩
        refine ⟨h6, ?_, fun h9 => ?_⟩
        · rw [h7, Bool.eq_iff_iff]; simp only [decide_eq_true_eq]; exact this.symm
        · rw [List.getElem?_set, if_neg e]; exact h8 (this.1 h9)
theorem PaI.parts (h : PaI ds s T vs k) : s.parts (0, 1) = (T, 0) := by
  rw [EnS.parts_in h.live]
  show (ofN s.l 0 s.l.length, (0 : Int)) = _
  congr 1
  refine sorted_ext (List.Pairwise.filter _ List.pairwise_lt_range) h.srt fun c => ?_
  rw [mem_ofN]
  constructor
  · rintro ⟨h1, h2⟩
    obtain ⟨x, hx⟩ : ∃ x, s.l[c]? = some x := ⟨_, List.getElem?_eq_getElem h1⟩
    have h3 := (h.at_ _ _ hx).2.1
    unfold hasAt at h2
    rw [hx] at h2
    simp only at h2
    rw [h3] at h2
    simpa using h2
  · intro hc
    have h1 := h.lt c hc
    obtain ⟨x, hx⟩ := h.is_ h1
    refine ⟨by rw [h.len]; exact h1, ?_⟩
    unfold hasAt
    rw [hx]
    show x.2.has 0 = true
    rw [(h.at_ _ _ hx).2.1, decide_eq_true hc]
theorem PaI.del (h : PaI ds s T vs k) : ∃ s', s.del (0, 1) = (((T.length : Nat) : Int), 0, s') := by
  have h1 := h.parts
  rw [EnS.parts_in h.live] at h1
  injection h1 with h1 _
  rw [EnS.del_in h.live, h1]
  exact ⟨_, rfl⟩
theorem PtI.pa {c1 : List ACell} {l : List Cmp} {top : Int} (h : PtI ds l 0) (hl : (EnS.mk top c1 l).live (0, 1) = 0) : PaI ds (EnS.mk top c1 l) [] (List.replicate 8 V3.z) 0 :=
  ⟨h.len, hl, List.Pairwise.nil, (fun _ h => nomatch h), fun c x hx => ⟨(h.at_ c x hx).1, by unfold SlS.has; rw [(h.at_ c x hx).2 (Nat.zero_le _)]; rfl, (fun h => nomatch h)⟩, h.ev, rfl⟩
end
/-- The handles: one thing. -/
structure PaK (c1 : List ACell) : Prop where
  cr : giveV 1 (newA 4) = ((0, 1), 0, c1)
  live : ∀ l, (EnS.mk 2 c1 l).live (0, 1) = 0
theorem paK : ∃ c1, PaK c1 := ⟨(newA 4).set 0 (1, 1), by kernel_rfl, fun l => by kernel_rfl⟩
end Go.Proofs.YtiafdlofcjbllaaDoor
