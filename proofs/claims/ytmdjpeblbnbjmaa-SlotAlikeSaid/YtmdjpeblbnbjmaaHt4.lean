/-
  The contracts of values found by sums (hash): New, Len, Get.
-/
import Derived.Test.YtmdjpeblbnbjmaaHt3
set_option maxRecDepth 100000
namespace Go.Proofs.Ytmdjpeblbnbjmaa
open Go Go.RowKit
attribute [local irreducible] wpList Calls Code.wp okI okN pS memS getG homeN at_

theorem elem5 : ElemOk Try.prog 136 172 5 40 := ElemOk.of Try.underlying136 (z := val5 .e) (by kernel_rfl) rfl (by decide)
theorem info5 : (Try.prog.info? 172).map (fun i => (i.zero, i.size, i.bytes)) = some (some (val5 .e), 5, 40) := by kernel_rfl
theorem size_slots : (Try.prog.info? 136).map (·.size) = some 1 := by kernel_rfl
theorem size_int1 : (Try.prog.info? 3).map (·.size) = some 1 := by kernel_rfl
theorem made5 (m : Nat) : (madeCells (val5 .e).cells (m * 5)).toList = cs5 (List.replicate m .e) := by
  have e1 : ∀ m, cs5 (List.replicate m .e) = List.replicate (m * 5) (.int .i64 0) := fun m => by
    induction m with
    | zero => rfl
    | succ m ih =>
      rw [List.replicate_succ]
      simp only [cs5, List.flatMap_cons] at ih ⊢
      rw [ih, Nat.succ_mul, Nat.add_comm, ← List.replicate_append_replicate]
      rfl
  rw [e1]
  apply List.ext_getElem
  · simp [madeCells]
  · intro i h1 h2
    rw [List.getElem_replicate]
    simp only [madeCells, Array.getElem_toList, Array.getElem_map, Array.getElem_range]
    have : i % 5 < 5 := Nat.mod_lt _ (by decide)
    show (#[Value.int .i64 0, Value.int .i64 0, Value.int .i64 0, Value.int .i64 0, Value.int .i64 0] : Array Value)[i % 5]! = _
    have h3 : i % 5 = 0 ∨ i % 5 = 1 ∨ i % 5 = 2 ∨ i % 5 = 3 ∨ i % 5 = 4 := by omega
    rcases h3 with h | h | h | h | h <;> rw [h] <;> rfl
theorem pow8 : Pow 8 := ⟨3, by decide, by decide, rfl⟩
theorem ht_new {w : World} : Calls Try.prog 49 #[] w fun e w' => ∃ D, e = .returned (.pointer (some ⟨D, 0, none⟩)) ∧ St w [HtB D [] (fun _ => V3.z)] w' := by
  have hs := St.start w
  go_enter Try.func49, Try.ntmps49
  go_wp2_with (first
    | (refine wpl_make (n := 8) Try.underlying136 info5 rfl rfl rfl (by decide) (by decide) hs ?_; clear hs; intro G w hs)
    | (refine wpl_box_v (v := .agg (htC [] 0 (some ⟨G, 0, none⟩) 8 8)) rfl hs ?_; clear hs; intro D w hs))
  go_ret
  refine ⟨D, rfl, ?_⟩
  rw [made5 8] at hs
  exact hs.htshut (l := List.replicate 8 .e) (left := 0) (HtOk.fresh pow8 _) (by decide)
theorem ht_len {w0 w : World} {L : List As} {D : Nat} {S : List Nat} {g : Nat → V3} (hs : St w0 (HtB D S g :: L) w) :
    Calls Try.prog 95 #[.pointer (some ⟨D, 0, none⟩)] w fun e w' => e = .returned (.int .i64 (S.length : Nat)) ∧ Grew w w' := by
  obtain ⟨l, left, A, cap, hok, hs⟩ := hs.htopen
  have hc := Rd.ht0 w hs
  clear hok
  go_enter Try.func95, Try.ntmps95
  go_wp2
  go_ret
  exact ⟨rfl, Grew.refl _⟩
theorem HtOk.room2 {n : Nat} {l : List HS} {S : List Nat} {g : Nat → V3} {left : Nat} (h : HtOk n l S g left) (hr : 4 * (S.length + left) ≤ 3 * l.length) : S.length + left < n := by
  have := h.pow.pos
  have := h.len
  omega
theorem find_in_v {w0 w : World} {L : List As} {D left n : Nat} {S : List Nat} {g : Nat → V3} {l : List HS} {A : Option Addr} {cap i p : Nat} {v : V3} (hs : St w0 (blk D (htC S left A n cap) 140 :: own A n cap 172 5 (cs5 l) :: L) w) (hok : Hid (HtOk n l S g left)) (hi : i < 65536) (hp : Hid (l[p]? = some (HS.f i v))) :
    Calls Try.prog 99 #[.pointer (some ⟨D, 0, none⟩), .int .i64 (i : Nat)] w fun e w' => e = .returned (.tuple #[.int .i64 (p : Nat), .int .i64 (-1)]) ∧ Grew w w' := find_in hs hok.out hi hp.out
theorem ht_get_in {w0 w : World} {L : List As} {D : Nat} {S : List Nat} {g : Nat → V3} (hs : St w0 (HtB D S g :: L) w) {i : Nat} (hi : i ∈ S) :
    Calls Try.prog 94 #[.pointer (some ⟨D, 0, none⟩), .int .i64 (i : Nat)] w fun e w' => e = .returned (.tuple #[val3 (g i), .bool true]) ∧ Grew w w' := by
  obtain ⟨l, left, A, cap, ⟨hok, hrm⟩, hs⟩ := hs.htopen
  obtain ⟨p, hp⟩ := hok.has i hi
  have hi6 := hok.small i hi
  have hpl := (List.getElem?_eq_some_iff.1 hp).1
  obtain ⟨gA, rfl⟩ := (hs.ent (Ent.swap _ _ _)).own_at (by omega)
  generalize g i = v at hp ⊢
  have hrv := fun k u hu => (Rd.row5 (w0 := w0) (g := gA) (n := l.length) (cap := cap) (t := 172) (L := L) hp k u hu).tail (p := blk D (htC S left (some ⟨gA, 0, none⟩) l.length cap) 140)
  have hrv3 : ∀ k u, (c3 v)[k]? = some u → Rd w0 (blk D (htC S left (some ⟨gA, 0, none⟩) l.length cap) 140 :: own (some ⟨gA, 0, none⟩) l.length cap 172 5 (cs5 l) :: L) ⟨gA, p * 5 + 2 + k, none⟩ u := fun k u hu => by
    rw [show p * 5 + 2 + k = p * 5 + (k + 2) by omega]
    exact hrv (k + 2) u (by simpa [c5, HS.vl] using hu)
  have hr2 := Rd.ht2 (w0 := w0) (D := D) (n := l.length) (cap := cap) (A := some ⟨gA, 0, none⟩) (S := S) (left := left) (t := 140) (L := own (some ⟨gA, 0, none⟩) l.length cap 172 5 (cs5 l) :: L)
  have HP := Lib.hid hp
  have HOK := Lib.hid hok
  have d0 : decide ((i : Int) < 0) = false := decide_eq_false (by omega)
  have d1 : decide (65536 ≤ (i : Int)) = false := decide_eq_false (by omega)
  clear hp hok hrv hi
  go_enter Try.func94, Try.ntmps94
  go_upto_region 1 with (fail)
  have hw := (St.start w).alloc (c3 V3.z).toArray 40
  generalize w.heap.size = g4 at hw ⊢
  refine wp_gen hw ?_
  clear hw
  intro w1 hw
  go_wp2_with (first
    | (go_at_call 99; refine (find_in_v (hs.grew hw.made_grew) HOK hi6 HP).mono ?_; rintro e w2 ⟨rfl, hg2⟩; replace hw := hw.grew hg2; have hc2 := hr2 _ (hs.grew hw.made_grew))
    | (refine wpl_load_agg (cs := c3 v) (b := gA) (o := p * 5 + 2) rfl agg3 (size3 v) (hs.grew hw.made_grew) hrv3 ?_)
    | (refine wpl_store_agg (v := val3 v) rfl rfl (size3 _) hw WrA.slot3 ?_; clear hw; intro w3 hw))
  refine bodyPost_at (results_cell_tmp Try.results94 rfl (hw.slot_run agg3 (size3 _))) rfl ?_
  exact ⟨rfl, hw.made_grew⟩
theorem ht_get_out {w0 w : World} {L : List As} {D : Nat} {S : List Nat} {g : Nat → V3} (hs : St w0 (HtB D S g :: L) w) {i : Nat} (hi : i ∉ S) (hi6 : i < 65536) :
    Calls Try.prog 94 #[.pointer (some ⟨D, 0, none⟩), .int .i64 (i : Nat)] w fun e w' => e = .returned (.tuple #[val3 V3.z, .bool false]) ∧ Grew w w' := by
  obtain ⟨l, left, A, cap, ⟨hok, hrm⟩, hs⟩ := hs.htopen
  have hrm2 := hok.room2 hrm
  have d0 : decide ((i : Int) < 0) = false := decide_eq_false (by omega)
  have d1 : decide (65536 ≤ (i : Int)) = false := decide_eq_false (by omega)
  go_enter Try.func94, Try.ntmps94
  go_upto_region 1 with (fail)
  have hw := (St.start w).alloc (c3 V3.z).toArray 40
  generalize w.heap.size = g4 at hw ⊢
  refine wp_gen hw ?_
  clear hw
  intro w1 hw
  go_wp2_with (first
    | (go_at_call 99; refine (find_out (hs.grew hw.made_grew) hok hrm2 hi6 hi).mono ?_; rintro e w2 ⟨d, s, hd, _, _, _, rfl, hg2⟩; replace hw := hw.grew hg2)
    | (refine wpl_store_agg (v := val3 V3.z) rfl rfl (size3 _) hw WrA.slot3 ?_; clear hw; intro w3 hw))
  refine bodyPost_at (results_cell_tmp Try.results94 rfl (hw.slot_run agg3 (size3 _))) rfl ?_
  exact ⟨rfl, hw.made_grew⟩
theorem ht_get_bad {w : World} {D : Nat} {i : Int} (hi : ¬ (0 ≤ i ∧ i < 65536)) :
    Calls Try.prog 94 #[.pointer (some ⟨D, 0, none⟩), .int .i64 i] w fun e w' => e = .returned (.tuple #[val3 V3.z, .bool false]) ∧ Grew w w' := by
  by_cases h0 : i < 0
  all_goals
    go_enter Try.func94, Try.ntmps94
    go_upto_region 1 with (fail)
    have hw := (St.start w).alloc (c3 V3.z).toArray 40
    generalize w.heap.size = g4 at hw ⊢
    refine wp_gen hw ?_
    clear hw
    intro w1 hw
    go_wp2_with (first
      | (refine wpl_store_agg (v := val3 V3.z) rfl rfl (size3 _) hw WrA.slot3 ?_; clear hw; intro w3 hw))
    refine bodyPost_at (results_cell_tmp Try.results94 rfl (hw.slot_run agg3 (size3 _))) rfl ?_
    exact ⟨rfl, hw.made_grew⟩
theorem HtOk.memOut {n : Nat} {l : List HS} {S : List Nat} {g : Nat → V3} {left : Nat} (h : HtOk n l S g left) {i : Int} (hi : ¬ (0 ≤ i ∧ i < 65536)) : memS S i = false := by
  cases hm : memS S i with
  | false => rfl
  | true =>
    obtain ⟨j, rfl, hj⟩ := memS_in hm
    have := h.small j hj
    omega
theorem ht_get {w0 w : World} {L : List As} {D : Nat} {S : List Nat} {g : Nat → V3} (hs : St w0 (HtB D S g :: L) w) (i : Int) :
    Calls Try.prog 94 #[.pointer (some ⟨D, 0, none⟩), .int .i64 i] w fun e w' => e = .returned (.tuple #[val3 (getG S g i), .bool (memS S i)]) ∧ Grew w w' := by
  obtain ⟨l, left, A, cap, ⟨hok, hrm⟩, _⟩ := hs.htopen
  by_cases hi : 0 ≤ i ∧ i < 65536
  · obtain ⟨j, rfl⟩ := Int.eq_ofNat_of_zero_le hi.1
    cases hm : memS S (j : Nat) with
    | true =>
      rw [getG_in (memS_iff.1 hm)]
      exact ht_get_in hs (memS_iff.1 hm)
    | false =>
      rw [getG_out hm]
      exact ht_get_out hs (fun h => by rw [memS_iff.2 h] at hm; cases hm) (by omega)
  · have hm := hok.memOut hi
    rw [getG_out hm, hm]
    exact ht_get_bad hi
end Go.Proofs.Ytmdjpeblbnbjmaa
