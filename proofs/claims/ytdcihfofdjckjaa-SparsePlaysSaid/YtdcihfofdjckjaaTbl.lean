/-
  The contracts of the document's own table (vivariumref5.Table): find, Put, Take, Get; Index, Room.
-/
import Derived.Test.YtdcihfofdjckjaaSpLaw2
set_option maxRecDepth 100000
namespace Go.Proofs.Ytdcihfofdjckjaa
open Go Go.RowKit
attribute [local irreducible] wpList Calls Code.wp

/-! ### Rows of an index and a value -/
abbrev Row := Int × V3
def c4 (r : Row) : List Value := .int .i64 r.1 :: c3 r.2
def cs4 (rs : List Row) : List Value := rs.flatMap c4
theorem c4_len (r : Row) : (c4 r).length = 4 := rfl
theorem cs4_len : ∀ rs : List Row, (cs4 rs).length = rs.length * 4
  | [] => rfl
  | r :: rs => by
    have := cs4_len rs
    simp only [cs4, List.flatMap_cons, List.length_append, List.length_cons] at this ⊢
    rw [this, c4_len]
    omega
theorem cs4_get : ∀ {rs : List Row} {i : Nat} {r : Row}, rs[i]? = some r → ∀ j u, (c4 r)[j]? = some u → (cs4 rs)[i * 4 + j]? = some u
  | [], i, v, h, _, _, _ => by simp at h
  | x :: rs, 0, v, h, j, u, hu => by
    simp at h
    subst h
    have hj : j < (c4 x).length := (List.getElem?_eq_some_iff.1 hu).1
    simp only [cs4, List.flatMap_cons]
    rw [Nat.zero_mul, Nat.zero_add, List.getElem?_append_left hj, hu]
  | x :: rs, i + 1, v, h, j, u, hu => by
    have := cs4_get (rs := rs) (i := i) (r := v) (by simpa using h) j u hu
    simp only [cs4, List.flatMap_cons]
    rw [List.getElem?_append_right (by rw [c4_len]; omega)]
    simp only [cs4] at this
    rw [← this]
    congr 1
    rw [c4_len]
    omega
theorem cs4_set : ∀ {rs : List Row} {i : Nat} (r : Row), i < rs.length → splice (cs4 rs) (i * 4) (c4 r) = cs4 (rs.set i r)
  | [], i, v, h => by simp at h
  | x :: rs, 0, v, _ => by simp [splice, cs4, c4, c3]
  | x :: rs, i + 1, v, h => by
    have := cs4_set (rs := rs) (i := i) v (by simpa using h)
    simp only [splice, cs4, List.flatMap_cons, List.set_cons_succ] at this ⊢
    rw [← this, show (i + 1) * 4 = (c4 x).length + i * 4 by rw [c4_len]; omega, List.take_length_add_append, Nat.add_assoc, List.drop_length_add_append]
    simp
theorem splice_in {xs vs : List Value} {o : Nat} {v : Value} (h : xs[o]? = some v) : splice xs (o + 1) vs = splice xs o (v :: vs) := by
  unfold splice
  obtain ⟨hl, he⟩ := List.getElem?_eq_some_iff.1 h
  rw [List.take_succ_eq_append_getElem hl, he, show o + (v :: vs).length = o + 1 + vs.length by simp; omega]
  simp
/-- The value of a row is written, its index stays. -/
theorem cs4_setv {rs : List Row} {i : Nat} {r : Row} (v : V3) (h : rs[i]? = some r) : splice (cs4 rs) (i * 4 + 1) (c3 v) = cs4 (rs.set i (r.1, v)) := by
  have h1 : (cs4 rs)[i * 4 + 0]? = some (.int .i64 r.1) := cs4_get h 0 _ rfl
  rw [Nat.add_zero] at h1
  rw [splice_in h1]
  exact cs4_set (r.1, v) (List.getElem?_eq_some_iff.1 h).1
theorem cs4_append (a b : List Row) : cs4 (a ++ b) = cs4 a ++ cs4 b := by simp [cs4]
theorem cs4_take (rs : List Row) (n : Nat) : (cs4 rs).take (n * 4) = cs4 (rs.take n) := by
  induction rs generalizing n with
  | nil => simp [cs4]
  | cons x rs ih =>
    cases n with
    | zero => simp [cs4]
    | succ n =>
      have := ih n
      simp only [cs4, List.flatMap_cons, List.take_succ_cons] at this ⊢
      rw [show (n + 1) * 4 = (c4 x).length + n * 4 by rw [c4_len]; omega, List.take_length_add_append, this]
theorem c4_one (r : Row) : ∀ u ∈ c4 r, u.oneCell' = true := by
  intro u hu
  rcases List.mem_cons.1 hu with rfl | h
  · rfl
  · exact one3 r.2 u h
theorem cs4_one (rs : List Row) : ∀ u ∈ cs4 rs, u.oneCell' = true := by
  intro u hu
  obtain ⟨r, _, hr⟩ := List.mem_flatMap.1 hu
  exact c4_one r u hr
/-- An owned row made shorter. -/
theorem own_cut {A : Option Addr} {n m cap : Nat} {e : TypeId} {size : Nat} {xs : List Value} (hm : m ≤ n) : ∀ h, own A n cap e size xs h → own A m cap e size (xs.take (m * size)) h := fun h ⟨hl, hx⟩ => by
  have hle : m * size ≤ n * size := Nat.mul_le_mul_right _ hm
  refine ⟨by rw [List.length_take, hl]; omega, ?_⟩
  rcases hx with ⟨rfl, rfl, rfl, he⟩ | ⟨g, cur, rfl, h1, h2, h3, h4, h5⟩
  · exact .inl ⟨rfl, by omega, rfl, he⟩
  · refine .inr ⟨g, cur, rfl, by omega, h2, h3, ?_, h5⟩
    rw [← h4, List.take_take, show min (m * size) (n * size) = m * size by omega]
/-- The table in memory. -/
abbrev tbC (A : Option Addr) (n cap : Nat) : Array Value := #[.slice A n cap]
def TbB (D : Nat) (rs : List Row) : As := fun h => rs.length ≤ 65536 ∧ ∃ A cap, star (blk D (tbC A rs.length cap) 41) (own A rs.length cap 67 4 (cs4 rs)) h
theorem St.tbopen {w0 w : World} {D : Nat} {rs : List Row} {L : List As} (hs : St w0 (TbB D rs :: L) w) :
    rs.length ≤ 65536 ∧ ∃ A cap, St w0 (Ytdcihfofdjckjaa.blk D (tbC A rs.length cap) 41 :: own A rs.length cap 67 4 (cs4 rs) :: L) w := by
  obtain ⟨hb, h, r, hd, hu, a, b, hab, rfl, ⟨hok, A, cap, ht⟩, hl⟩ := hs
  have h1 : St w0 (star (Ytdcihfofdjckjaa.blk D (tbC A rs.length cap) 41) (own A rs.length cap 67 4 (cs4 rs)) :: L) w := ⟨hb, _, r, hd, hu, a, b, hab, rfl, ht, hl⟩
  exact ⟨hok, A, cap, h1.ent (Ent.open2 fun _ h => h)⟩
theorem St.tbshut {w0 w : World} {D : Nat} {rs : List Row} {L : List As} {A : Option Addr} {cap : Nat} (hok : rs.length ≤ 65536) (hs : St w0 (Ytdcihfofdjckjaa.blk D (tbC A rs.length cap) 41 :: own A rs.length cap 67 4 (cs4 rs) :: L) w) : St w0 (TbB D rs :: L) w :=
  (hs.ent (Ent.shut2 fun _ h => h)).conv fun _ h => ⟨hok, A, cap, h⟩
theorem Rd.tb0 {w0 : World} {D n cap : Nat} {A : Option Addr} {L : List As} {t : TypeId} : Rd w0 (Ytdcihfofdjckjaa.blk D (tbC A n cap) t :: L) ⟨D, 0, none⟩ (.slice A n cap) := Rd.blk rfl
theorem Wr.tb0 {w0 : World} {D n cap n' cap' : Nat} {A A' : Option Addr} {L : List As} {t : TypeId} : Wr w0 (Ytdcihfofdjckjaa.blk D (tbC A n cap) t :: L) ⟨D, 0, none⟩ (.slice A' n' cap') (Ytdcihfofdjckjaa.blk D (tbC A' n' cap') t :: L) := Wr.blk (by simp)
/-- Where an index stands; -1: nowhere. -/
def findR (rs : List Row) (i : Int) : Int := match rs.findIdx? (fun r => r.1 == i) with
  | some k => k
  | none => -1
theorem findR_none {rs : List Row} {i : Int} (h : ∀ r ∈ rs, r.1 ≠ i) : findR rs i = -1 := by
  unfold findR
  have : rs.findIdx? (fun r => r.1 == i) = none := by
    rw [List.findIdx?_eq_none_iff]
    intro r hr
    simpa using h r hr
  rw [this]
theorem findR_some {rs : List Row} {i : Int} {k : Nat} {r : Row} (h : rs[k]? = some r) (hr : r.1 = i) (hm : ∀ j r', j < k → rs[j]? = some r' → r'.1 ≠ i) : findR rs i = k := by
  unfold findR
  have : rs.findIdx? (fun r => r.1 == i) = some k := by
    rw [List.findIdx?_eq_some_iff_getElem]
    obtain ⟨hk, he⟩ := List.getElem?_eq_some_iff.1 h
    refine ⟨hk, by rw [he]; simpa using hr, fun j hj => ?_⟩
    have := hm j (rs[j]'(by omega)) hj (List.getElem?_eq_getElem _)
    simpa using this
  rw [this]
theorem tb_find {w0 w : World} {L : List As} {D : Nat} {rs : List Row} (hs : St w0 (TbB D rs :: L) w) (i : Int) :
    Calls Try.prog 30 #[.pointer (some ⟨D, 0, none⟩), .int .i64 i] w fun e w' => e = .returned (.int .i64 (findR rs i)) ∧ w = w' := by
  obtain ⟨hl, A, cap, hs⟩ := hs.tbopen
  have hc := Rd.tb0 w hs
  go_enter Try.func30, Try.ntmps30
  go_wp2
  go_loop [5] (fun v => ∃ k : Nat, v = .int .i64 (k : Nat) ∧ k ≤ rs.length ∧ Hid (∀ j r', j < k → rs[j]? = some r' → r'.1 ≠ i)) (fun v => rs.length - (intOf v).toNat)
  case atStart => exact ⟨0, rfl, Nat.zero_le _, fun j r' h => by omega⟩
  case round =>
    obtain ⟨k, rfl, hk, HK⟩ := hrel
    by_cases hlt : k < rs.length
    · obtain ⟨g, rfl⟩ := (hs.ent (Ent.swap _ _ _)).own_at (by omega)
      obtain ⟨r, hr⟩ : ∃ r, rs[k]? = some r := ⟨_, List.getElem?_eq_getElem hlt⟩
      have hci := (Rd.own (w0 := w0) (g := g) (n := rs.length) (cap := cap) (e := 67) (size := 4) (L := L) (cs4_get hr 0 _ rfl)).tail (p := blk D (tbC (some ⟨g, 0, none⟩) rs.length cap) 41) _ hs
      rw [Nat.add_zero] at hci
      by_cases he : r.1 = i
      · have HF := Lib.hid (findR_some hr he HK.out)
        have hb : (r.1 == i) = true := by simpa using he
        clear hr he HK
        go_wp2
        go_ret
        exact ⟨ret_int HF.out.symm, rfl⟩
      · have HK2 : Hid (∀ j r', j < k + 1 → rs[j]? = some r' → r'.1 ≠ i) := fun j r' hj h => by
          by_cases e : j = k
          · subst e; rw [hr] at h; injection h with h; subst h; exact he
          · exact HK.out j r' (by omega) h
        have hb : (r.1 == i) = false := by simpa using he
        clear hr he HK
        go_wp2
        go_round
        case rel => exact ⟨k + 1, by go_num, by omega, HK2⟩
        case measure => simp [intOf] <;> omega
    · have HF := Lib.hid (findR_none (rs := rs) (i := i) fun r hr => by
        obtain ⟨j, hj, he⟩ := List.getElem_of_mem hr
        exact HK.out j r (by omega) (by rw [List.getElem?_eq_getElem hj, he]))
      clear HK
      go_wp2
      go_ret
      exact ⟨ret_int HF.out.symm, rfl⟩

theorem index_c (i : Int) (w : World) : Calls Try.prog 14 #[.int .i64 i] w fun e w' => e = .returned (.bool (decide (0 ≤ i ∧ i < 65536))) ∧ w = w' := by
  go_enter Try.func14, Try.ntmps14
  by_cases h0 : 0 ≤ i
  · by_cases h1 : i < 65536
    · go_wp2
      go_ret
      exact ⟨ret_bool (by simp [h0, h1]), rfl⟩
    · go_wp2
      go_ret
      exact ⟨ret_bool (by rw [Bool.eq_iff_iff]; simp; omega), rfl⟩
  · go_wp2
    go_ret
    exact ⟨ret_bool (by rw [Bool.eq_iff_iff]; simp; omega), rfl⟩
theorem index_v {i : Int} {b : Bool} (h : Hid (okI i = b)) (w : World) : Calls Try.prog 14 #[.int .i64 i] w fun e w' => e = .returned (.bool b) ∧ w = w' := by
  rw [← h.out]; unfold okI; exact index_c i w
attribute [local irreducible] okI
theorem find_v {w0 w : World} {L : List As} {D : Nat} {rs : List Row} (hs : St w0 (TbB D rs :: L) w) {i k : Int} (h : Hid (findR rs i = k)) :
    Calls Try.prog 30 #[.pointer (some ⟨D, 0, none⟩), .int .i64 i] w fun e w' => e = .returned (.int .i64 k) ∧ w = w' := by
  rw [← h.out]; exact tb_find hs i
theorem elem4 : ElemOk Try.prog 39 67 4 32 := ElemOk.of Try.underlying39 (z := .agg (c4 (0, V3.z)).toArray) (by kernel_rfl) rfl (by decide)
theorem size_rows : (Try.prog.info? 39).map (·.size) = some 1 := by kernel_rfl
theorem size4 (r : Row) : (Try.prog.info? 67).map (·.size) = some (Value.agg (c4 r).toArray).cells.size := by kernel_rfl
theorem agg4 : aggB Try.prog 67 = true := by kernel_rfl
theorem tb_get {w0 w : World} {L : List As} {D : Nat} {rs : List Row} (hs : St w0 (TbB D rs :: L) w) {i : Int} {k : Nat} {r : Row} (hk : Hid (findR rs i = (k : Nat))) (hr : rs[k]? = some r) :
    Calls Try.prog 23 #[.pointer (some ⟨D, 0, none⟩), .int .i64 i] w fun e w' => e = .returned (.tuple #[val3 r.2, .bool true]) ∧ Grew w w' := by
  have hl := (List.getElem?_eq_some_iff.1 hr).1
  have hs0 := hs
  obtain ⟨_, A, cap, hs⟩ := hs.tbopen
  obtain ⟨g, rfl⟩ := (hs.ent (Ent.swap _ _ _)).own_at (by omega)
  have hr1 := Rd.tb0 (w0 := w0) (D := D) (n := rs.length) (cap := cap) (A := some ⟨g, 0, none⟩) (t := 41) (L := own (some ⟨g, 0, none⟩) rs.length cap 67 4 (cs4 rs) :: L)
  have hrv : ∀ j x, (c3 r.2)[j]? = some x → Rd w0 (blk D (tbC (some ⟨g, 0, none⟩) rs.length cap) 41 :: own (some ⟨g, 0, none⟩) rs.length cap 67 4 (cs4 rs) :: L) ⟨g, k * 4 + 1 + j, none⟩ x := fun j x hx => by
    have := cs4_get hr (j + 1) x (by simpa [c4] using hx)
    rw [show k * 4 + 1 + j = k * 4 + (j + 1) by omega]
    exact (Rd.own this).tail
  clear hr
  go_enter Try.func23, Try.ntmps23
  go_upto_region 1 with (fail)
  have hw := (St.start w).alloc (c3 V3.z).toArray 26
  generalize w.heap.size = g4 at hw ⊢
  refine wp_gen hw ?_
  clear hw
  intro w1 hw
  have hc1 := hr1 _ (hs.grew hw.made_grew)
  go_wp2_with (first
    | (go_at_call 30; refine (find_v (hs0.grew hw.made_grew) hk).mono ?_; rintro e w' ⟨rfl, rfl⟩)
    | (refine wpl_load_agg (cs := c3 r.2) (b := g) (o := k * 4 + 1) rfl agg3 (size3 r.2) (hs.grew hw.made_grew) hrv ?_)
    | (refine wpl_store_agg (v := val3 r.2) rfl rfl (size3 _) hw WrA.slot3 ?_; clear hw hc1; intro w3 hw))
  refine bodyPost_at (results_cell_tmp Try.results23 rfl (hw.slot_run agg3 (size3 _))) rfl ?_
  exact ⟨rfl, hw.made_grew⟩
theorem tb_get_no {w0 w : World} {L : List As} {D : Nat} {rs : List Row} (hs : St w0 (TbB D rs :: L) w) {i : Int} (hk : Hid (findR rs i = -1)) :
    Calls Try.prog 23 #[.pointer (some ⟨D, 0, none⟩), .int .i64 i] w fun e w' => e = .returned (.tuple #[val3 V3.z, .bool false]) ∧ Grew w w' := by
  go_enter Try.func23, Try.ntmps23
  go_upto_region 1 with (fail)
  have hw := (St.start w).alloc (c3 V3.z).toArray 26
  generalize w.heap.size = g4 at hw ⊢
  refine wp_gen hw ?_
  clear hw
  intro w1 hw
  go_wp2_with (first
    | (go_at_call 30; refine (find_v (hs.grew hw.made_grew) hk).mono ?_; rintro e w' ⟨rfl, rfl⟩)
    | (refine wpl_store_agg (v := val3 V3.z) rfl rfl (size3 _) hw WrA.slot3 ?_; clear hw; intro w3 hw))
  refine bodyPost_at (results_cell_tmp Try.results23 rfl (hw.slot_run agg3 (size3 _))) rfl ?_
  exact ⟨rfl, hw.made_grew⟩
theorem tb_put_no {w0 w : World} {L : List As} {D : Nat} {rs : List Row} (hs : St w0 (TbB D rs :: L) w) {i : Int} (v : V3) (hi : Hid (okI i = false)) :
    Calls Try.prog 21 #[.pointer (some ⟨D, 0, none⟩), .int .i64 i, val3 v] w fun e w' => e = .returned (.tuple #[val3 V3.z, .bool false]) ∧ St w0 (TbB D rs :: L) w' := by
  go_enter Try.func21, Try.ntmps21
  go_wp2_with (first
    | (refine wpl_box_v (v := val3 v) rfl hs ?_; clear hs; intro g5 w hs)
    | (refine wpl_alloc zero3 hs ?_; clear hs; intro g6 w hs)
    | (go_at_call 14; refine (index_v hi _).mono ?_; rintro e w' ⟨rfl, rfl⟩)
    | (refine wpl_store_agg (v := val3 V3.z) rfl rfl (size3 _) hs WrA.slot3 ?_; clear hs; intro w hs))
  refine bodyPost_at (results_cell_tmp Try.results21 rfl (hs.slot_run agg3 (size3 _))) rfl ?_
  exact ⟨rfl, hs.drop.drop⟩
set_option maxHeartbeats 1000000 in
theorem tb_put_old {w0 w : World} {L : List As} {D : Nat} {rs : List Row} (hs : St w0 (TbB D rs :: L) w) {i : Int} (v : V3) (hi : Hid (okI i = true)) {k : Nat} {r : Row} (hk : Hid (findR rs i = (k : Nat))) (hr : rs[k]? = some r) :
    Calls Try.prog 21 #[.pointer (some ⟨D, 0, none⟩), .int .i64 i, val3 v] w fun e w' => e = .returned (.tuple #[val3 r.2, .bool true]) ∧ St w0 (TbB D (rs.set k (r.1, v)) :: L) w' := by
  have hl := (List.getElem?_eq_some_iff.1 hr).1
  have HR := Lib.hid hr
  clear hr
  go_enter Try.func21, Try.ntmps21
  go_upto_region 3 with (first
    | (refine wpl_box_v (v := val3 v) rfl hs ?_; clear hs; intro g5 w hs)
    | (refine wpl_alloc zero3 hs ?_; clear hs; intro g6 w hs)
    | (go_at_call 14; refine (index_v hi _).mono ?_; rintro e w' ⟨rfl, rfl⟩))
  replace hs : St w0 (TbB D rs :: blk g5 (c3 v).toArray 26 :: blk g6 (c3 V3.z).toArray 26 :: L) w := (hs.ent (Ent.skip (Ent.skip (Ent.refl _)))).ent (Ent.cons _ (Ent.swap _ _ _))
  go_upto_region 5 with (first
    | (go_at_call 30; refine (find_v hs hk).mono ?_; rintro e w' ⟨rfl, rfl⟩))
  obtain ⟨hlen, A, cap, hs⟩ := hs.tbopen
  obtain ⟨g, rfl⟩ := (hs.ent (Ent.swap _ _ _)).own_at (by omega)
  have hc1 := Rd.tb0 w hs
  have hrv : ∀ j x, (c3 r.2)[j]? = some x → Rd w0 (blk D (tbC (some ⟨g, 0, none⟩) rs.length cap) 41 :: own (some ⟨g, 0, none⟩) rs.length cap 67 4 (cs4 rs) :: blk g5 (c3 v).toArray 26 :: blk g6 (c3 V3.z).toArray 26 :: L) ⟨g, k * 4 + 1 + j, none⟩ x := fun j x hx => by
    have := cs4_get HR.out (j + 1) x (by simpa [c4] using hx)
    rw [show k * 4 + 1 + j = k * 4 + (j + 1) by omega]
    exact (Rd.own this).tail
  go_wp2_with (first
    | (refine wpl_load_agg (cs := c3 r.2) (b := g) (o := k * 4 + 1) rfl agg3 (size3 r.2) hs hrv ?_; clear hc1)
    | (refine wpl_alloc zero3 hs ?_; clear hs hrv; intro g9 w hs)
    | (refine wpl_store_agg (v := val3 r.2) rfl rfl (size3 _) hs WrA.slot3 ?_; clear hs; intro w hs))
  have hsN := (hs.rot.ent (Ent.cons _ (Ent.skip (Ent.skip (Ent.refl _))))).only2
  simp only [Act.put, List.setIfInBounds_toArray, List.set_cons_succ, List.set_cons_zero]
  refine wp_region_plain [false, false, false, false, false, false, false, false, true] hsN (by kernel_rfl) (by kernel_rfl) fun hne => ?_
  have hc1 := (Rd.tb0 (w0 := w0) (D := D) (n := rs.length) (cap := cap) (A := some ⟨g, 0, none⟩) (t := 41) (L := [blk g5 (c3 v).toArray 26])).alln
  have hh := has3_tail (p := blk D (tbC (some ⟨g, 0, none⟩) rs.length cap) 41) (has3_slot (w0 := w0) (L := []) (g := g5) (v := v) (t := 26))
  have hv0 := (hh 0 _ rfl).alln
  have hv1 := (hh 1 _ rfl).alln
  have hv2 := (hh 2 _ rfl).alln
  simp only [Nat.add_zero, Nat.zero_add] at hv0 hv1 hv2
  clear hh
  simp only [pickOps]
  repeat (go_big_quiet_step (fail))
  refine wpQuiet_nil ?_
  clear hne hc1 hv0 hv1 hv2 hsN
  simp only [chainIx]
  refine wpChain_last rfl ?_
  refine wpl_store_agg (v := val3 v) rfl rfl (size3 _) (hs.ent (Ent.skip (Ent.skip (Ent.refl _)))).drew (WrA.own (o := k * 4 + 1) (vs := c3 v) (by rw [cs4_len]; simp [c3]; omega) (one3 v)) ?_
  clear hs
  intro w hs
  rw [cs4_setv v HR.out] at hs
  refine wpList_nil ⟨rfl, ?_⟩
  replace hs := hs.rot
  go_wp2_with (first
    | (refine wpl_load3 (v := r.2) rfl ?hh agg3 size3n hs ?_; case hh => exact has3_slot)
    | (refine wpl_store_agg (v := val3 r.2) rfl rfl (size3 _) (hs.ent (Ent.skip (Ent.skip (Ent.skip (Ent.skip (Ent.refl _)))))) WrA.slot3 ?_; clear hs; intro w hs))
  refine bodyPost_at (results_cell_tmp Try.results21 rfl (hs.slot_run agg3 (size3 _))) rfl ?_
  refine ⟨rfl, ?_⟩
  have hs2 := hs.drop.drop
  have hs3 := hs2.ent (Ent.swap _ _ _)
  rw [show rs.length = (rs.set k (r.1, v)).length by simp] at hs3 hlen
  exact (hs3.tbshut hlen).rot.drop

theorem c4_eq (i : Int) (v : V3) : Value.agg #[.int .i64 i, .int .i64 v.k, .int .i64 v.a, .int .i64 v.b] = .agg (c4 (i, v)).toArray := rfl
set_option maxHeartbeats 1000000 in
theorem tb_put_new {w0 w : World} {L : List As} {D : Nat} {rs : List Row} (hs : St w0 (TbB D rs :: L) w) {i : Int} (v : V3) (hi : Hid (okI i = true)) (hk : Hid (findR rs i = -1)) (hl : rs.length < 65536) :
    Calls Try.prog 21 #[.pointer (some ⟨D, 0, none⟩), .int .i64 i, val3 v] w fun e w' => e = .returned (.tuple #[val3 V3.z, .bool false]) ∧ St w0 (TbB D (rs ++ [(i, v)]) :: L) w' := by
  go_enter Try.func21, Try.ntmps21
  go_upto_region 3 with (first
    | (refine wpl_box_v (v := val3 v) rfl hs ?_; clear hs; intro g5 w hs)
    | (refine wpl_alloc zero3 hs ?_; clear hs; intro g6 w hs)
    | (go_at_call 14; refine (index_v hi _).mono ?_; rintro e w' ⟨rfl, rfl⟩))
  replace hs : St w0 (TbB D rs :: blk g5 (c3 v).toArray 26 :: blk g6 (c3 V3.z).toArray 26 :: L) w := (hs.ent (Ent.skip (Ent.skip (Ent.refl _)))).ent (Ent.cons _ (Ent.swap _ _ _))
  go_upto_region 8 with (first
    | (go_at_call 30; refine (find_v hs hk).mono ?_; rintro e w' ⟨rfl, rfl⟩))
  obtain ⟨hlen, A, cap, hs⟩ := hs.tbopen
  have hsN := (hs.ent (Ent.cons _ (Ent.swap _ _ _))).only2
  refine wp_region_plain [false, false, false, false, false, false, false, false, true, true, false, false, true] hsN (by kernel_rfl) (by kernel_rfl) fun hne => ?_
  have hc1 := (Rd.tb0 (w0 := w0) (D := D) (n := rs.length) (cap := cap) (A := A) (t := 41) (L := [blk g5 (c3 v).toArray 26])).alln
  have hh := has3_tail (p := blk D (tbC A rs.length cap) 41) (has3_slot (w0 := w0) (L := []) (g := g5) (v := v) (t := 26))
  have hv0 := (hh 0 _ rfl).alln
  have hv1 := (hh 1 _ rfl).alln
  have hv2 := (hh 2 _ rfl).alln
  simp only [Nat.add_zero, Nat.zero_add] at hv0 hv1 hv2
  clear hh
  simp only [pickOps]
  repeat (go_big_quiet_step (fail))
  refine wpQuiet_nil ?_
  clear hne hc1 hv0 hv1 hv2
  simp only [chainIx]
  refine wpChainP_next rfl ?_
  refine wpl_build1 (v := .agg (c4 (i, v)).toArray) elem4 (by decide) rfl rfl hs.drew ?_
  clear hs hsN
  intro gb w2 hs
  replace hs : St w0 (blk gb (c4 (i, v)).toArray 67 :: blk D (tbC A rs.length cap) 41 :: own A rs.length cap 67 4 (cs4 rs) :: blk g5 (c3 v).toArray 26 :: blk g6 (c3 V3.z).toArray 26 :: L) w2 := hs
  refine wpList_nil ⟨rfl, (hs.drop.ent (Ent.cons _ (Ent.swap _ _ _))).only2, ?_⟩
  refine wpChainP_next rfl ?_
  refine wpl_append (B := some ⟨gb, 0, none⟩) (m := 1) (news := c4 (i, v)) elem4 rfl rfl hs (Ent.skip (Ent.skip (Ent.refl _))) RdS.blk rfl (c4_one _) (by simp only [maxLen]; omega) (by omega) ?_
  clear hs
  intro A' cap' w3 hs
  rw [show cs4 rs ++ c4 (i, v) = cs4 (rs ++ [(i, v)]) by rw [cs4_append]; simp [cs4]] at hs
  have e : rs.length + 1 = (rs ++ [(i, v)]).length := by simp
  rw [e] at hs
  replace hs := (hs.rot.drop).rot
  refine wpList_nil ⟨rfl, (hs.ent (Ent.cons _ (Ent.swap _ _ _))).only2, ?_⟩
  refine wpChain_last rfl ?_
  refine wpl_store rfl rfl rfl size_rows hs Wr.tb0 ?_
  clear hs
  intro w hs
  refine wpList_nil ⟨rfl, ?_⟩
  rw [e] at hs
  replace hs := (hs.tbshut (by simp; omega)).rot.drop
  simp only [Act.put, List.setIfInBounds_toArray, List.set_cons_succ, List.set_cons_zero]
  go_wp2_with (first
    | (refine wpl_store_agg (v := val3 V3.z) rfl rfl (size3 _) hs.rot WrA.slot3 ?_; clear hs; intro w hs))
  refine bodyPost_at (results_cell_tmp Try.results21 rfl (hs.slot_run agg3 (size3 _))) rfl ?_
  exact ⟨rfl, hs.drop⟩
theorem tb_take_no {w0 w : World} {L : List As} {D : Nat} {rs : List Row} (hs : St w0 (TbB D rs :: L) w) {i : Int} (hk : Hid (findR rs i = -1)) :
    Calls Try.prog 22 #[.pointer (some ⟨D, 0, none⟩), .int .i64 i] w fun e w' => e = .returned (.tuple #[val3 V3.z, .bool false]) ∧ St w0 (TbB D rs :: L) w' := by
  go_enter Try.func22, Try.ntmps22
  go_wp2_with (first
    | (refine wpl_alloc zero3 hs ?_; clear hs; intro g6 w hs)
    | (go_at_call 30; refine (find_v hs.rot hk).mono ?_; rintro e w' ⟨rfl, rfl⟩)
    | (refine wpl_store_agg (v := val3 V3.z) rfl rfl (size3 _) hs WrA.slot3 ?_; clear hs; intro w hs))
  refine bodyPost_at (results_cell_tmp Try.results22 rfl (hs.slot_run agg3 (size3 _))) rfl ?_
  exact ⟨rfl, hs.drop⟩
/-- The last row in the place of one, the last place let go. -/
def cutR (rs : List Row) (k : Nat) : List Row := (rs.set k (rs.getD (rs.length - 1) (0, V3.z))).take (rs.length - 1)
set_option maxHeartbeats 1000000 in
theorem tb_take {w0 w : World} {L : List As} {D : Nat} {rs : List Row} (hs : St w0 (TbB D rs :: L) w) {i : Int} {k : Nat} {r : Row} (hk : Hid (findR rs i = (k : Nat))) (hr : rs[k]? = some r) :
    Calls Try.prog 22 #[.pointer (some ⟨D, 0, none⟩), .int .i64 i] w fun e w' => e = .returned (.tuple #[val3 r.2, .bool true]) ∧ St w0 (TbB D (cutR rs k) :: L) w' := by
  have hl := (List.getElem?_eq_some_iff.1 hr).1
  have HR := Lib.hid hr
  obtain ⟨n, hn⟩ : ∃ n, rs.length = n + 1 := ⟨rs.length - 1, by omega⟩
  obtain ⟨q, hq⟩ : ∃ q, rs[n]? = some q := ⟨_, List.getElem?_eq_getElem (by omega)⟩
  have HQ := Lib.hid hq
  have HC : Hid (cutR rs k = (rs.set k q).take n) := by
    rw [Hid, cutR, hn, Nat.add_sub_cancel, List.getD, hq]; rfl
  rw [HC.out]
  clear hr hq
  go_enter Try.func22, Try.ntmps22
  go_upto_region 4 with (first
    | (refine wpl_alloc zero3 hs ?_; clear hs; intro g4 w hs; replace hs := hs.rot)
    | (go_at_call 30; refine (find_v hs hk).mono ?_; rintro e w' ⟨rfl, rfl⟩))
  obtain ⟨hlen, A, cap, hs⟩ := hs.tbopen
  obtain ⟨g, rfl⟩ := (hs.ent (Ent.swap _ _ _)).own_at (by omega)
  rw [hn] at hs hl
  have hr1 := fun L => Rd.tb0 (w0 := w0) (D := D) (n := n + 1) (cap := cap) (A := some ⟨g, 0, none⟩) (t := 41) (L := L)
  have hc1 := hr1 _ w hs
  have hrv : ∀ j x, (c3 r.2)[j]? = some x → Rd w0 (blk D (tbC (some ⟨g, 0, none⟩) (n + 1) cap) 41 :: own (some ⟨g, 0, none⟩) (n + 1) cap 67 4 (cs4 rs) :: blk g4 (val3 V3.z).cells 26 :: L) ⟨g, k * 4 + 1 + j, none⟩ x := fun j x hx => by
    have := cs4_get HR.out (j + 1) x (by simpa [c4] using hx)
    rw [show k * 4 + 1 + j = k * 4 + (j + 1) by omega]
    exact (Rd.own this).tail
  have hro := hs.ent (Ent.swap _ _ _)
  have hcapn := hro.own_len.2.1
  clear hro
  go_upto_region 6 with (first
    | (refine wpl_load_agg (cs := c3 r.2) (b := g) (o := k * 4 + 1) rfl agg3 (size3 r.2) hs hrv ?_; clear hc1)
    | (refine wpl_alloc zero3 hs ?_; clear hs hrv; intro g7 w hs)
    | (refine wpl_store_agg (v := val3 r.2) rfl rfl (size3 _) hs WrA.slot3 ?_; clear hs; intro w hs; replace hs := hs.ent (Ent.skip (Ent.skip (Ent.skip (Ent.refl _)))); replace hs := hs.rot.ent (Ent.refl _); have hc1 := hr1 _ w (hs.ent (Ent.skip (Ent.skip (Ent.refl _))))))
  replace hs := (hs.ent (Ent.skip (Ent.skip (Ent.refl _)))).ent (Ent.cons _ (Ent.skip (Ent.skip (Ent.refl _))))
  have hrq : ∀ j x, (c4 q)[j]? = some x → Rd w0 [blk D (tbC (some ⟨g, 0, none⟩) (n + 1) cap) 41, own (some ⟨g, 0, none⟩) (n + 1) cap 67 4 (cs4 rs)] ⟨g, n * 4 + j, none⟩ x := fun j x hx => (Rd.own (cs4_get HQ.out j x hx)).tail
  have q0 := (hrq 0 _ rfl).alln
  have q1 := (hrq 1 _ rfl).alln
  have q2 := (hrq 2 _ rfl).alln
  have q3 := (hrq 3 _ rfl).alln
  simp only [Nat.add_zero] at q0
  clear hrq hc1
  refine wp_region_plain [false, false, false, false, false, false, false, false, false, false, false, false, false, true] hs.only2 (by kernel_rfl) (by kernel_rfl) fun hne => ?_
  have hc1 := (hr1 [own (some ⟨g, 0, none⟩) (n + 1) cap 67 4 (cs4 rs)]).alln
  simp only [pickOps]
  repeat (go_big_quiet_step (fail))
  refine wpQuiet_nil ?_
  clear hne hc1 q0 q1 q2 q3
  simp only [chainIx]
  refine wpChain_last rfl ?_
  refine wpl_store_agg (v := .agg (c4 q).toArray) rfl rfl (size4 q) (hs.ent (Ent.swap _ _ _)).drew (WrA.own (o := k * 4) (vs := c4 q) (by rw [cs4_len, c4_len]; omega) (c4_one q)) ?_
  clear hs
  intro w hs
  rw [cs4_set q (by omega)] at hs
  refine wpList_nil ⟨rfl, ?_⟩
  replace hs := hs.ent (Ent.swap _ _ _)
  have hc1 := hr1 _ w hs
  go_wp2_with (first
    | (refine wpl_store rfl rfl rfl size_rows hs Wr.tb0 ?_; clear hs hc1; intro w hs)
    | (refine wpl_load3 (v := r.2) rfl ?hh agg3 size3n hs ?_; case hh => exact has3_tail (has3_tail has3_slot))
    | (refine wpl_store_agg (v := val3 r.2) rfl rfl (size3 _) (hs.ent (Ent.skip (Ent.skip (Ent.skip (Ent.refl _))))) WrA.slot3 ?_; clear hs; intro w hs))
  refine bodyPost_at (results_cell_tmp Try.results22 rfl (hs.slot_run agg3 (size3 _))) rfl ?_
  refine ⟨rfl, ?_⟩
  have hs2 := (hs.drop.ent (Ent.swap _ _ _)).conv (own_cut (m := n) (Nat.le_succ n))
  rw [cs4_take] at hs2
  have e : n = ((rs.set k q).take n).length := by simp; omega
  generalize (rs.set k q).take n = rs' at hs2 e ⊢
  subst e
  exact (hs2.ent (Ent.swap _ _ _)).tbshut (by omega) |>.rot.drop
end Go.Proofs.Ytdcihfofdjckjaa
