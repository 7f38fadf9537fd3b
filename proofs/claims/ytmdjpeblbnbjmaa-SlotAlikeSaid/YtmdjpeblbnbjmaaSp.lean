/-
  The contracts of values at their places (sparse): Get, room, Put, Take, New, Room.
-/
import Derived.Test.YtmdjpeblbnbjmaaJB
import Derived.Test.YtmdjpeblbnbjmaaJA
set_option maxRecDepth 100000
namespace Go.Proofs.Ytmdjpeblbnbjmaa
open Go Go.RowKit
attribute [local irreducible] wpList Calls Code.wp

/-! ### Values of three numbers, rows of them -/
structure V3 where
  k : Int
  a : Int
  b : Int
  deriving DecidableEq
def V3.z : V3 := ⟨0, 0, 0⟩
def c3 (v : V3) : List Value := [.int .i64 v.k, .int .i64 v.a, .int .i64 v.b]
def val3 (v : V3) : Value := .agg #[.int .i64 v.k, .int .i64 v.a, .int .i64 v.b]
def cs3 (vs : List V3) : List Value := vs.flatMap c3
theorem cs3_len : ∀ vs : List V3, (cs3 vs).length = vs.length * 3
  | [] => rfl
  | v :: vs => by
    have := cs3_len vs
    simp only [cs3, List.flatMap_cons, List.length_append, List.length_cons] at this ⊢
    rw [this]
    simp [c3]
    omega
theorem cs3_get : ∀ {vs : List V3} {i : Nat} {v : V3}, vs[i]? = some v → ∀ j u, (c3 v)[j]? = some u → (cs3 vs)[i * 3 + j]? = some u
  | [], i, v, h, _, _, _ => by simp at h
  | x :: vs, 0, v, h, j, u, hu => by
    simp at h
    subst h
    have hj : j < (c3 x).length := (List.getElem?_eq_some_iff.1 hu).1
    simp only [cs3, List.flatMap_cons]
    rw [Nat.zero_mul, Nat.zero_add, List.getElem?_append_left hj, hu]
  | x :: vs, i + 1, v, h, j, u, hu => by
    have := cs3_get (vs := vs) (i := i) (v := v) (by simpa using h) j u hu
    simp only [cs3, List.flatMap_cons]
    rw [List.getElem?_append_right (by simp [c3]; omega)]
    simp only [cs3] at this
    rw [← this]
    congr 1
    simp [c3]
    omega
theorem cs3_set : ∀ {vs : List V3} {i : Nat} (v : V3), i < vs.length → splice (cs3 vs) (i * 3) (c3 v) = cs3 (vs.set i v)
  | [], i, v, h => by simp at h
  | x :: vs, 0, v, _ => by simp [splice, cs3, c3]
  | x :: vs, i + 1, v, h => by
    have := cs3_set (vs := vs) (i := i) v (by simpa using h)
    simp only [splice, cs3, List.flatMap_cons, List.set_cons_succ] at this ⊢
    rw [← this, show (i + 1) * 3 = (c3 x).length + i * 3 by simp [c3]; omega, List.take_length_add_append, Nat.add_assoc, List.drop_length_add_append]
    simp
theorem cs3_append (a b : List V3) : cs3 (a ++ b) = cs3 a ++ cs3 b := by simp [cs3]

/-- Values at their places: the block D of the pair, the set's block T, the places vs. -/
structure SpOk (S : List Nat) (vs : List V3) : Prop where
  room : ∀ i ∈ S, i < vs.length
  len : vs.length ≤ 65536
  pow : vs.length = 0 ∨ ∃ k, vs.length = 2 ^ k
abbrev spC (T : Nat) (A : Option Addr) (n cap : Nat) : Array Value := #[.pointer (some ⟨T, 0, none⟩), .slice A n cap]
def SpB (D T : Nat) (S : List Nat) (vs : List V3) : As := fun h => SpOk S vs ∧ ∃ A cap, star (blk D (spC T A vs.length cap) 135) (star (own A vs.length cap 40 3 (cs3 vs)) (HSet T S)) h
theorem St.spopen {w0 w : World} {D T : Nat} {S : List Nat} {vs : List V3} {L : List As} (hs : St w0 (SpB D T S vs :: L) w) :
    SpOk S vs ∧ ∃ A cap, St w0 (Ytmdjpeblbnbjmaa.blk D (spC T A vs.length cap) 135 :: own A vs.length cap 40 3 (cs3 vs) :: HSet T S :: L) w := by
  obtain ⟨hb, h, r, hd, hu, a, b, hab, rfl, ⟨hok, A, cap, ht⟩, hl⟩ := hs
  have h1 : St w0 (star (Ytmdjpeblbnbjmaa.blk D (spC T A vs.length cap) 135) (star (own A vs.length cap 40 3 (cs3 vs)) (HSet T S)) :: L) w := ⟨hb, _, r, hd, hu, a, b, hab, rfl, ht, hl⟩
  exact ⟨hok, A, cap, (h1.ent (Ent.open2 fun _ h => h)).ent (Ent.cons _ (Ent.open2 fun _ h => h))⟩
theorem St.spshut {w0 w : World} {D T : Nat} {S : List Nat} {vs : List V3} {L : List As} {A : Option Addr} {cap : Nat} (hok : SpOk S vs) (hs : St w0 (Ytmdjpeblbnbjmaa.blk D (spC T A vs.length cap) 135 :: own A vs.length cap 40 3 (cs3 vs) :: HSet T S :: L) w) : St w0 (SpB D T S vs :: L) w :=
  ((hs.ent (Ent.cons _ (Ent.shut2 fun _ h => h))).ent (Ent.shut2 fun _ h => h)).conv fun _ h => ⟨hok, A, cap, h⟩
theorem Rd.sp0 {w0 : World} {D T n cap : Nat} {A : Option Addr} {L : List As} {t : TypeId} : Rd w0 (Ytmdjpeblbnbjmaa.blk D (spC T A n cap) t :: L) ⟨D, 0, none⟩ (.pointer (some ⟨T, 0, none⟩)) := Rd.blk rfl
theorem Rd.sp1 {w0 : World} {D T n cap : Nat} {A : Option Addr} {L : List As} {t : TypeId} : Rd w0 (Ytmdjpeblbnbjmaa.blk D (spC T A n cap) t :: L) ⟨D, 1, none⟩ (.slice A n cap) := Rd.blk rfl
/-- A row's value, read. -/
theorem Rd.row3 {w0 : World} {g n cap i : Nat} {vs : List V3} {v : V3} {t : TypeId} {L : List As} (h : vs[i]? = some v) : ∀ j u, (c3 v)[j]? = some u → Rd w0 (Ytmdjpeblbnbjmaa.own (some ⟨g, 0, none⟩) n cap t 3 (cs3 vs) :: L) ⟨g, i * 3 + j, none⟩ u :=
  fun j u hu => Rd.own (cs3_get h j u hu)
theorem one3 (v : V3) : ∀ u ∈ c3 v, u.oneCell' = true := by simp [c3]; exact ⟨rfl, rfl, rfl⟩
theorem size3 (v : V3) : (Try.prog.info? 40).map (·.size) = some (val3 v).cells.size := by kernel_rfl
theorem agg3 : aggB Try.prog 40 = true := by kernel_rfl
theorem build3 (w : World) : (Instr.build 40 #[]).run Try.prog w = .ok (val3 V3.z) w := by kernel_rfl
/-- A slot of one's own for a value of three numbers is written. -/
theorem WrA.slot3 {w0 : World} {g : Nat} {u v : V3} {t : TypeId} {L : List As} : WrA w0 (Ytmdjpeblbnbjmaa.blk g (c3 u).toArray t :: L) ⟨g, 0, none⟩ (val3 v).cells.toList (Ytmdjpeblbnbjmaa.blk g (c3 v).toArray t :: L) := by
  have := WrA.blk (w0 := w0) (g := g) (o := 0) (cs := c3 u) (t := t) (vs := c3 v) (L := L) (by simp [c3]) (one3 v)
  rwa [splice_all (by simp [c3])] at this
theorem has_gv {w0 w : World} {L : List As} {T : Nat} {S : List Nat} (hs : St w0 (HSet T S :: L) w) {i : Int} {b : Bool} (h : Hid (memS S i = b)) :
    Calls Try.prog 52 #[.pointer (some ⟨T, 0, none⟩), .int .i64 i] w fun e w' => e = .returned (.bool b) ∧ Grew w w' := by
  rw [← h.out]; exact has_g hs i
theorem memS_in {S : List Nat} {i : Int} (h : memS S i = true) : ∃ j : Nat, i = j ∧ j ∈ S := by
  unfold memS at h
  rw [List.any_eq_true] at h
  obtain ⟨a, ha, h⟩ := h
  exact ⟨a, by have : (a : Int) = i := by simpa using h
               omega, ha⟩
def getV (S : List Nat) (vs : List V3) (i : Int) : V3 := if memS S i then vs.getD i.toNat V3.z else V3.z
theorem sp_get {w0 w : World} {L : List As} {D T : Nat} {S : List Nat} {vs : List V3} (hs : St w0 (SpB D T S vs :: L) w) (i : Int) :
    Calls Try.prog 90 #[.pointer (some ⟨D, 0, none⟩), .int .i64 i] w fun e w' => e = .returned (.tuple #[val3 (getV S vs i), .bool (memS S i)]) ∧ Grew w w' := by
  obtain ⟨hok, A, cap, hs⟩ := hs.spopen
  have hr1 := Rd.sp0 (w0 := w0) (D := D) (T := T) (n := vs.length) (cap := cap) (A := A) (t := 135) (L := own A vs.length cap 40 3 (cs3 vs) :: HSet T S :: L)
  have hr2 := Rd.sp1 (w0 := w0) (D := D) (T := T) (n := vs.length) (cap := cap) (A := A) (t := 135) (L := own A vs.length cap 40 3 (cs3 vs) :: HSet T S :: L)
  have hsT := hs.ent (Ent.skip (Ent.skip (Ent.refl _)))
  obtain ⟨hS, hS2⟩ := hsT.sorted
  cases hm : memS S i with
  | false =>
    have HM := Lib.hid hm
    have HR : Hid (getV S vs i = V3.z) := by unfold getV; rw [hm]; rfl
    clear hm hS hS2
    go_enter Try.func90, Try.ntmps90
    go_upto_region 1 with (fail)
    have hw := (St.start w).alloc (c3 V3.z).toArray 40
    generalize w.heap.size = g4 at hw ⊢
    refine wp_gen hw ?_
    clear hw
    intro w1 hw
    have hc1 := hr1 _ (hs.grew hw.made_grew)
    go_wp2_with (first
      | (go_at_call 52; refine (has_gv (hsT.grew hw.made_grew) HM).mono ?_; clear hc1; rintro e w2 ⟨rfl, hg2⟩; replace hw := hw.grew hg2)
      | (refine wpl_store_agg (v := val3 V3.z) rfl rfl (size3 _) hw WrA.slot3 ?_; clear hw; intro w3 hw))
    refine bodyPost_at (results_cell_tmp Try.results90 rfl (hw.slot_run agg3 (size3 _))) rfl ?_
    exact ⟨by rw [HR.out]; rfl, hw.made_grew⟩
  | true =>
    have HM := Lib.hid hm
    obtain ⟨j, rfl, hj⟩ := memS_in hm
    have hjl := hok.room j hj
    have hj2 := hS2 j hj
    obtain ⟨v, hv⟩ : ∃ v, vs[j]? = some v := ⟨_, List.getElem?_eq_getElem hjl⟩
    have HR : Hid (getV S vs (j : Int) = v) := by
      rw [Hid]; unfold getV; rw [hm]; simp [List.getD, hv]
    obtain ⟨gA, rfl⟩ := (hs.ent (Ent.swap _ _ _)).own_at (by omega)
    have hrv := fun k u hu => (Rd.row3 (w0 := w0) (g := gA) (n := vs.length) (cap := cap) (t := 40) (L := HSet T S :: L) hv k u hu).tail (p := blk D (spC T (some ⟨gA, 0, none⟩) vs.length cap) 135)
    clear hm hS hS2 hv
    go_enter Try.func90, Try.ntmps90
    go_upto_region 1 with (fail)
    have hw := (St.start w).alloc (c3 V3.z).toArray 40
    generalize w.heap.size = g4 at hw ⊢
    refine wp_gen hw ?_
    clear hw
    intro w1 hw
    have hc1 := hr1 _ (hs.grew hw.made_grew)
    go_wp2_with (first
      | (go_at_call 52; refine (has_gv (hsT.grew hw.made_grew) HM).mono ?_; clear hc1; rintro e w2 ⟨rfl, hg2⟩; replace hw := hw.grew hg2; have hc1 := hr1 _ (hs.grew hw.made_grew); have hc2 := hr2 _ (hs.grew hw.made_grew))
      | (refine wpl_load_agg (cs := c3 v) (b := gA) (o := j * 3) rfl agg3 (size3 v) (hs.grew hw.made_grew) hrv ?_)
      | (refine wpl_store_agg (v := val3 v) rfl rfl (size3 _) hw WrA.slot3 ?_; clear hw; intro w3 hw))
    refine bodyPost_at (results_cell_tmp Try.results90 rfl (hw.slot_run agg3 (size3 _))) rfl ?_
    exact ⟨by rw [HR.out]; rfl, hw.made_grew⟩

/-! ### Room -/
/-- The room that is made: from n on, doubled, till it is above i. -/
def up (n i : Nat) : Nat := if 0 < n ∧ n ≤ i then up (n * 2) i else n
termination_by i + 1 - n
theorem up_step {n i : Nat} (h0 : 0 < n) (h : n ≤ i) : up n i = up (n * 2) i := by
  rw [up, if_pos ⟨h0, h⟩]
theorem up_stop {n i : Nat} (h : ¬ n ≤ i) : up n i = n := by
  rw [up, if_neg (fun h2 => h h2.2)]
theorem up_spec (i : Nat) : ∀ (f n k : Nat), i + 1 - n ≤ f → n = 2 ^ k → i < 65536 → n ≤ 65536 → n ≤ up n i ∧ i < up n i ∧ up n i ≤ 65536 ∧ ∃ j, up n i = 2 ^ j
  | 0, n, k, hf, hk, hi, hn => by
    rw [up_stop (by omega)]
    exact ⟨Nat.le_refl _, by omega, hn, k, hk⟩
  | f + 1, n, k, hf, hk, hi, hn => by
    by_cases h : n ≤ i
    · have h0 : 0 < n := by rw [hk]; exact Nat.pow_pos (by decide)
      have hk16 : k < 16 := by
        rw [← Nat.pow_lt_pow_iff_right (a := 2) (by decide)]
        omega
      have h32 : n * 2 ≤ 65536 := by
        have : 2 ^ (k + 1) ≤ 2 ^ 16 := Nat.pow_le_pow_right (by decide) (by omega)
        rw [Nat.pow_succ] at this
        omega
      rw [up_step h0 h]
      have := up_spec i f (n * 2) (k + 1) (by omega) (by rw [Nat.pow_succ, hk]) hi h32
      exact ⟨by omega, this.2⟩
    · rw [up_stop h]
      exact ⟨Nat.le_refl _, by omega, hn, k, hk⟩
def roomV (vs : List V3) (i : Nat) : List V3 := vs ++ List.replicate (up (max vs.length 1) i - vs.length) V3.z
theorem SpOk.up {S : List Nat} {vs : List V3} (h : SpOk S vs) {i : Nat} (hi : i < 65536) : max vs.length 1 ≤ up (max vs.length 1) i ∧ i < up (max vs.length 1) i ∧ up (max vs.length 1) i ≤ 65536 ∧ ∃ j, up (max vs.length 1) i = 2 ^ j := by
  obtain ⟨k, hk⟩ : ∃ k, max vs.length 1 = 2 ^ k := by
    rcases h.pow with h0 | ⟨k, hk⟩
    · exact ⟨0, by omega⟩
    · exact ⟨k, by have : 0 < 2 ^ k := Nat.pow_pos (by decide)
                   omega⟩
  have := h.len
  exact up_spec i _ _ k (Nat.le_refl _) hk hi (by omega)
theorem roomV_len {S : List Nat} {vs : List V3} (h : SpOk S vs) {i : Nat} (hi : i < 65536) : (roomV vs i).length = up (max vs.length 1) i := by
  have := h.up hi
  simp [roomV]
  omega
theorem SpOk.room2 {S : List Nat} {vs : List V3} (h : SpOk S vs) {i : Nat} (hi : i < 65536) : SpOk S (roomV vs i) := by
  obtain ⟨h1, h2, h3, h4⟩ := h.up hi
  refine ⟨fun j hj => ?_, by rw [roomV_len h hi]; exact h3, .inr (by rw [roomV_len h hi]; exact h4)⟩
  have := h.room j hj
  rw [roomV_len h hi]
  omega
theorem elem3 : ElemOk Try.prog 133 40 3 24 := ElemOk.of Try.underlying133 (z := val3 V3.z) (by kernel_rfl) rfl (by decide)
theorem zero3 : (Try.prog.info? 40).bind (·.zero) = some (val3 V3.z) := by kernel_rfl
theorem size_vals : (Try.prog.info? 133).map (·.size) = some 1 := by kernel_rfl
theorem zeros3 (m : Nat) : (Builtin.zeroCells (val3 V3.z).cells m).toList = cs3 (List.replicate m V3.z) := by
  have e1 : ∀ m, cs3 (List.replicate m V3.z) = List.replicate (m * 3) (.int .i64 0) := fun m => by
    induction m with
    | zero => rfl
    | succ m ih =>
      rw [List.replicate_succ]
      simp only [cs3, List.flatMap_cons] at ih ⊢
      rw [ih, Nat.succ_mul, Nat.add_comm, ← List.replicate_append_replicate]
      rfl
  rw [e1]
  apply List.ext_getElem
  · simp [Builtin.zeroCells, val3, Value.cells]
  · intro i h1 h2
    rw [List.getElem_replicate]
    simp only [Builtin.zeroCells, Array.getElem_toList, Array.getElem_map, Array.getElem_range]
    have : i % 3 < 3 := Nat.mod_lt _ (by decide)
    show (#[Value.int .i64 0, Value.int .i64 0, Value.int .i64 0] : Array Value)[i % 3]! = _
    have h3 : i % 3 = 0 ∨ i % 3 = 1 ∨ i % 3 = 2 := by omega
    rcases h3 with h | h | h <;> rw [h] <;> rfl
theorem zeros3_one (vs : List V3) : ∀ u ∈ cs3 vs, u.oneCell' = true := by
  intro u hu
  obtain ⟨v, _, hv⟩ := List.mem_flatMap.1 hu
  exact one3 v u hv
theorem Wr.sp1 {w0 : World} {D T n cap n' cap' : Nat} {A A' : Option Addr} {L : List As} {t : TypeId} : Wr w0 (Ytmdjpeblbnbjmaa.blk D (spC T A n cap) t :: L) ⟨D, 1, none⟩ (.slice A' n' cap') (Ytmdjpeblbnbjmaa.blk D (spC T A' n' cap') t :: L) :=
  Wr.blk (by simp)
theorem sp_room {w0 w : World} {L : List As} {D T : Nat} {S : List Nat} {vs : List V3} (hs : St w0 (SpB D T S vs :: L) w) (i : Nat) (hi : i < 65536) :
    Calls Try.prog 93 #[.pointer (some ⟨D, 0, none⟩), .int .i64 i] w fun e w' => e = .returned (.tuple #[]) ∧ St w0 (SpB D T S (roomV vs i) :: L) w' := by
  obtain ⟨hok, A, cap, hs⟩ := hs.spopen
  have hc2 := Rd.sp1 w hs
  have hup := hok.up hi
  have hlen := hok.len
  have HOK := Lib.hid (hok.room2 hi)
  have HL := Lib.hid (roomV_len hok hi)
  have HV : Hid (roomV vs i = vs ++ List.replicate (up (max vs.length 1) i - vs.length) V3.z) := rfl
  obtain ⟨N, hN⟩ : ∃ N, N = up (max vs.length 1) i := ⟨_, rfl⟩
  rw [← hN] at hup HL HV
  obtain ⟨hu1, hu2, hu3, _⟩ := hup
  have HN := Lib.hid hN.symm
  clear hN hok
  go_enter Try.func93, Try.ntmps93
  go_wp2
  go_loop [4] (fun v => ∃ k : Nat, v = .int .i64 (k : Nat) ∧ Hid (up k i = N) ∧ 1 ≤ k ∧ k ≤ 131072) (fun v => i + 1 - (intOf v).toNat)
  case atStart => exact ⟨max vs.length 1, congrArg _ (by omega), HN, by omega, by omega⟩
  case round =>
    obtain ⟨k, rfl, HK, h1, h2⟩ := hrel
    by_cases hle : k ≤ i
    · have HK2 : Hid (up (k * 2) i = N) := by rw [Hid, ← HK.out]; exact (up_step h1 hle).symm
      clear HK HN HV HL
      go_wp2
      go_round
      case rel => exact ⟨k * 2, by go_num, HK2, by omega, by omega⟩
      case measure => simp [intOf] <;> omega
    · obtain rfl : k = N := by rw [← HK.out]; exact (up_stop hle).symm
      clear HK HN
      by_cases hg : vs.length < k
      · have hsub : ((k - vs.length : Nat) : Int) = (k : Int) - (vs.length : Int) := by omega
        have HS := Lib.hid hsub
        have HV2 : Hid (cs3 vs ++ (Builtin.zeroCells (val3 V3.z).cells (k - vs.length)).toList = cs3 (roomV vs i)) := by rw [Hid, HV.out, cs3_append, zeros3]
        have hkl : vs.length + (k - vs.length) = k := by omega
        have HKL := Lib.hid hkl
        clear hsub HV hkl
        go_wp2
        refine wp_region_plain [false, false, false, false, false, false, false, false, false, false, false, false, true, false, false, true] hs.only (by kernel_rfl) (by kernel_rfl) fun hne => ?_
        have hc := (Rd.sp1 (w0 := w0) (D := D) (T := T) (n := vs.length) (cap := cap) (A := A) (t := 135) (L := [])).alln
        simp only [pickOps]
        repeat (go_big_quiet_step (fail))
        refine wpQuiet_nil ?_
        clear hne hc
        simp only [chainIx]
        refine wpChainP_next rfl ?_
        refine wpl_append_zeros (z := val3 V3.z) (m := k - vs.length) (kq := .i64) elem3 zero3 Try.underlying3 rfl (by rw [HS.out]; rfl) hs.drew.rot (by omega) (by rw [zeros3]; exact zeros3_one _) (by simp only [maxLen]; omega) (by omega) ?_
        intro A' cap' w2 hs2
        rw [HV2.out, HKL.out] at hs2
        rw [HKL.out]
        refine wpList_nil ⟨rfl, hs2.rot.only, ?_⟩
        refine wpChain_last rfl ?_
        refine wpl_store rfl rfl rfl size_vals hs2.rot Wr.sp1 ?_
        intro w3 hs3
        refine wpList_nil ⟨rfl, ?_⟩
        go_wp2
        go_end0
        exact ⟨rfl, by rw [← HL.out] at hs3; exact hs3.spshut HOK.out⟩
      · have hv : roomV vs i = vs := by rw [HV.out, show k - vs.length = 0 by omega]; simp
        have HV2 := Lib.hid hv
        clear HV hv
        go_wp2
        go_end0
        exact ⟨rfl, by rw [HV2.out]; rw [HV2.out] at HOK; exact hs.spshut HOK.out⟩

/-! ### Put -/
theorem getV_room {S : List Nat} {vs : List V3} (h : SpOk S vs) (i : Nat) (j : Int) : getV S (roomV vs i) j = getV S vs j := by
  unfold getV
  cases hm : memS S j with
  | false => rfl
  | true =>
    obtain ⟨k, rfl, hk⟩ := memS_in hm
    have := h.room k hk
    simp only [if_true, Int.toNat_natCast, List.getD]
    rw [roomV, List.getElem?_append_left this]
theorem sp_get_v {w0 w : World} {L : List As} {D T : Nat} {S : List Nat} {vs : List V3} (hs : St w0 (SpB D T S vs :: L) w) {i : Int} {v : V3} {b : Bool} (hv : Hid (getV S vs i = v)) (hb : Hid (memS S i = b)) :
    Calls Try.prog 90 #[.pointer (some ⟨D, 0, none⟩), .int .i64 i] w fun e w' => e = .returned (.tuple #[val3 v, .bool b]) ∧ Grew w w' := by
  rw [← hv.out, ← hb.out]; exact sp_get hs i
theorem add_any {w0 w : World} {L : List As} {T : Nat} {S : List Nat} (hs : St w0 (HSet T S :: L) w) (i : Nat) (hi : i < 16777216) {S' : List Nat} (h : Hid (insS i S = S')) :
    Calls Try.prog 40 #[.pointer (some ⟨T, 0, none⟩), .int .i64 i] w fun e w' => ∃ b x, e = .returned (.tuple #[.bool b, .int .i64 x]) ∧ St w0 (HSet T S' :: L) w' :=
  add_t hs i (by rw [Hid, ← h.out]; unfold addS okN; rw [if_pos (decide_eq_true (by omega))]; simp)
theorem SpOk.put {S : List Nat} {vs : List V3} (h : SpOk S vs) {i : Nat} (hi : i < vs.length) (v : V3) : SpOk (insS i S) (vs.set i v) := by
  refine ⟨fun j hj => ?_, by rw [List.length_set]; exact h.len, by rw [List.length_set]; exact h.pow⟩
  rw [List.length_set]
  rcases mem_insS.1 hj with rfl | hj
  · exact hi
  · exact h.room j hj
set_option maxHeartbeats 1000000 in
theorem sp_put_in {w0 w : World} {L : List As} {D T : Nat} {S : List Nat} {vs : List V3} (hs : St w0 (SpB D T S vs :: L) w) (i : Nat) (hi : i < 65536) (v : V3) :
    Calls Try.prog 91 #[.pointer (some ⟨D, 0, none⟩), .int .i64 i, val3 v] w fun e w' => e = .returned (.tuple #[val3 (getV S vs i), .bool (memS S i)]) ∧ St w0 (SpB D T (insS i S) ((roomV vs i).set i v) :: L) w' := by
  obtain ⟨hok, _⟩ := hs.spopen
  have hil : i < (roomV vs i).length := by rw [roomV_len hok hi]; exact (hok.up hi).2.1
  have HOK := Lib.hid ((hok.room2 hi).put hil v)
  obtain ⟨u, HU⟩ : ∃ u, Hid (getV S (roomV vs i) (i : Int) = u) := ⟨_, rfl⟩
  have HU2 : Hid (getV S vs (i : Int) = u) := by rw [Hid, ← getV_room hok i]; exact HU.out
  obtain ⟨b, HB⟩ : ∃ b, Hid (memS S (i : Int) = b) := ⟨_, rfl⟩
  obtain ⟨S', HS⟩ : ∃ S', Hid (insS i S = S') := ⟨_, rfl⟩
  rw [HU2.out, HB.out, HS.out]
  rw [HS.out] at HOK
  clear hok HU2
  have d0 : decide ((i : Int) < 0) = false := decide_eq_false (by omega)
  have d1 : decide (65536 ≤ (i : Int)) = false := decide_eq_false (by omega)
  go_enter Try.func91, Try.ntmps91
  go_upto_region 3 with (first
    | (refine wpl_box_v (v := val3 v) rfl hs ?_; clear hs; intro g5 w hs)
    | (refine wpl_alloc zero3 hs ?_; clear hs; intro g6 w hs))
  replace hs : St w0 (SpB D T S vs :: blk g5 (c3 v).toArray 40 :: blk g6 (c3 V3.z).toArray 40 :: L) w := (hs.ent (Ent.skip (Ent.skip (Ent.refl _)))).ent (Ent.cons _ (Ent.swap _ _ _))
  go_wp2_with (first
    | (go_at_call 93; refine (sp_room hs i hi).mono ?_; clear hs; rintro e w ⟨rfl, hs⟩)
    | (go_at_call 90; refine (sp_get_v hs HU HB).mono ?_; rintro e w' ⟨rfl, hg⟩; replace hs := hs.grew hg; clear hg)
    | (refine wpl_alloc zero3 hs ?_; clear hs; intro g8 w hs)
    | (refine wpl_store_agg (v := val3 u) rfl rfl (size3 _) hs WrA.slot3 ?_; clear hs; intro w hs))
  obtain ⟨_, A, cap, hs⟩ := hs.rot.spopen
  obtain ⟨gA, rfl⟩ := (hs.ent (Ent.swap _ _ _)).own_at (by omega)
  have hsN := (hs.ent (Ent.cons _ (Ent.skip (Ent.skip (Ent.skip (Ent.refl _)))))).only2
  go_wp2
  refine wp_region_plain [false, false, false, false, false, false, false, true] hsN (by kernel_rfl) (by kernel_rfl) fun hne => ?_
  have hc1 := (Rd.sp1 (w0 := w0) (D := D) (T := T) (n := (roomV vs i).length) (cap := cap) (A := some ⟨gA, 0, none⟩) (t := 135) (L := [blk g5 (c3 v).toArray 40])).alln
  have hcv := fun k u (hu : (c3 v)[k]? = some u) => ((Rd.blk (w0 := w0) (g := g5) (k := k) (cs := (c3 v).toArray) (v := u) (t := 40) (L := []) (by simpa using hu)).tail (p := blk D (spC T (some ⟨gA, 0, none⟩) (roomV vs i).length cap) 135)).alln
  have hv0 := hcv 0 _ rfl
  have hv1 := hcv 1 _ rfl
  have hv2 := hcv 2 _ rfl
  clear hcv
  simp only [pickOps]
  repeat (go_big_quiet_step (fail))
  refine wpQuiet_nil ?_
  clear hne hc1 hv0 hv1 hv2 hsN d0 d1
  simp only [chainIx]
  refine wpChain_last rfl ?_
  refine wpl_store_agg (v := val3 v) rfl rfl (size3 _) (hs.ent (Ent.swap _ _ _)).drew (WrA.own (o := i * 3) (vs := c3 v) (by rw [cs3_len]; simp [c3]; omega) (one3 v)) ?_
  clear hs
  intro w hs
  rw [cs3_set v hil] at hs
  refine wpList_nil ⟨rfl, ?_⟩
  replace hs := hs.ent (Ent.skip (Ent.skip (Ent.refl _)))
  have hr1 := (Rd.sp0 (w0 := w0) (D := D) (T := T) (n := (roomV vs i).length) (cap := cap) (A := some ⟨gA, 0, none⟩) (t := 135) (L := blk g8 (c3 u).toArray 40 :: blk g5 (c3 v).toArray 40 :: blk g6 (c3 V3.z).toArray 40 :: L)).tail (p := own (some ⟨gA, 0, none⟩) (roomV vs i).length cap 40 3 (cs3 ((roomV vs i).set i v))) |>.tail (p := HSet T S)
  have hc1 := hr1 _ hs
  clear hr1
  have hi2 : i < 16777216 := by omega
  go_wp2_with (first
    | (go_at_call 40; refine (add_any hs i hi2 HS).mono ?_; clear hs hc1; rintro e w ⟨b', x', rfl, hs⟩)
    | (refine wpl_load_agg (cs := c3 u) (b := g8) (o := 0) rfl agg3 (size3 u) hs (fun j x hx => by rw [Nat.zero_add]; exact (((Rd.blk (by simpa using hx)).tail).tail).tail) ?_)
    | (refine wpl_store_agg (v := val3 u) rfl rfl (size3 _) (hs.ent (Ent.skip (Ent.skip (Ent.skip (Ent.skip (Ent.skip (Ent.refl _))))))) WrA.slot3 ?_; clear hs; intro w hs))
  refine bodyPost_at (results_cell_tmp Try.results91 rfl (hs.slot_run agg3 (size3 _))) rfl ?_
  refine ⟨rfl, ?_⟩
  have hs2 := hs.drop
  have hs3 : St w0 (blk D (spC T (some ⟨gA, 0, none⟩) (roomV vs i).length cap) 135 :: own (some ⟨gA, 0, none⟩) (roomV vs i).length cap 40 3 (cs3 ((roomV vs i).set i v)) :: HSet T S' :: blk g8 (c3 u).toArray 40 :: blk g5 (c3 v).toArray 40 :: L) w :=
    (hs2.ent (Ent.skip (Ent.skip (Ent.refl _)))).ent (Ent.cons _ (Ent.swap _ _ _))
  rw [show (roomV vs i).length = ((roomV vs i).set i v).length by simp] at hs3
  exact ((hs3.spshut HOK.out).rot.drop).rot.drop

/-! ### Put of any index; Take, New, Room -/
def okI (i : Int) : Bool := decide (0 ≤ i ∧ i < 65536)
def pS (S : List Nat) (i : Int) : List Nat := if okI i then insS i.toNat S else S
def pV (vs : List V3) (i : Int) (v : V3) : List V3 := if okI i then (roomV vs i.toNat).set i.toNat v else vs
def tS (S : List Nat) (i : Int) : List Nat := if memS S i then delS i.toNat S else S
def tV (S : List Nat) (vs : List V3) (i : Int) : List V3 := if memS S i then vs.set i.toNat V3.z else vs
theorem SpOk.out {S : List Nat} {vs : List V3} (h : SpOk S vs) {i : Int} (hi : okI i = false) : memS S i = false := by
  cases hm : memS S i with
  | false => rfl
  | true =>
    obtain ⟨j, rfl, hj⟩ := memS_in hm
    have := h.room j hj
    have := h.len
    have : okI (j : Int) = true := decide_eq_true (by omega)
    rw [this] at hi
    cases hi
theorem sp_put {w0 w : World} {L : List As} {D T : Nat} {S : List Nat} {vs : List V3} (hs : St w0 (SpB D T S vs :: L) w) (i : Int) (v : V3) :
    Calls Try.prog 91 #[.pointer (some ⟨D, 0, none⟩), .int .i64 i, val3 v] w fun e w' => e = .returned (.tuple #[val3 (getV S vs i), .bool (memS S i)]) ∧ St w0 (SpB D T (pS S i) (pV vs i v) :: L) w' := by
  unfold pS pV
  cases hi : okI i with
  | true =>
    have hi2 : 0 ≤ i ∧ i < 65536 := of_decide_eq_true hi
    obtain ⟨j, rfl⟩ := Int.eq_ofNat_of_zero_le hi2.1
    exact sp_put_in hs j (by omega) v
  | false =>
    obtain ⟨hok, _⟩ := hs.spopen
    have hm := hok.out hi
    have HR : Hid (getV S vs i = V3.z) := by
      rw [Hid]; unfold getV; rw [hm]; rfl
    have HM := Lib.hid hm
    have hi2 : ¬ (0 ≤ i ∧ i < 65536) := of_decide_eq_false hi
    rw [HR.out, HM.out]
    clear hm hok hi
    by_cases h0 : i < 0
    all_goals
      go_enter Try.func91, Try.ntmps91
      go_upto_region 2 with (first
        | (refine wpl_box_v (v := val3 v) rfl hs ?_; clear hs; intro g5 w hs)
        | (refine wpl_alloc zero3 hs ?_; clear hs; intro g6 w hs))
      try replace hs : St w0 (blk g6 (c3 V3.z).toArray 40 :: blk g5 (c3 v).toArray 40 :: SpB D T S vs :: L) w := hs
      go_wp2_with (first
        | (refine wpl_store_agg (v := val3 V3.z) rfl rfl (size3 _) hs WrA.slot3 ?_; clear hs; intro w hs))
      refine bodyPost_at (results_cell_tmp Try.results91 rfl (hs.slot_run agg3 (size3 _))) rfl ?_
      exact ⟨rfl, hs.drop.drop⟩
theorem SpOk.take {S : List Nat} {vs : List V3} (h : SpOk S vs) (i : Nat) : SpOk (delS i S) (vs.set i V3.z) := by
  refine ⟨fun j hj => ?_, by rw [List.length_set]; exact h.len, by rw [List.length_set]; exact h.pow⟩
  rw [List.length_set]
  exact h.room j (mem_delS.1 hj).1
theorem remove_any {w0 w : World} {L : List As} {T : Nat} {S : List Nat} (hs : St w0 (HSet T S :: L) w) (i : Nat) (hi : i < 16777216) {S' : List Nat} (h : Hid (delS i S = S')) :
    Calls Try.prog 44 #[.pointer (some ⟨T, 0, none⟩), .int .i64 i] w fun e w' => ∃ b x, e = .returned (.tuple #[.bool b, .int .i64 x]) ∧ St w0 (HSet T S' :: L) w' :=
  (remove_h hs i).mono fun e w' ⟨h1, h2⟩ => ⟨_, _, h1, by
    have e : remS S (i : Int) = S' := by rw [← h.out]; unfold remS okN; rw [if_pos (decide_eq_true (by omega))]; simp
    rw [← e]; exact h2⟩
set_option maxHeartbeats 1000000 in
theorem sp_take {w0 w : World} {L : List As} {D T : Nat} {S : List Nat} {vs : List V3} (hs : St w0 (SpB D T S vs :: L) w) (i : Int) :
    Calls Try.prog 92 #[.pointer (some ⟨D, 0, none⟩), .int .i64 i] w fun e w' => e = .returned (.tuple #[val3 (getV S vs i), .bool (memS S i)]) ∧ St w0 (SpB D T (tS S i) (tV S vs i) :: L) w' := by
  unfold tS tV
  obtain ⟨u, HU⟩ : ∃ u, Hid (getV S vs i = u) := ⟨_, rfl⟩
  rw [HU.out]
  cases hm : memS S i with
  | false =>
    have HB := Lib.hid hm
    clear hm
    go_enter Try.func92, Try.ntmps92
    go_upto_region 1 with (first
      | (refine wpl_alloc zero3 hs ?_; clear hs; intro g4 w hs))
    replace hs : St w0 (SpB D T S vs :: blk g4 (c3 V3.z).toArray 40 :: L) w := hs.rot
    go_wp2_with (first
      | (go_at_call 90; refine (sp_get_v hs HU HB).mono ?_; rintro e w' ⟨rfl, hg⟩; replace hs := hs.grew hg; clear hg)
      | (refine wpl_alloc zero3 hs ?_; clear hs; intro g6 w hs)
      | (refine wpl_load_agg (cs := c3 u) (b := g6) (o := 0) rfl agg3 (size3 u) hs (fun j x hx => by rw [Nat.zero_add]; exact Rd.blk (by simpa using hx)) ?_; replace hs := hs.rot)
      | (refine wpl_store_agg (v := val3 u) rfl rfl (size3 _) hs WrA.slot3 ?_; clear hs; intro w hs)
      | (refine wpl_store_agg (v := val3 u) rfl rfl (size3 _) (hs.ent (Ent.skip (Ent.skip (Ent.refl _)))) WrA.slot3 ?_; clear hs; intro w hs))
    refine bodyPost_at (results_cell_tmp Try.results92 rfl (hs.slot_run agg3 (size3 _))) rfl ?_
    exact ⟨rfl, hs.drop.rot.drop⟩
  | true =>
    have HB := Lib.hid hm
    obtain ⟨j, rfl, hj⟩ := memS_in hm
    obtain ⟨hok, _⟩ := hs.spopen
    have hjl := hok.room j hj
    have hl := hok.len
    have hj2 : j < 16777216 := by omega
    have HOK := Lib.hid (hok.take j)
    obtain ⟨S', HS⟩ : ∃ S', Hid (delS j S = S') := ⟨_, rfl⟩
    simp only [if_true, Int.toNat_natCast]
    rw [HS.out] at HOK ⊢
    clear hm hok hj
    go_enter Try.func92, Try.ntmps92
    go_upto_region 1 with (first
      | (refine wpl_alloc zero3 hs ?_; clear hs; intro g4 w hs))
    replace hs : St w0 (SpB D T S vs :: blk g4 (c3 V3.z).toArray 40 :: L) w := hs.rot
    go_upto_region 3 with (first
      | (go_at_call 90; refine (sp_get_v hs HU HB).mono ?_; rintro e w' ⟨rfl, hg⟩; replace hs := hs.grew hg; clear hg)
      | (refine wpl_alloc zero3 hs ?_; clear hs; intro g6 w hs)
      | (refine wpl_store_agg (v := val3 u) rfl rfl (size3 _) hs WrA.slot3 ?_; clear hs; intro w hs))
    obtain ⟨_, A, cap, hs⟩ := hs.rot.spopen
    obtain ⟨gA, rfl⟩ := (hs.ent (Ent.swap _ _ _)).own_at (by omega)
    replace hs := hs.ent (Ent.skip (Ent.skip (Ent.refl _)))
    have hr1 := (Rd.sp0 (w0 := w0) (D := D) (T := T) (n := vs.length) (cap := cap) (A := some ⟨gA, 0, none⟩) (t := 135) (L := own (some ⟨gA, 0, none⟩) vs.length cap 40 3 (cs3 vs) :: blk g6 (c3 u).toArray 40 :: blk g4 (c3 V3.z).toArray 40 :: L))
    have hr2 := (Rd.sp1 (w0 := w0) (D := D) (T := T) (n := vs.length) (cap := cap) (A := some ⟨gA, 0, none⟩) (t := 135) (L := own (some ⟨gA, 0, none⟩) vs.length cap 40 3 (cs3 vs) :: blk g6 (c3 u).toArray 40 :: blk g4 (c3 V3.z).toArray 40 :: L))
    have hc1 := hr1.tail (p := HSet T S) _ hs
    go_wp2_with (first
      | (go_at_call 44; refine (remove_any hs j hj2 HS).mono ?_; clear hs hc1; rintro e w ⟨b', x', rfl, hs⟩; have hc2 := hr2.tail (p := HSet T S') _ hs)
      | (refine wpl_store_agg (v := val3 V3.z) rfl rfl (size3 _) (hs.ent (Ent.skip (Ent.skip (Ent.refl _)))) (WrA.own (o := j * 3) (vs := c3 V3.z) (by rw [cs3_len]; simp [c3]; omega) (one3 _)) ?_; clear hs hc2; intro w hs; rw [cs3_set V3.z hjl] at hs)
      | (refine wpl_load_agg (cs := c3 u) (b := g6) (o := 0) rfl agg3 (size3 u) hs (fun j x hx => by rw [Nat.zero_add]; exact (((Rd.blk (by simpa using hx)).tail).tail).tail) ?_)
      | (refine wpl_store_agg (v := val3 u) rfl rfl (size3 _) (hs.ent (Ent.skip (Ent.skip (Ent.skip (Ent.skip (Ent.refl _)))))) WrA.slot3 ?_; clear hs; intro w hs))
    refine bodyPost_at (results_cell_tmp Try.results92 rfl (hs.slot_run agg3 (size3 _))) rfl ?_
    refine ⟨rfl, ?_⟩
    have hs2 := hs.drop.ent (Ent.skip (Ent.skip (Ent.refl _)))
    rw [show vs.length = (vs.set j V3.z).length by simp] at hs2
    exact (hs2.spshut HOK.out).rot.drop
theorem spOk_nil : SpOk [] [] := ⟨(fun _ h => nomatch h), by decide, .inl rfl⟩
theorem new_nil {w0 w : World} {L : List As} (hs : St w0 L w) :
    Calls Try.prog 36 #[.slice none 0 0] w fun e w' => ∃ T, e = .returned (.pointer (some ⟨T, 0, none⟩)) ∧ St w0 (HSet T [] :: L) w' :=
  new_h (zs := []) hs RdS.nil (by simp [maxLen])
theorem build_sp (T : Nat) (w : World) : (Instr.build 135 #[(0, .pointer (some ⟨T, 0, none⟩))]).run Try.prog w = .ok (.agg (spC T none 0 0)) w := by kernel_rfl
theorem sp_new {w0 w : World} {L : List As} (hs : St w0 L w) :
    Calls Try.prog 48 #[] w fun e w' => ∃ D T, e = .returned (.pointer (some ⟨D, 0, none⟩)) ∧ St w0 (SpB D T [] [] :: L) w' := by
  go_enter Try.func48, Try.ntmps48
  go_wp2_with (first
    | (go_at_call 36; refine (new_nil hs).mono ?_; clear hs; rintro e w ⟨T, rfl, hs⟩)
    | (refine wpl_box_v (v := .agg (spC T none 0 0)) rfl hs ?_; clear hs; intro D w hs))
  go_ret
  exact ⟨D, T, rfl, (((hs.own_nil 40 3).ent (Ent.swap _ _ _))).spshut spOk_nil⟩
/-- How many there are: the set's Len, behind the pair's pointer. -/
theorem Rd.spb {w0 w : World} {L : List As} {D T : Nat} {S : List Nat} {vs : List V3} (hs : St w0 (SpB D T S vs :: L) w) : w.cell? ⟨D, 0, none⟩ = some (.pointer (some ⟨T, 0, none⟩)) := by
  obtain ⟨_, A, cap, hs⟩ := hs.spopen
  exact Rd.sp0 w hs
theorem sp_len {w0 w : World} {L : List As} {D T : Nat} {S : List Nat} {vs : List V3} (hs : St w0 (SpB D T S vs :: L) w) :
    Calls Try.prog 85 #[.pointer (some ⟨T, 0, none⟩)] w fun e w' => e = .returned (.int .i64 (S.length : Nat)) ∧ w = w' := by
  obtain ⟨_, A, cap, hs⟩ := hs.spopen
  exact hlen_h (hs.ent (Ent.skip (Ent.skip (Ent.refl _))))
end Go.Proofs.Ytmdjpeblbnbjmaa
