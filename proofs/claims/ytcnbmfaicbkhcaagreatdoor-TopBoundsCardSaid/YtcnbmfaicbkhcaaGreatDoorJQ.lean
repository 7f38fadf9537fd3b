/-
  XJQ: joined of XSp XR4 XMap XDnLaw.
-/
import Derived.Test.YtcnbmfaicbkhcaaGreatDoorJB
import Derived.Test.YtcnbmfaicbkhcaaGreatDoorJA
import Derived.Maps.OwnSet
/-
  The contracts of values at their places (sparse): Get, room, Put, Take, New, Room.
-/
set_option maxRecDepth 100000
namespace Go.Proofs.YtcnbmfaicbkhcaaGreatDoor
open Go Go.RowKit
attribute [local irreducible] wpList Calls Code.wp

/-! ### Values of three numbers, rows of them -/
structure V3 where
  k : Int
  a : Int
  b : Int
  deriving DecidableEq
def V3.z : V3 := ⟨0, 0, 0⟩
def c3 (v : V3) : List Value := [.int .i64 v.k, .int .i64 v.a, .int .i64 v.b]
def val3 (v : V3) : Value := .agg #[.int .i64 v.k, .int .i64 v.a, .int .i64 v.b]
def cs3 (vs : List V3) : List Value := vs.flatMap c3
theorem cs3_len : ∀ vs : List V3, (cs3 vs).length = vs.length * 3
  | [] => rfl
  | v :: vs => by
    have := cs3_len vs
    simp only [cs3, List.flatMap_cons, List.length_append, List.length_cons] at this ⊢
    rw [this]
    simp [c3]
    omega
theorem cs3_get : ∀ {vs : List V3} {i : Nat} {v : V3}, vs[i]? = some v → ∀ j u, (c3 v)[j]? = some u → (cs3 vs)[i * 3 + j]? = some u
  | [], i, v, h, _, _, _ => by simp at h
  | x :: vs, 0, v, h, j, u, hu => by
    simp at h
    subst h
    have hj : j < (c3 x).length := (List.getElem?_eq_some_iff.1 hu).1
    simp only [cs3, List.flatMap_cons]
    rw [Nat.zero_mul, Nat.zero_add, List.getElem?_append_left hj, hu]
  | x :: vs, i + 1, v, h, j, u, hu => by
    have := cs3_get (vs := vs) (i := i) (v := v) (by simpa using h) j u hu
    simp only [cs3, List.flatMap_cons]
    rw [List.getElem?_append_right (by simp [c3]; omega)]
    simp only [cs3] at this
    rw [← this]
    congr 1
    simp [c3]
    omega
theorem cs3_set : ∀ {vs : List V3} {i : Nat} (v : V3), i < vs.length → splice (cs3 vs) (i * 3) (c3 v) = cs3 (vs.set i v)
  | [], i, v, h => by simp at h
  | x :: vs, 0, v, _ => by simp [splice, cs3, c3]
  | x :: vs, i + 1, v, h => by
    have := cs3_set (vs := vs) (i := i) v (by simpa using h)
    simp only [splice, cs3, List.flatMap_cons, List.set_cons_succ] at this ⊢
    rw [← this, show (i + 1) * 3 = (c3 x).length + i * 3 by simp [c3]; omega, List.take_length_add_append, Nat.add_assoc, List.drop_length_add_append]
    simp
theorem cs3_append (a b : List V3) : cs3 (a ++ b) = cs3 a ++ cs3 b := by simp [cs3]

/-- Values at their places: the block D of the pair, the set's block T, the places vs. -/
structure SpOk (S : List Nat) (vs : List V3) : Prop where
  room : ∀ i ∈ S, i < vs.length
  len : vs.length ≤ 65536
  pow : vs.length = 0 ∨ ∃ k, vs.length = 2 ^ k
abbrev spC (T : Nat) (A : Option Addr) (n cap : Nat) : Array Value := #[.pointer (some ⟨T, 0, none⟩), .slice A n cap]
def SpB (D T : Nat) (S : List Nat) (vs : List V3) : As := fun h => SpOk S vs ∧ ∃ A cap, star (blk D (spC T A vs.length cap) 464) (star (own A vs.length cap 41 3 (cs3 vs)) (HSet T S)) h
theorem St.spopen {w0 w : World} {D T : Nat} {S : List Nat} {vs : List V3} {L : List As} (hs : St w0 (SpB D T S vs :: L) w) :
    SpOk S vs ∧ ∃ A cap, St w0 (YtcnbmfaicbkhcaaGreatDoor.blk D (spC T A vs.length cap) 464 :: own A vs.length cap 41 3 (cs3 vs) :: HSet T S :: L) w := by
  obtain ⟨hb, h, r, hd, hu, a, b, hab, rfl, ⟨hok, A, cap, ht⟩, hl⟩ := hs
  have h1 : St w0 (star (YtcnbmfaicbkhcaaGreatDoor.blk D (spC T A vs.length cap) 464) (star (own A vs.length cap 41 3 (cs3 vs)) (HSet T S)) :: L) w := ⟨hb, _, r, hd, hu, a, b, hab, rfl, ht, hl⟩
  exact ⟨hok, A, cap, (h1.ent (Ent.open2 fun _ h => h)).ent (Ent.cons _ (Ent.open2 fun _ h => h))⟩
theorem St.spshut {w0 w : World} {D T : Nat} {S : List Nat} {vs : List V3} {L : List As} {A : Option Addr} {cap : Nat} (hok : SpOk S vs) (hs : St w0 (YtcnbmfaicbkhcaaGreatDoor.blk D (spC T A vs.length cap) 464 :: own A vs.length cap 41 3 (cs3 vs) :: HSet T S :: L) w) : St w0 (SpB D T S vs :: L) w :=
  ((hs.ent (Ent.cons _ (Ent.shut2 fun _ h => h))).ent (Ent.shut2 fun _ h => h)).conv fun _ h => ⟨hok, A, cap, h⟩
theorem Rd.sp0 {w0 : World} {D T n cap : Nat} {A : Option Addr} {L : List As} {t : TypeId} : Rd w0 (YtcnbmfaicbkhcaaGreatDoor.blk D (spC T A n cap) t :: L) ⟨D, 0, none⟩ (.pointer (some ⟨T, 0, none⟩)) := Rd.blk rfl
theorem Rd.sp1 {w0 : World} {D T n cap : Nat} {A : Option Addr} {L : List As} {t : TypeId} : Rd w0 (YtcnbmfaicbkhcaaGreatDoor.blk D (spC T A n cap) t :: L) ⟨D, 1, none⟩ (.slice A n cap) := Rd.blk rfl
/-- A row's value, read. -/
theorem Rd.row3 {w0 : World} {g n cap i : Nat} {vs : List V3} {v : V3} {t : TypeId} {L : List As} (h : vs[i]? = some v) : ∀ j u, (c3 v)[j]? = some u → Rd w0 (YtcnbmfaicbkhcaaGreatDoor.own (some ⟨g, 0, none⟩) n cap t 3 (cs3 vs) :: L) ⟨g, i * 3 + j, none⟩ u :=
  fun j u hu => Rd.own (cs3_get h j u hu)
theorem one3 (v : V3) : ∀ u ∈ c3 v, u.oneCell' = true := by simp [c3]; exact ⟨rfl, rfl, rfl⟩
theorem size3 (v : V3) : (Tryz.prog.info? 41).map (·.size) = some (val3 v).cells.size := by kernel_rfl
theorem agg3 : aggB Tryz.prog 41 = true := by kernel_rfl
theorem build3 (w : World) : (Instr.build 41 #[]).run Tryz.prog w = .ok (val3 V3.z) w := by kernel_rfl
/-- A slot of one's own for a value of three numbers is written. -/
theorem WrA.slot3 {w0 : World} {g : Nat} {u v : V3} {t : TypeId} {L : List As} : WrA w0 (YtcnbmfaicbkhcaaGreatDoor.blk g (c3 u).toArray t :: L) ⟨g, 0, none⟩ (val3 v).cells.toList (YtcnbmfaicbkhcaaGreatDoor.blk g (c3 v).toArray t :: L) := by
  have := WrA.blk (w0 := w0) (g := g) (o := 0) (cs := c3 u) (t := t) (vs := c3 v) (L := L) (by simp [c3]) (one3 v)
  rwa [splice_all (by simp [c3])] at this
theorem has_gv {w0 w : World} {L : List As} {T : Nat} {S : List Nat} (hs : St w0 (HSet T S :: L) w) {i : Int} {b : Bool} (h : Hid (memS S i = b)) :
    Calls Tryz.prog 69 #[.pointer (some ⟨T, 0, none⟩), .int .i64 i] w fun e w' => e = .returned (.bool b) ∧ Grew w w' := by
  rw [← h.out]; exact has_g hs i
theorem memS_in {S : List Nat} {i : Int} (h : memS S i = true) : ∃ j : Nat, i = j ∧ j ∈ S := by
  unfold memS at h
  rw [List.any_eq_true] at h
  obtain ⟨a, ha, h⟩ := h
  exact ⟨a, by have : (a : Int) = i := by simpa using h
               omega, ha⟩
def getV (S : List Nat) (vs : List V3) (i : Int) : V3 := if memS S i then vs.getD i.toNat V3.z else V3.z
theorem sp_get {w0 w : World} {L : List As} {D T : Nat} {S : List Nat} {vs : List V3} (hs : St w0 (SpB D T S vs :: L) w) (i : Int) :
    Calls Tryz.prog 396 #[.pointer (some ⟨D, 0, none⟩), .int .i64 i] w fun e w' => e = .returned (.tuple #[val3 (getV S vs i), .bool (memS S i)]) ∧ Grew w w' := by
  obtain ⟨hok, A, cap, hs⟩ := hs.spopen
  have hr1 := Rd.sp0 (w0 := w0) (D := D) (T := T) (n := vs.length) (cap := cap) (A := A) (t := 464) (L := own A vs.length cap 41 3 (cs3 vs) :: HSet T S :: L)
  have hr2 := Rd.sp1 (w0 := w0) (D := D) (T := T) (n := vs.length) (cap := cap) (A := A) (t := 464) (L := own A vs.length cap 41 3 (cs3 vs) :: HSet T S :: L)
  have hsT := hs.ent (Ent.skip (Ent.skip (Ent.refl _)))
  obtain ⟨hS, hS2⟩ := hsT.sorted
  cases hm : memS S i with
  | false =>
    have HM := Lib.hid hm
    have HR : Hid (getV S vs i = V3.z) := by unfold getV; rw [hm]; rfl
    clear hm hS hS2
    go_enter Tryz.func396, Tryz.ntmps396
    go_upto_region 1 with (fail)
    have hw := (St.start w).alloc (c3 V3.z).toArray 41
    generalize w.heap.size = g4 at hw ⊢
    refine wp_gen hw ?_
    clear hw
    intro w1 hw
    have hc1 := hr1 _ (hs.grew hw.made_grew)
    go_wp2_with (first
      | (go_at_call 69; refine (has_gv (hsT.grew hw.made_grew) HM).mono ?_; clear hc1; rintro e w2 ⟨rfl, hg2⟩; replace hw := hw.grew hg2)
      | (refine wpl_store_agg (v := val3 V3.z) rfl rfl (size3 _) hw WrA.slot3 ?_; clear hw; intro w3 hw))
    refine bodyPost_at (results_cell_tmp Tryz.results396 rfl (hw.slot_run agg3 (size3 _))) rfl ?_
    exact ⟨by rw [HR.out]; rfl, hw.made_grew⟩
  | true =>
    have HM := Lib.hid hm
    obtain ⟨j, rfl, hj⟩ := memS_in hm
    have hjl := hok.room j hj
    have hj2 := hS2 j hj
    obtain ⟨v, hv⟩ : ∃ v, vs[j]? = some v := ⟨_, List.getElem?_eq_getElem hjl⟩
    have HR : Hid (getV S vs (j : Int) = v) := by
      rw [Hid]; unfold getV; rw [hm]; simp [List.getD, hv]
    obtain ⟨gA, rfl⟩ := (hs.ent (Ent.swap _ _ _)).own_at (by omega)
    have hrv := fun k u hu => (Rd.row3 (w0 := w0) (g := gA) (n := vs.length) (cap := cap) (t := 41) (L := HSet T S :: L) hv k u hu).tail (p := blk D (spC T (some ⟨gA, 0, none⟩) vs.length cap) 464)
    clear hm hS hS2 hv
    go_enter Tryz.func396, Tryz.ntmps396
    go_upto_region 1 with (fail)
    have hw := (St.start w).alloc (c3 V3.z).toArray 41
    generalize w.heap.size = g4 at hw ⊢
    refine wp_gen hw ?_
    clear hw
    intro w1 hw
    have hc1 := hr1 _ (hs.grew hw.made_grew)
    go_wp2_with (first
      | (go_at_call 69; refine (has_gv (hsT.grew hw.made_grew) HM).mono ?_; clear hc1; rintro e w2 ⟨rfl, hg2⟩; replace hw := hw.grew hg2; have hc1 := hr1 _ (hs.grew hw.made_grew); have hc2 := hr2 _ (hs.grew hw.made_grew))
      | (refine wpl_load_agg (cs := c3 v) (b := gA) (o := j * 3) rfl agg3 (size3 v) (hs.grew hw.made_grew) hrv ?_)
      | (refine wpl_store_agg (v := val3 v) rfl rfl (size3 _) hw WrA.slot3 ?_; clear hw; intro w3 hw))
    refine bodyPost_at (results_cell_tmp Tryz.results396 rfl (hw.slot_run agg3 (size3 _))) rfl ?_
    exact ⟨by rw [HR.out]; rfl, hw.made_grew⟩

/-! ### Room -/
/-- The room that is made: from n on, doubled, till it is above i. -/
def up (n i : Nat) : Nat := if 0 < n ∧ n ≤ i then up (n * 2) i else n
termination_by i + 1 - n
theorem up_step {n i : Nat} (h0 : 0 < n) (h : n ≤ i) : up n i = up (n * 2) i := by
  rw [up, if_pos ⟨h0, h⟩]
theorem up_stop {n i : Nat} (h : ¬ n ≤ i) : up n i = n := by
  rw [up, if_neg (fun h2 => h h2.2)]
theorem up_spec (i : Nat) : ∀ (f n k : Nat), i + 1 - n ≤ f → n = 2 ^ k → i < 65536 → n ≤ 65536 → n ≤ up n i ∧ i < up n i ∧ up n i ≤ 65536 ∧ ∃ j, up n i = 2 ^ j
  | 0, n, k, hf, hk, hi, hn => by
    rw [up_stop (by omega)]
    exact ⟨Nat.le_refl _, by omega, hn, k, hk⟩
  | f + 1, n, k, hf, hk, hi, hn => by
    by_cases h : n ≤ i
    · have h0 : 0 < n := by rw [hk]; exact Nat.pow_pos (by decide)
      have hk16 : k < 16 := by
        rw [← Nat.pow_lt_pow_iff_right (a := 2) (by decide)]
        omega
      have h32 : n * 2 ≤ 65536 := by
        have : 2 ^ (k + 1) ≤ 2 ^ 16 := Nat.pow_le_pow_right (by decide) (by omega)
        rw [Nat.pow_succ] at this
        omega
      rw [up_step h0 h]
      have := up_spec i f (n * 2) (k + 1) (by omega) (by rw [Nat.pow_succ, hk]) hi h32
      exact ⟨by omega, this.2⟩
    · rw [up_stop h]
      exact ⟨Nat.le_refl _, by omega, hn, k, hk⟩
def roomV (vs : List V3) (i : Nat) : List V3 := vs ++ List.replicate (up (max vs.length 1) i - vs.length) V3.z
theorem SpOk.up {S : List Nat} {vs : List V3} (h : SpOk S vs) {i : Nat} (hi : i < 65536) : max vs.length 1 ≤ up (max vs.length 1) i ∧ i < up (max vs.length 1) i ∧ up (max vs.length 1) i ≤ 65536 ∧ ∃ j, up (max vs.length 1) i = 2 ^ j := by
  obtain ⟨k, hk⟩ : ∃ k, max vs.length 1 = 2 ^ k := by
    rcases h.pow with h0 | ⟨k, hk⟩
    · exact ⟨0, by omega⟩
    · exact ⟨k, by have : 0 < 2 ^ k := Nat.pow_pos (by decide)
                   omega⟩
  have := h.len
  exact up_spec i _ _ k (Nat.le_refl _) hk hi (by omega)
theorem roomV_len {S : List Nat} {vs : List V3} (h : SpOk S vs) {i : Nat} (hi : i < 65536) : (roomV vs i).length = up (max vs.length 1) i := by
  have := h.up hi
  simp [roomV]
  omega
theorem SpOk.room2 {S : List Nat} {vs : List V3} (h : SpOk S vs) {i : Nat} (hi : i < 65536) : SpOk S (roomV vs i) := by
  obtain ⟨h1, h2, h3, h4⟩ := h.up hi
  refine ⟨fun j hj => ?_, by rw [roomV_len h hi]; exact h3, .inr (by rw [roomV_len h hi]; exact h4)⟩
  have := h.room j hj
  rw [roomV_len h hi]
  omega
theorem elem3 : ElemOk Tryz.prog 43 41 3 24 := ElemOk.of Tryz.underlying43 (z := val3 V3.z) (by kernel_rfl) rfl (by decide)
theorem zero3 : (Tryz.prog.info? 41).bind (·.zero) = some (val3 V3.z) := by kernel_rfl
theorem size_vals : (Tryz.prog.info? 43).map (·.size) = some 1 := by kernel_rfl
theorem zeros3 (m : Nat) : (Builtin.zeroCells (val3 V3.z).cells m).toList = cs3 (List.replicate m V3.z) := by
  have e1 : ∀ m, cs3 (List.replicate m V3.z) = List.replicate (m * 3) (.int .i64 0) := fun m => by
    induction m with
    | zero => rfl
    | succ m ih =>
      rw [List.replicate_succ]
      simp only [cs3, List.flatMap_cons] at ih ⊢
      rw [ih, Nat.succ_mul, Nat.add_comm, ← List.replicate_append_replicate]
      rfl
  rw [e1]
  apply List.ext_getElem
  · simp [Builtin.zeroCells, val3, Value.cells]
  · intro i h1 h2
    rw [List.getElem_replicate]
    simp only [Builtin.zeroCells, Array.getElem_toList, Array.getElem_map, Array.getElem_range]
    have : i % 3 < 3 := Nat.mod_lt _ (by decide)
    show (#[Value.int .i64 0, Value.int .i64 0, Value.int .i64 0] : Array Value)[i % 3]! = _
    have h3 : i % 3 = 0 ∨ i % 3 = 1 ∨ i % 3 = 2 := by omega
    rcases h3 with h | h | h <;> rw [h] <;> rfl
theorem zeros3_one (vs : List V3) : ∀ u ∈ cs3 vs, u.oneCell' = true := by
  intro u hu
  obtain ⟨v, _, hv⟩ := List.mem_flatMap.1 hu
  exact one3 v u hv
theorem Wr.sp1 {w0 : World} {D T n cap n' cap' : Nat} {A A' : Option Addr} {L : List As} {t : TypeId} : Wr w0 (YtcnbmfaicbkhcaaGreatDoor.blk D (spC T A n cap) t :: L) ⟨D, 1, none⟩ (.slice A' n' cap') (YtcnbmfaicbkhcaaGreatDoor.blk D (spC T A' n' cap') t :: L) :=
  Wr.blk (by simp)
theorem sp_room {w0 w : World} {L : List As} {D T : Nat} {S : List Nat} {vs : List V3} (hs : St w0 (SpB D T S vs :: L) w) (i : Nat) (hi : i < 65536) :
    Calls Tryz.prog 399 #[.pointer (some ⟨D, 0, none⟩), .int .i64 i] w fun e w' => e = .returned (.tuple #[]) ∧ St w0 (SpB D T S (roomV vs i) :: L) w' := by
  obtain ⟨hok, A, cap, hs⟩ := hs.spopen
  have hc2 := Rd.sp1 w hs
  have hup := hok.up hi
  have hlen := hok.len
  have HOK := Lib.hid (hok.room2 hi)
  have HL := Lib.hid (roomV_len hok hi)
  have HV : Hid (roomV vs i = vs ++ List.replicate (up (max vs.length 1) i - vs.length) V3.z) := rfl
  obtain ⟨N, hN⟩ : ∃ N, N = up (max vs.length 1) i := ⟨_, rfl⟩
  rw [← hN] at hup HL HV
  obtain ⟨hu1, hu2, hu3, _⟩ := hup
  have HN := Lib.hid hN.symm
  clear hN hok
  go_enter Tryz.func399, Tryz.ntmps399
  go_wp2
  go_loop [4] (fun v => ∃ k : Nat, v = .int .i64 (k : Nat) ∧ Hid (up k i = N) ∧ 1 ≤ k ∧ k ≤ 131072) (fun v => i + 1 - (intOf v).toNat)
  case atStart => exact ⟨max vs.length 1, congrArg _ (by omega), HN, by omega, by omega⟩
  case round =>
    obtain ⟨k, rfl, HK, h1, h2⟩ := hrel
    by_cases hle : k ≤ i
    · have HK2 : Hid (up (k * 2) i = N) := by rw [Hid, ← HK.out]; exact (up_step h1 hle).symm
      clear HK HN HV HL
      go_wp2
      go_round
      case rel => exact ⟨k * 2, by go_num, HK2, by omega, by omega⟩
      case measure => simp [intOf] <;> omega
    · obtain rfl : k = N := by rw [← HK.out]; exact (up_stop hle).symm
      clear HK HN
      by_cases hg : vs.length < k
      · have hsub : ((k - vs.length : Nat) : Int) = (k : Int) - (vs.length : Int) := by omega
        have HS := Lib.hid hsub
        have HV2 : Hid (cs3 vs ++ (Builtin.zeroCells (val3 V3.z).cells (k - vs.length)).toList = cs3 (roomV vs i)) := by rw [Hid, HV.out, cs3_append, zeros3]
        have hkl : vs.length + (k - vs.length) = k := by omega
        have HKL := Lib.hid hkl
        clear hsub HV hkl
        go_wp2
        refine wp_region_plain [false, false, false, false, false, false, false, false, false, false, false, false, true, false, false, true] hs.only (by kernel_rfl) (by kernel_rfl) fun hne => ?_
        have hc := (Rd.sp1 (w0 := w0) (D := D) (T := T) (n := vs.length) (cap := cap) (A := A) (t := 464) (L := [])).alln
        simp only [pickOps]
        repeat (go_big_quiet_step (fail))
        refine wpQuiet_nil ?_
        clear hne hc
        simp only [chainIx]
        refine wpChainP_next rfl ?_
        refine wpl_append_zeros (z := val3 V3.z) (m := k - vs.length) (kq := .i64) elem3 zero3 Tryz.underlying3 rfl (by rw [HS.out]; rfl) hs.drew.rot (by omega) (by rw [zeros3]; exact zeros3_one _) (by simp only [maxLen]; omega) (by omega) ?_
        intro A' cap' w2 hs2
        rw [HV2.out, HKL.out] at hs2
        rw [HKL.out]
        refine wpList_nil ⟨rfl, hs2.rot.only, ?_⟩
        refine wpChain_last rfl ?_
        refine wpl_store rfl rfl rfl size_vals hs2.rot Wr.sp1 ?_
        intro w3 hs3
        refine wpList_nil ⟨rfl, ?_⟩
        go_wp2
        go_end0
        exact ⟨rfl, by rw [← HL.out] at hs3; exact hs3.spshut HOK.out⟩
      · have hv : roomV vs i = vs := by rw [HV.out, show k - vs.length = 0 by omega]; simp
        have HV2 := Lib.hid hv
        clear HV hv
        go_wp2
        go_end0
        exact ⟨rfl, by rw [HV2.out]; rw [HV2.out] at HOK; exact hs.spshut HOK.out⟩

/-! ### Put -/
theorem getV_room {S : List Nat} {vs : List V3} (h : SpOk S vs) (i : Nat) (j : Int) : getV S (roomV vs i) j = getV S vs j := by
  unfold getV
  cases hm : memS S j with
  | false => rfl
  | true =>
    obtain ⟨k, rfl, hk⟩ := memS_in hm
    have := h.room k hk
    simp only [if_true, Int.toNat_natCast, List.getD]
    rw [roomV, List.getElem?_append_left this]
theorem sp_get_v {w0 w : World} {L : List As} {D T : Nat} {S : List Nat} {vs : List V3} (hs : St w0 (SpB D T S vs :: L) w) {i : Int} {v : V3} {b : Bool} (hv : Hid (getV S vs i = v)) (hb : Hid (memS S i = b)) :
    Calls Tryz.prog 396 #[.pointer (some ⟨D, 0, none⟩), .int .i64 i] w fun e w' => e = .returned (.tuple #[val3 v, .bool b]) ∧ Grew w w' := by
  rw [← hv.out, ← hb.out]; exact sp_get hs i
theorem add_any {w0 w : World} {L : List As} {T : Nat} {S : List Nat} (hs : St w0 (HSet T S :: L) w) (i : Nat) (hi : i < 16777216) {S' : List Nat} (h : Hid (insS i S = S')) :
    Calls Tryz.prog 243 #[.pointer (some ⟨T, 0, none⟩), .int .i64 i] w fun e w' => ∃ b x, e = .returned (.tuple #[.bool b, .int .i64 x]) ∧ St w0 (HSet T S' :: L) w' :=
  add_t hs i (by rw [Hid, ← h.out]; unfold addS okN; rw [if_pos (decide_eq_true (by omega))]; simp)
theorem SpOk.put {S : List Nat} {vs : List V3} (h : SpOk S vs) {i : Nat} (hi : i < vs.length) (v : V3) : SpOk (insS i S) (vs.set i v) := by
  refine ⟨fun j hj => ?_, by rw [List.length_set]; exact h.len, by rw [List.length_set]; exact h.pow⟩
  rw [List.length_set]
  rcases mem_insS.1 hj with rfl | hj
  · exact hi
  · exact h.room j hj
set_option maxHeartbeats 1000000 in
theorem sp_put_in {w0 w : World} {L : List As} {D T : Nat} {S : List Nat} {vs : List V3} (hs : St w0 (SpB D T S vs :: L) w) (i : Nat) (hi : i < 65536) (v : V3) :
    Calls Tryz.prog 397 #[.pointer (some ⟨D, 0, none⟩), .int .i64 i, val3 v] w fun e w' => e = .returned (.tuple #[val3 (getV S vs i), .bool (memS S i)]) ∧ St w0 (SpB D T (insS i S) ((roomV vs i).set i v) :: L) w' := by
  obtain ⟨hok, _⟩ := hs.spopen
  have hil : i < (roomV vs i).length := by rw [roomV_len hok hi]; exact (hok.up hi).2.1
  have HOK := Lib.hid ((hok.room2 hi).put hil v)
  obtain ⟨u, HU⟩ : ∃ u, Hid (getV S (roomV vs i) (i : Int) = u) := ⟨_, rfl⟩
  have HU2 : Hid (getV S vs (i : Int) = u) := by rw [Hid, ← getV_room hok i]; exact HU.out
  obtain ⟨b, HB⟩ : ∃ b, Hid (memS S (i : Int) = b) := ⟨_, rfl⟩
  obtain ⟨S', HS⟩ : ∃ S', Hid (insS i S = S') := ⟨_, rfl⟩
  rw [HU2.out, HB.out, HS.out]
  rw [HS.out] at HOK
  clear hok HU2
  have d0 : decide ((i : Int) < 0) = false := decide_eq_false (by omega)
  have d1 : decide (65536 ≤ (i : Int)) = false := decide_eq_false (by omega)
  go_enter Tryz.func397, Tryz.ntmps397
  go_upto_region 3 with (first
    | (refine wpl_box_v (v := val3 v) rfl hs ?_; clear hs; intro g5 w hs)
    | (refine wpl_alloc zero3 hs ?_; clear hs; intro g6 w hs))
  replace hs : St w0 (SpB D T S vs :: blk g5 (c3 v).toArray 41 :: blk g6 (c3 V3.z).toArray 41 :: L) w := (hs.ent (Ent.skip (Ent.skip (Ent.refl _)))).ent (Ent.cons _ (Ent.swap _ _ _))
  go_wp2_with (first
    | (go_at_call 399; refine (sp_room hs i hi).mono ?_; clear hs; rintro e w ⟨rfl, hs⟩)
    | (go_at_call 396; refine (sp_get_v hs HU HB).mono ?_; rintro e w' ⟨rfl, hg⟩; replace hs := hs.grew hg; clear hg)
    | (refine wpl_alloc zero3 hs ?_; clear hs; intro g8 w hs)
    | (refine wpl_store_agg (v := val3 u) rfl rfl (size3 _) hs WrA.slot3 ?_; clear hs; intro w hs))
  obtain ⟨_, A, cap, hs⟩ := hs.rot.spopen
  obtain ⟨gA, rfl⟩ := (hs.ent (Ent.swap _ _ _)).own_at (by omega)
  have hsN := (hs.ent (Ent.cons _ (Ent.skip (Ent.skip (Ent.skip (Ent.refl _)))))).only2
  go_wp2
  refine wp_region_plain [false, false, false, false, false, false, false, true] hsN (by kernel_rfl) (by kernel_rfl) fun hne => ?_
  have hc1 := (Rd.sp1 (w0 := w0) (D := D) (T := T) (n := (roomV vs i).length) (cap := cap) (A := some ⟨gA, 0, none⟩) (t := 464) (L := [blk g5 (c3 v).toArray 41])).alln
  have hcv := fun k u (hu : (c3 v)[k]? = some u) => ((Rd.blk (w0 := w0) (g := g5) (k := k) (cs := (c3 v).toArray) (v := u) (t := 41) (L := []) (by simpa using hu)).tail (p := blk D (spC T (some ⟨gA, 0, none⟩) (roomV vs i).length cap) 464)).alln
  have hv0 := hcv 0 _ rfl
  have hv1 := hcv 1 _ rfl
  have hv2 := hcv 2 _ rfl
  clear hcv
  simp only [pickOps]
  repeat (go_big_quiet_step (fail))
  refine wpQuiet_nil ?_
  clear hne hc1 hv0 hv1 hv2 hsN d0 d1
  simp only [chainIx]
  refine wpChain_last rfl ?_
  refine wpl_store_agg (v := val3 v) rfl rfl (size3 _) (hs.ent (Ent.swap _ _ _)).drew (WrA.own (o := i * 3) (vs := c3 v) (by rw [cs3_len]; simp [c3]; omega) (one3 v)) ?_
  clear hs
  intro w hs
  rw [cs3_set v hil] at hs
  refine wpList_nil ⟨rfl, ?_⟩
  replace hs := hs.ent (Ent.skip (Ent.skip (Ent.refl _)))
  have hr1 := (Rd.sp0 (w0 := w0) (D := D) (T := T) (n := (roomV vs i).length) (cap := cap) (A := some ⟨gA, 0, none⟩) (t := 464) (L := blk g8 (c3 u).toArray 41 :: blk g5 (c3 v).toArray 41 :: blk g6 (c3 V3.z).toArray 41 :: L)).tail (p := own (some ⟨gA, 0, none⟩) (roomV vs i).length cap 41 3 (cs3 ((roomV vs i).set i v))) |>.tail (p := HSet T S)
  have hc1 := hr1 _ hs
  clear hr1
  have hi2 : i < 16777216 := by omega
  go_wp2_with (first
    | (go_at_call 243; refine (add_any hs i hi2 HS).mono ?_; clear hs hc1; rintro e w ⟨b', x', rfl, hs⟩)
    | (refine wpl_load_agg (cs := c3 u) (b := g8) (o := 0) rfl agg3 (size3 u) hs (fun j x hx => by rw [Nat.zero_add]; exact (((Rd.blk (by simpa using hx)).tail).tail).tail) ?_)
    | (refine wpl_store_agg (v := val3 u) rfl rfl (size3 _) (hs.ent (Ent.skip (Ent.skip (Ent.skip (Ent.skip (Ent.skip (Ent.refl _))))))) WrA.slot3 ?_; clear hs; intro w hs))
  refine bodyPost_at (results_cell_tmp Tryz.results397 rfl (hs.slot_run agg3 (size3 _))) rfl ?_
  refine ⟨rfl, ?_⟩
  have hs2 := hs.drop
  have hs3 : St w0 (blk D (spC T (some ⟨gA, 0, none⟩) (roomV vs i).length cap) 464 :: own (some ⟨gA, 0, none⟩) (roomV vs i).length cap 41 3 (cs3 ((roomV vs i).set i v)) :: HSet T S' :: blk g8 (c3 u).toArray 41 :: blk g5 (c3 v).toArray 41 :: L) w :=
    (hs2.ent (Ent.skip (Ent.skip (Ent.refl _)))).ent (Ent.cons _ (Ent.swap _ _ _))
  rw [show (roomV vs i).length = ((roomV vs i).set i v).length by simp] at hs3
  exact ((hs3.spshut HOK.out).rot.drop).rot.drop

/-! ### Put of any index; Take, New, Room -/
def okI (i : Int) : Bool := decide (0 ≤ i ∧ i < 65536)
def pS (S : List Nat) (i : Int) : List Nat := if okI i then insS i.toNat S else S
def pV (vs : List V3) (i : Int) (v : V3) : List V3 := if okI i then (roomV vs i.toNat).set i.toNat v else vs
def tS (S : List Nat) (i : Int) : List Nat := if memS S i then delS i.toNat S else S
def tV (S : List Nat) (vs : List V3) (i : Int) : List V3 := if memS S i then vs.set i.toNat V3.z else vs
theorem SpOk.out {S : List Nat} {vs : List V3} (h : SpOk S vs) {i : Int} (hi : okI i = false) : memS S i = false := by
  cases hm : memS S i with
  | false => rfl
  | true =>
    obtain ⟨j, rfl, hj⟩ := memS_in hm
    have := h.room j hj
    have := h.len
    have : okI (j : Int) = true := decide_eq_true (by omega)
    rw [this] at hi
    cases hi
theorem sp_put {w0 w : World} {L : List As} {D T : Nat} {S : List Nat} {vs : List V3} (hs : St w0 (SpB D T S vs :: L) w) (i : Int) (v : V3) :
    Calls Tryz.prog 397 #[.pointer (some ⟨D, 0, none⟩), .int .i64 i, val3 v] w fun e w' => e = .returned (.tuple #[val3 (getV S vs i), .bool (memS S i)]) ∧ St w0 (SpB D T (pS S i) (pV vs i v) :: L) w' := by
  unfold pS pV
  cases hi : okI i with
  | true =>
    have hi2 : 0 ≤ i ∧ i < 65536 := of_decide_eq_true hi
    obtain ⟨j, rfl⟩ := Int.eq_ofNat_of_zero_le hi2.1
    exact sp_put_in hs j (by omega) v
  | false =>
    obtain ⟨hok, _⟩ := hs.spopen
    have hm := hok.out hi
    have HR : Hid (getV S vs i = V3.z) := by
      rw [Hid]; unfold getV; rw [hm]; rfl
    have HM := Lib.hid hm
    have hi2 : ¬ (0 ≤ i ∧ i < 65536) := of_decide_eq_false hi
    rw [HR.out, HM.out]
    clear hm hok hi
    by_cases h0 : i < 0
    all_goals
      go_enter Tryz.func397, Tryz.ntmps397
      go_upto_region 2 with (first
        | (refine wpl_box_v (v := val3 v) rfl hs ?_; clear hs; intro g5 w hs)
        | (refine wpl_alloc zero3 hs ?_; clear hs; intro g6 w hs))
      try replace hs : St w0 (blk g6 (c3 V3.z).toArray 41 :: blk g5 (c3 v).toArray 41 :: SpB D T S vs :: L) w := hs
      go_wp2_with (first
        | (refine wpl_store_agg (v := val3 V3.z) rfl rfl (size3 _) hs WrA.slot3 ?_; clear hs; intro w hs))
      refine bodyPost_at (results_cell_tmp Tryz.results397 rfl (hs.slot_run agg3 (size3 _))) rfl ?_
      exact ⟨rfl, hs.drop.drop⟩
theorem SpOk.take {S : List Nat} {vs : List V3} (h : SpOk S vs) (i : Nat) : SpOk (delS i S) (vs.set i V3.z) := by
  refine ⟨fun j hj => ?_, by rw [List.length_set]; exact h.len, by rw [List.length_set]; exact h.pow⟩
  rw [List.length_set]
  exact h.room j (mem_delS.1 hj).1
theorem remove_any {w0 w : World} {L : List As} {T : Nat} {S : List Nat} (hs : St w0 (HSet T S :: L) w) (i : Nat) (hi : i < 16777216) {S' : List Nat} (h : Hid (delS i S = S')) :
    Calls Tryz.prog 246 #[.pointer (some ⟨T, 0, none⟩), .int .i64 i] w fun e w' => ∃ b x, e = .returned (.tuple #[.bool b, .int .i64 x]) ∧ St w0 (HSet T S' :: L) w' :=
  (remove_h hs i).mono fun e w' ⟨h1, h2⟩ => ⟨_, _, h1, by
    have e : remS S (i : Int) = S' := by rw [← h.out]; unfold remS okN; rw [if_pos (decide_eq_true (by omega))]; simp
    rw [← e]; exact h2⟩
set_option maxHeartbeats 1000000 in
theorem sp_take {w0 w : World} {L : List As} {D T : Nat} {S : List Nat} {vs : List V3} (hs : St w0 (SpB D T S vs :: L) w) (i : Int) :
    Calls Tryz.prog 398 #[.pointer (some ⟨D, 0, none⟩), .int .i64 i] w fun e w' => e = .returned (.tuple #[val3 (getV S vs i), .bool (memS S i)]) ∧ St w0 (SpB D T (tS S i) (tV S vs i) :: L) w' := by
  unfold tS tV
  obtain ⟨u, HU⟩ : ∃ u, Hid (getV S vs i = u) := ⟨_, rfl⟩
  rw [HU.out]
  cases hm : memS S i with
  | false =>
    have HB := Lib.hid hm
    clear hm
    go_enter Tryz.func398, Tryz.ntmps398
    go_upto_region 1 with (first
      | (refine wpl_alloc zero3 hs ?_; clear hs; intro g4 w hs))
    replace hs : St w0 (SpB D T S vs :: blk g4 (c3 V3.z).toArray 41 :: L) w := hs.rot
    go_wp2_with (first
      | (go_at_call 396; refine (sp_get_v hs HU HB).mono ?_; rintro e w' ⟨rfl, hg⟩; replace hs := hs.grew hg; clear hg)
      | (refine wpl_alloc zero3 hs ?_; clear hs; intro g6 w hs)
      | (refine wpl_load_agg (cs := c3 u) (b := g6) (o := 0) rfl agg3 (size3 u) hs (fun j x hx => by rw [Nat.zero_add]; exact Rd.blk (by simpa using hx)) ?_; replace hs := hs.rot)
      | (refine wpl_store_agg (v := val3 u) rfl rfl (size3 _) hs WrA.slot3 ?_; clear hs; intro w hs)
      | (refine wpl_store_agg (v := val3 u) rfl rfl (size3 _) (hs.ent (Ent.skip (Ent.skip (Ent.refl _)))) WrA.slot3 ?_; clear hs; intro w hs))
    refine bodyPost_at (results_cell_tmp Tryz.results398 rfl (hs.slot_run agg3 (size3 _))) rfl ?_
    exact ⟨rfl, hs.drop.rot.drop⟩
  | true =>
    have HB := Lib.hid hm
    obtain ⟨j, rfl, hj⟩ := memS_in hm
    obtain ⟨hok, _⟩ := hs.spopen
    have hjl := hok.room j hj
    have hl := hok.len
    have hj2 : j < 16777216 := by omega
    have HOK := Lib.hid (hok.take j)
    obtain ⟨S', HS⟩ : ∃ S', Hid (delS j S = S') := ⟨_, rfl⟩
    simp only [if_true, Int.toNat_natCast]
    rw [HS.out] at HOK ⊢
    clear hm hok hj
    go_enter Tryz.func398, Tryz.ntmps398
    go_upto_region 1 with (first
      | (refine wpl_alloc zero3 hs ?_; clear hs; intro g4 w hs))
    replace hs : St w0 (SpB D T S vs :: blk g4 (c3 V3.z).toArray 41 :: L) w := hs.rot
    go_upto_region 3 with (first
      | (go_at_call 396; refine (sp_get_v hs HU HB).mono ?_; rintro e w' ⟨rfl, hg⟩; replace hs := hs.grew hg; clear hg)
      | (refine wpl_alloc zero3 hs ?_; clear hs; intro g6 w hs)
      | (refine wpl_store_agg (v := val3 u) rfl rfl (size3 _) hs WrA.slot3 ?_; clear hs; intro w hs))
    obtain ⟨_, A, cap, hs⟩ := hs.rot.spopen
    obtain ⟨gA, rfl⟩ := (hs.ent (Ent.swap _ _ _)).own_at (by omega)
    replace hs := hs.ent (Ent.skip (Ent.skip (Ent.refl _)))
    have hr1 := (Rd.sp0 (w0 := w0) (D := D) (T := T) (n := vs.length) (cap := cap) (A := some ⟨gA, 0, none⟩) (t := 464) (L := own (some ⟨gA, 0, none⟩) vs.length cap 41 3 (cs3 vs) :: blk g6 (c3 u).toArray 41 :: blk g4 (c3 V3.z).toArray 41 :: L))
    have hr2 := (Rd.sp1 (w0 := w0) (D := D) (T := T) (n := vs.length) (cap := cap) (A := some ⟨gA, 0, none⟩) (t := 464) (L := own (some ⟨gA, 0, none⟩) vs.length cap 41 3 (cs3 vs) :: blk g6 (c3 u).toArray 41 :: blk g4 (c3 V3.z).toArray 41 :: L))
    have hc1 := hr1.tail (p := HSet T S) _ hs
    go_wp2_with (first
      | (go_at_call 246; refine (remove_any hs j hj2 HS).mono ?_; clear hs hc1; rintro e w ⟨b', x', rfl, hs⟩; have hc2 := hr2.tail (p := HSet T S') _ hs)
      | (refine wpl_store_agg (v := val3 V3.z) rfl rfl (size3 _) (hs.ent (Ent.skip (Ent.skip (Ent.refl _)))) (WrA.own (o := j * 3) (vs := c3 V3.z) (by rw [cs3_len]; simp [c3]; omega) (one3 _)) ?_; clear hs hc2; intro w hs; rw [cs3_set V3.z hjl] at hs)
      | (refine wpl_load_agg (cs := c3 u) (b := g6) (o := 0) rfl agg3 (size3 u) hs (fun j x hx => by rw [Nat.zero_add]; exact (((Rd.blk (by simpa using hx)).tail).tail).tail) ?_)
      | (refine wpl_store_agg (v := val3 u) rfl rfl (size3 _) (hs.ent (Ent.skip (Ent.skip (Ent.skip (Ent.skip (Ent.refl _)))))) WrA.slot3 ?_; clear hs; intro w hs))
    refine bodyPost_at (results_cell_tmp Tryz.results398 rfl (hs.slot_run agg3 (size3 _))) rfl ?_
    refine ⟨rfl, ?_⟩
    have hs2 := hs.drop.ent (Ent.skip (Ent.skip (Ent.refl _)))
    rw [show vs.length = (vs.set j V3.z).length by simp] at hs2
    exact (hs2.spshut HOK.out).rot.drop
theorem spOk_nil : SpOk [] [] := ⟨(fun _ h => nomatch h), by decide, .inl rfl⟩
theorem new_nil {w0 w : World} {L : List As} (hs : St w0 L w) :
    Calls Tryz.prog 242 #[.slice none 0 0] w fun e w' => ∃ T, e = .returned (.pointer (some ⟨T, 0, none⟩)) ∧ St w0 (HSet T [] :: L) w' :=
  new_h (zs := []) hs RdS.nil (by simp [maxLen])
theorem sp_new {w0 w : World} {L : List As} (hs : St w0 L w) :
    Calls Tryz.prog 331 #[] w fun e w' => ∃ D T, e = .returned (.pointer (some ⟨D, 0, none⟩)) ∧ St w0 (SpB D T [] [] :: L) w' := by
  go_enter Tryz.func331, Tryz.ntmps331
  go_wp2_with (first
    | (go_at_call 242; refine (new_nil hs).mono ?_; clear hs; rintro e w ⟨T, rfl, hs⟩)
    | (refine wpl_box_v (v := .agg (spC T none 0 0)) rfl hs ?_; clear hs; intro D w hs))
  go_ret
  exact ⟨D, T, rfl, (((hs.own_nil 41 3).ent (Ent.swap _ _ _))).spshut spOk_nil⟩
end Go.Proofs.YtcnbmfaicbkhcaaGreatDoor

/-
  Values at their places, said otherwise; rows of an index and a value. (Out of XSpLaw, XSpLaw2, XTbl.)
-/
set_option maxRecDepth 100000
namespace Go.Proofs.YtcnbmfaicbkhcaaGreatDoor
open Go Go.RowKit
attribute [local irreducible] wpList Calls Code.wp
def kx (z : Int) : Nat := (z % 65536).toNat
theorem pS_in {S : List Nat} {k : Nat} (hk : k < 65536) : pS S (k : Int) = insS k S := by
  have : okI (k : Int) = true := decide_eq_true (by omega)
  unfold pS
  rw [this]
  simp
theorem okI_nat {k : Nat} (hk : k < 65536) : okI (k : Int) = true := decide_eq_true (by omega)
theorem mem_pS {S : List Nat} {k : Nat} (hk : k < 65536) (j : Int) : memS (pS S (k : Int)) j = (decide (j = k) || memS S j) := by
  rw [pS_in hk, Bool.eq_iff_iff]
  simp only [Bool.or_eq_true, decide_eq_true_eq, memS, List.any_eq_true, beq_iff_eq]
  constructor
  · rintro ⟨a, ha, rfl⟩
    rcases mem_insS.1 ha with rfl | ha
    · exact .inl rfl
    · exact .inr ⟨a, ha, rfl⟩
  · rintro (rfl | ⟨a, ha, rfl⟩)
    · exact ⟨k, mem_insS.2 (.inl rfl), rfl⟩
    · exact ⟨a, mem_insS.2 (.inr ha), rfl⟩
theorem mem_tS {S : List Nat} {k : Int} (j : Int) : memS (tS S k) j = (!decide (j = k) && memS S j) := by
  unfold tS
  cases hm : memS S k with
  | false =>
    by_cases e : j = k
    · subst e; simp [hm]
    · simp [e]
  | true =>
    obtain ⟨q, rfl, hq⟩ := memS_in hm
    rw [if_pos rfl, Bool.eq_iff_iff]
    simp only [Bool.and_eq_true, Bool.not_eq_true', decide_eq_false_iff_not, memS, List.any_eq_true, beq_iff_eq, Int.toNat_natCast]
    constructor
    · rintro ⟨a, ha, rfl⟩
      have := mem_delS.1 ha
      exact ⟨by omega, a, this.1, rfl⟩
    · rintro ⟨hne, a, ha, rfl⟩
      exact ⟨a, mem_delS.2 ⟨ha, by omega⟩, rfl⟩
theorem get_pV {S : List Nat} {vs : List V3} (h : SpOk S vs) {k : Nat} (hk : k < 65536) (v : V3) (j : Int) : getV (pS S (k : Int)) (pV vs (k : Int) v) j = if j = k then v else getV S vs j := by
  have hl : k < (roomV vs k).length := by rw [roomV_len h hk]; exact (h.up hk).2.1
  have e : pV vs (k : Int) v = (roomV vs k).set k v := by unfold pV; rw [okI_nat hk]; simp
  unfold getV
  rw [mem_pS hk, e]
  by_cases ej : j = k
  · subst ej
    simp [List.getD, hl]
  · rw [if_neg ej, decide_eq_false ej, Bool.false_or]
    cases hm : memS S j with
    | false => rfl
    | true =>
      obtain ⟨q, rfl, hq⟩ := memS_in hm
      have := h.room q hq
      have hne : k ≠ q := by omega
      simp only [if_true, Int.toNat_natCast, List.getD]
      rw [List.getElem?_set_ne hne, roomV, List.getElem?_append_left this]
theorem get_tV {S : List Nat} {vs : List V3} {k : Int} (j : Int) : getV (tS S k) (tV S vs k) j = if j = k then V3.z else getV S vs j := by
  unfold getV
  rw [mem_tS]
  by_cases ej : j = k
  · subst ej; simp
  · rw [if_neg ej, decide_eq_false ej, Bool.not_false, Bool.true_and]
    cases hm : memS S j with
    | false => rfl
    | true =>
      obtain ⟨q, rfl, hq⟩ := memS_in hm
      unfold tV
      cases hk : memS S k with
      | false => rfl
      | true =>
        obtain ⟨p, rfl, _⟩ := memS_in hk
        have hne : p ≠ q := by omega
        simp only [if_true, Int.toNat_natCast, List.getD]
        rw [List.getElem?_set_ne hne]
/-- A value of three numbers stands in a block. -/
def Has3 (w0 : World) (L : List As) (g : Nat) (v : V3) : Prop := ∀ j x, (c3 v)[j]? = some x → Rd w0 L ⟨g, 0 + j, none⟩ x
theorem has3_here {w0 : World} {L : List As} {g : Nat} {v : V3} {t : TypeId} : Has3 w0 (YtcnbmfaicbkhcaaGreatDoor.blk g (val3 v).cells t :: L) g v := fun j x hx => by
  rw [Nat.zero_add]
  exact Rd.blk (show (c3 v).toArray[j]? = some x by simpa using hx)
theorem has3_slot {w0 : World} {L : List As} {g : Nat} {v : V3} {t : TypeId} : Has3 w0 (YtcnbmfaicbkhcaaGreatDoor.blk g (c3 v).toArray t :: L) g v := has3_here
theorem has3_tail {w0 : World} {L : List As} {g : Nat} {v : V3} {p : As} (h : Has3 w0 L g v) : Has3 w0 (p :: L) g v := fun j x hx => (h j x hx).tail
theorem Has3.facts {w0 w : World} {L : List As} {g : Nat} {v : V3} (h : Has3 w0 L g v) (hs : St w0 L w) : w.cell? ⟨g, 0, none⟩ = some (.int .i64 v.k) ∧ w.cell? ⟨g, 1, none⟩ = some (.int .i64 v.a) ∧ w.cell? ⟨g, 2, none⟩ = some (.int .i64 v.b) :=
  ⟨h 0 _ rfl w hs, h 1 _ rfl w hs, h 2 _ rfl w hs⟩
theorem size3n : (Tryz.prog.info? 41).map (·.size) = some 3 := by kernel_rfl
theorem wpl_load3 {P : Program} {ops : Array Oper} {Q : Exit → Act → World → Prop} {a : Act} {w w0 : World} {rest : List Oper} {dst : Option Tmp} {ty : TypeId} {pos : String} {after : Array Edge} {L : List As} {t : TypeId} {x : Operand} {g : Nat} {v : V3} (hx : a.eval x = .pointer (some ⟨g, 0, none⟩)) (hh : Has3 w0 L g v) (h1 : aggB P t = true) (hsz : (P.info? t).map (·.size) = some 3) (hs : St w0 L w)
    (next : wpList P ops Q rest (a.put dst (val3 v)) w) : wpList P ops Q (⟨dst, .load t x, ty, pos, after, none⟩ :: rest) a w :=
  wpl_load_agg (cs := c3 v) hx h1 hsz hs hh next
abbrev Row := Int × V3
def c4 (r : Row) : List Value := .int .i64 r.1 :: c3 r.2
def cs4 (rs : List Row) : List Value := rs.flatMap c4
theorem c4_len (r : Row) : (c4 r).length = 4 := rfl
theorem cs4_len : ∀ rs : List Row, (cs4 rs).length = rs.length * 4
  | [] => rfl
  | r :: rs => by
    have := cs4_len rs
    simp only [cs4, List.flatMap_cons, List.length_append, List.length_cons] at this ⊢
    rw [this, c4_len]
    omega
theorem cs4_get : ∀ {rs : List Row} {i : Nat} {r : Row}, rs[i]? = some r → ∀ j u, (c4 r)[j]? = some u → (cs4 rs)[i * 4 + j]? = some u
  | [], i, v, h, _, _, _ => by simp at h
  | x :: rs, 0, v, h, j, u, hu => by
    simp at h
    subst h
    have hj : j < (c4 x).length := (List.getElem?_eq_some_iff.1 hu).1
    simp only [cs4, List.flatMap_cons]
    rw [Nat.zero_mul, Nat.zero_add, List.getElem?_append_left hj, hu]
  | x :: rs, i + 1, v, h, j, u, hu => by
    have := cs4_get (rs := rs) (i := i) (r := v) (by simpa using h) j u hu
    simp only [cs4, List.flatMap_cons]
    rw [List.getElem?_append_right (by rw [c4_len]; omega)]
    simp only [cs4] at this
    rw [← this]
    congr 1
    rw [c4_len]
    omega
theorem cs4_set : ∀ {rs : List Row} {i : Nat} (r : Row), i < rs.length → splice (cs4 rs) (i * 4) (c4 r) = cs4 (rs.set i r)
  | [], i, v, h => by simp at h
  | x :: rs, 0, v, _ => by simp [splice, cs4, c4, c3]
  | x :: rs, i + 1, v, h => by
    have := cs4_set (rs := rs) (i := i) v (by simpa using h)
    simp only [splice, cs4, List.flatMap_cons, List.set_cons_succ] at this ⊢
    rw [← this, show (i + 1) * 4 = (c4 x).length + i * 4 by rw [c4_len]; omega, List.take_length_add_append, Nat.add_assoc, List.drop_length_add_append]
    simp
theorem splice_in {xs vs : List Value} {o : Nat} {v : Value} (h : xs[o]? = some v) : splice xs (o + 1) vs = splice xs o (v :: vs) := by
  unfold splice
  obtain ⟨hl, he⟩ := List.getElem?_eq_some_iff.1 h
  rw [List.take_succ_eq_append_getElem hl, he, show o + (v :: vs).length = o + 1 + vs.length by simp; omega]
  simp
/-- The value of a row is written, its index stays. -/
theorem cs4_setv {rs : List Row} {i : Nat} {r : Row} (v : V3) (h : rs[i]? = some r) : splice (cs4 rs) (i * 4 + 1) (c3 v) = cs4 (rs.set i (r.1, v)) := by
  have h1 : (cs4 rs)[i * 4 + 0]? = some (.int .i64 r.1) := cs4_get h 0 _ rfl
  rw [Nat.add_zero] at h1
  rw [splice_in h1]
  exact cs4_set (r.1, v) (List.getElem?_eq_some_iff.1 h).1
theorem cs4_append (a b : List Row) : cs4 (a ++ b) = cs4 a ++ cs4 b := by simp [cs4]
theorem cs4_take (rs : List Row) (n : Nat) : (cs4 rs).take (n * 4) = cs4 (rs.take n) := by
  induction rs generalizing n with
  | nil => simp [cs4]
  | cons x rs ih =>
    cases n with
    | zero => simp [cs4]
    | succ n =>
      have := ih n
      simp only [cs4, List.flatMap_cons, List.take_succ_cons] at this ⊢
      rw [show (n + 1) * 4 = (c4 x).length + n * 4 by rw [c4_len]; omega, List.take_length_add_append, this]
theorem c4_one (r : Row) : ∀ u ∈ c4 r, u.oneCell' = true := by
  intro u hu
  rcases List.mem_cons.1 hu with rfl | h
  · rfl
  · exact one3 r.2 u h
/-- An owned row made shorter. -/
theorem own_cut {A : Option Addr} {n m cap : Nat} {e : TypeId} {size : Nat} {xs : List Value} (hm : m ≤ n) : ∀ h, own A n cap e size xs h → own A m cap e size (xs.take (m * size)) h := fun h ⟨hl, hx⟩ => by
  have hle : m * size ≤ n * size := Nat.mul_le_mul_right _ hm
  refine ⟨by rw [List.length_take, hl]; omega, ?_⟩
  rcases hx with ⟨rfl, rfl, rfl, he⟩ | ⟨g, cur, rfl, h1, h2, h3, h4, h5⟩
  · exact .inl ⟨rfl, by omega, rfl, he⟩
  · refine .inr ⟨g, cur, rfl, by omega, h2, h3, ?_, h5⟩
    rw [← h4, List.take_take, show min (m * size) (n * size) = m * size by omega]
end Go.Proofs.YtcnbmfaicbkhcaaGreatDoor

/-
  A map of integers by integers, as an assertion: read, written, made. No program stands here.
-/
namespace Go.Proofs.YtcnbmfaicbkhcaaGreatDoor
open Go Go.RowKit
open Go.Maps (Keyed IsMap Tidy)


def updI (f : Int → Option Int) (i : Int) (o : Option Int) : Int → Option Int := fun j => if j = i then o else f j
theorem updI_same (f : Int → Option Int) (i : Int) (o : Option Int) : updI f i o i = o := by simp [updI]
theorem updI_other {f : Int → Option Int} {i j : Int} {o : Option Int} (h : j ≠ i) : updI f i o j = f j := by simp [updI, h]
/-- The datum reads as the map f, of m keys. -/
structure MapR (D : DataW Unit) (f : Int → Option Int) (m : Nat) : Prop where
  tidy : Tidy D
  size : Maps.size D = m
  has : ∀ i, Maps.has D (.int .i64 i) = (f i).isSome
  at_ : ∀ i z, D.atKey (.int .i64 i) z = ((f i).map fun k => DataW.lit (.int .i64 k)).getD z
theorem MapR.empty : MapR (.map []) (fun _ => none) 0 := ⟨Maps.tidy_empty, rfl, fun _ => rfl, fun _ _ => rfl⟩
theorem lit_ne {i j : Int} (h : j ≠ i) : (Lit.int .i64 j) ≠ .int .i64 i := fun e => h (by injection e)
theorem MapR.put {D : DataW Unit} {f : Int → Option Int} {m : Nat} (h : MapR D f m) (i k : Int) : MapR (D.put (.int .i64 i) (.lit (.int .i64 k))) (updI f i (some k)) (if (f i).isSome then m else m + 1) := by
  have hk : WideAt.IsKeyLit (.int .i64 i) := trivial
  refine ⟨h.tidy.put hk _, ?_, fun j => ?_, fun j z => ?_⟩
  · rw [Maps.size_put h.tidy, h.has, h.size]
  · by_cases e : j = i
    · subst e
      rw [Maps.has_put_same h.tidy.isMap hk, updI_same]; rfl
    · rw [Maps.has_put_other (lit_ne e), updI_other e, h.has]
  · by_cases e : j = i
    · subst e
      rw [Maps.atKey_put_same h.tidy.isMap hk, updI_same]; rfl
    · rw [Maps.atKey_put_other (lit_ne e), updI_other e, h.at_]
theorem MapR.del {D : DataW Unit} {f : Int → Option Int} {m : Nat} (h : MapR D f m) (i : Int) : MapR (D.del (.int .i64 i)) (updI f i none) (if (f i).isSome then m - 1 else m) := by
  refine ⟨h.tidy.del _, ?_, fun j => ?_, fun j z => ?_⟩
  · have := Maps.size_del (k := .int .i64 i) h.tidy
    rw [h.has, h.size] at this
    cases hf : (f i).isSome <;> rw [hf] at this <;> simp at this ⊢ <;> omega
  · by_cases e : j = i
    · subst e
      rw [Maps.has_del_same, updI_same]; rfl
    · rw [Maps.has_del_other (lit_ne e), updI_other e, h.has]
  · by_cases e : j = i
    · subst e
      rw [Maps.atKey_del_same, updI_same]; rfl
    · rw [Maps.atKey_del_other (lit_ne e), updI_other e, h.at_]

/-- Block g is a map that reads as f, of m keys. -/
def mpA (P : Program) (k e : TypeId) (g : Nat) (f : Int → Option Int) (m : Nat) : As := fun h =>
  ∃ es clock D, pts g (.map es clock) h ∧ MapR D f m ∧ WideElems.Fit P k (plainElem (H := Unit) P e) es clock ∧ D = .map ((es.toList.map (WideElems.rg P k (plainElem P e))).foldr DataW.insert [])
section
variable {P : Program} {w w0 : World} {L : List As} {k e : TypeId} {g m : Nat} {f : Int → Option Int}
theorem St.map (hs : St w0 (mpA P k e g f m :: L) w) : ∃ D : DataW Unit, MapR D f m ∧ w.ownsMap P k (plainElem P e) g m D ∧ w0.heap.size ≤ g := by
  obtain ⟨a, ⟨es, clock, D, hp, hr, hF, hD⟩, h⟩ := hs.heap
  have hg := h g (.map es clock) (by rw [show a = _ from hp]; simp)
  refine ⟨D, hr, ⟨es, clock, hg.2, hF, ?_, hD⟩, hg.1⟩
  have h1 := hr.size
  rw [hD] at h1
  simp only [Maps.size, length_sorted, List.length_map, Array.length_toList] at h1
  omega
theorem St.map_turn {w' : World} {f' : Int → Option Int} {m' n' : Nat} {D' : DataW Unit} (hs : St w0 (mpA P k e g f m :: L) w) (hg : w.grownBy w' (some g)) (hr : MapR D' f' m') (ho : w'.ownsMap P k (plainElem P e) g n' D') : St w0 (mpA P k e g f' m' :: L) w' := by
  obtain ⟨es', clock', hb, hF, _, hD⟩ := ho
  refine hs.turn fun a ⟨es, clock, D, hp, _⟩ ha => ⟨_, ⟨es', clock', D', rfl, hr, hF, hD⟩, hg.os, hg.tape, hg.output, hg.size, fun k hk hlt => ?_, fun k o hk => ?_⟩
  · have hne : k ≠ g := by
      rintro rfl
      rw [show a = _ from hp] at hk
      simp at hk
    exact ⟨by simp [hne], hg.block k hlt (fun e => hne (by injection e))⟩
  · split at hk
    · rename_i e
      subst e
      injection hk with hk
      subst hk
      exact ⟨(ha k (.map es clock) (by rw [show a = _ from hp]; simp)).1, hb⟩
    · cases hk
theorem St.map_made {w : World} (hs : St w0 L w) : St w0 (mpA P k e w.heap.size (fun _ => none) 0 :: L) (w.alloc (.map #[] 0)) := by
  obtain ⟨es, clock, hb, hF, _, hD⟩ := World.ownsMap_made w P k (plainElem (H := Unit) P e)
  have h1 : (w.alloc (.map #[] 0)).heap[w.heap.size]? = some (.map #[] 0) := heap_alloc_new w _
  rw [h1] at hb
  injection hb with hb
  injection hb with h2 h3
  subst h2 h3
  exact (hs.allocObj (.map #[] 0)).conv fun h hp => ⟨#[], 0, .map [], hp, MapR.empty, hF, hD⟩
variable {ops : Array Oper} {Q : Exit → Act → World → Prop} {a : Act} {rest : List Oper} {dst : Option Tmp} {ty : TypeId} {pos : String} {after : Array Edge}
/-- What the types must be. -/
structure MpT (P : Program) (t k e : TypeId) : Prop where
  ht : P.underlying t = some (.map k e)
  hk : P.underlying k = some (.int .i64)
  he : P.underlying e = some (.int .i64)
  hz : ∀ w, (zeroValue e).run P w = .ok (.int .i64 0) w
variable {t : TypeId}
theorem wpl_lookup_ok {x y : Operand} {i : Int} (T : MpT P t k e) (hm : a.eval x = .map (some g)) (hi : a.eval y = .int .i64 i) (hw : (Lit.int .i64 i).wf = true) (hs : St w0 (mpA P k e g f m :: L) w)
    (next : wpList P ops Q rest (a.put dst (.tuple #[.int .i64 ((f i).getD 0), .bool (f i).isSome])) w) : wpList P ops Q (⟨dst, .lookup t x y true, ty, pos, after, none⟩ :: rest) a w := by
  obtain ⟨D, hr, ho, _⟩ := hs.map
  refine wpList_lookup_own_ok_int w rfl x y t rfl k e .i64 (Maps.int_keyed T.hk) T.ht T.he (T.hz w) g m D hm ho (.int .i64 i) (.int .i64 i) hi (Maps.keyOf_int_mk T.hk hw) fun c hc _ => ?_
  rw [hr.at_] at hc
  rw [hr.has]
  have : c = (f i).getD 0 := by
    cases hf : f i with
    | none => rw [hf] at hc; simp only [Option.map_none, Option.getD_none, DataW.lit.injEq, Lit.int.injEq] at hc; simp [hc.2]
    | some v => rw [hf] at hc; simp only [Option.map_some, Option.getD_some, DataW.lit.injEq, Lit.int.injEq] at hc; simp [hc.2]
  rw [this]
  exact next
theorem wpl_mapUpdate {x y z : Operand} {i v : Int} (T : MpT P t k e) (hm : a.eval x = .map (some g)) (hi : a.eval y = .int .i64 i) (hw : (Lit.int .i64 i).wf = true) (hv : a.eval z = .int .i64 v) (hwv : (Lit.int .i64 v).wf = true) (hlt : m < maxLen) (hs : St w0 (mpA P k e g f m :: L) w)
    (next : ∀ w', St w0 (mpA P k e g (updI f i (some v)) (if (f i).isSome then m else m + 1) :: L) w' → wpList P ops Q rest (a.put dst undef) w') : wpList P ops Q (⟨dst, .mapUpdate t x y z, ty, pos, after, none⟩ :: rest) a w := by
  obtain ⟨D, hr, ho, _⟩ := hs.map
  exact wpList_mapUpdate_own w rfl x y z t rfl k e (Maps.int_keyed T.hk) T.ht (plainElem P e) g m D hm ho hlt (.int .i64 i) (.int .i64 v) (.int .i64 i) hi hv (Maps.keyOf_int_mk T.hk hw) (.lit (.int .i64 v)) [] (plainElem_int T.he hwv) fun w' h1 h2 => next w' (hs.map_turn h2 (hr.put i v) h1)
theorem wpl_mapDelete {x y : Operand} {i : Int} (T : MpT P t k e) (hm : a.eval x = .map (some g)) (hi : a.eval y = .int .i64 i) (hw : (Lit.int .i64 i).wf = true) (hs : St w0 (mpA P k e g f m :: L) w)
    (next : ∀ w', St w0 (mpA P k e g (updI f i none) (if (f i).isSome then m - 1 else m) :: L) w' → wpList P ops Q rest (a.put dst (.tuple #[])) w') : wpList P ops Q (⟨dst, .call { callee := Callee.builtin Builtin.delete, args := #[x, y], argTypes := #[t, k] }, ty, pos, after, none⟩ :: rest) a w := by
  obtain ⟨D, hr, ho, _⟩ := hs.map
  exact wpList_delete_own w rfl x y t k rfl e (Maps.int_keyed T.hk) T.ht (plainElem P e) g m D hm ho (.int .i64 i) (.int .i64 i) hi (Maps.keyOf_int_mk T.hk hw) fun w' h1 h2 => next w' (hs.map_turn h2.grown (hr.del i) h1)
theorem wpl_makeMap (hs : St w0 L w) (next : ∀ g w', St w0 (mpA P k e g (fun _ => none) 0 :: L) w' → wpList P ops Q rest (a.put dst (.map (some g))) w') : wpList P ops Q (⟨dst, .makeMap t none, ty, pos, after, none⟩ :: rest) a w :=
  wpList_plain rfl fun K hK => by
    unfold Oper.wp execOp
    exact hK _ _ (next _ _ hs.map_made)
end
end Go.Proofs.YtcnbmfaicbkhcaaGreatDoor

/-
  Values side by side: plain law. No function of the program stands here.
-/
set_option maxRecDepth 100000
namespace Go.Proofs.YtcnbmfaicbkhcaaGreatDoor
open Go Go.RowKit

/-- What a table of S, g has at i. -/
def getG (S : List Nat) (g : Nat → V3) (i : Int) : V3 := if memS S i then g i.toNat else V3.z
/-- A value is put. -/
def pG (g : Nat → V3) (i : Int) (v : V3) : Nat → V3 := fun j => if (j : Int) = i then v else g j
theorem memS_iff {S : List Nat} {j : Nat} : memS S (j : Int) = true ↔ j ∈ S := by
  unfold memS
  rw [List.any_eq_true]
  constructor
  · rintro ⟨a, ha, h⟩
    have : (a : Int) = (j : Int) := by simpa using h
    have : a = j := by omega
    exact this ▸ ha
  · exact fun h => ⟨j, h, by simp⟩
theorem getG_in {S : List Nat} {g : Nat → V3} {j : Nat} (h : j ∈ S) : getG S g (j : Int) = g j := by
  unfold getG
  rw [memS_iff.2 h]
  simp
theorem getG_out {S : List Nat} {g : Nat → V3} {i : Int} (h : memS S i = false) : getG S g i = V3.z := by
  unfold getG
  rw [h]; rfl
/-- Rows side by side, and where each index's lies. -/
structure DnOk (S : List Nat) (g : Nat → V3) (l : List Row) (f : Int → Option Int) : Prop where
  sorted : S.Pairwise (· < ·)
  small : ∀ i ∈ S, i < 65536
  len : l.length = S.length
  at_ : ∀ i k, f i = some k → ∃ (p : Nat) (r : Row), k = (p : Nat) ∧ l[p]? = some r ∧ r.1 = i
  row : ∀ (p : Nat) (r : Row), l[p]? = some r → f r.1 = some ((p : Nat) : Int) ∧ ∃ j : Nat, r.1 = (j : Nat) ∧ j ∈ S ∧ r.2 = g j
  mem : ∀ j ∈ S, ∃ k, f ((j : Nat) : Int) = some k
theorem sorted_short {S : List Nat} {n : Nat} (hs : S.Pairwise (· < ·)) (hb : ∀ i ∈ S, i < n) : S.length ≤ n := by
  have h1 : ∀ (S : List Nat), S.Pairwise (· < ·) → ∀ n, (∀ i ∈ S, i < n) → ∀ m, (∀ i ∈ S, m ≤ i) → m ≤ n → S.length + m ≤ n := by
    intro S
    induction S with
    | nil => intro _ n _ m _ hm; simpa using hm
    | cons a S ih =>
      intro hs n hb m hm hmn
      obtain ⟨ha, hs⟩ := List.pairwise_cons.1 hs
      have := hb a List.mem_cons_self
      have := hm a List.mem_cons_self
      have := ih hs n (fun i hi => hb i (List.mem_cons_of_mem _ hi)) (a + 1) (fun i hi => ha i hi) (by omega)
      rw [List.length_cons]
      omega
  simpa using h1 S hs n hb 0 (fun _ _ => Nat.zero_le _) (Nat.zero_le _)
theorem DnOk.new : DnOk [] (fun _ => V3.z) [] (fun _ => none) :=
  ⟨List.Pairwise.nil, fun _ h => absurd h List.not_mem_nil, rfl, fun _ _ h => (nomatch h), fun _ _ h => (nomatch h), fun _ h => absurd h List.not_mem_nil⟩
section
variable {S : List Nat} {g : Nat → V3} {l : List Row} {f : Int → Option Int}
theorem DnOk.isSome (h : DnOk S g l f) (i : Int) : (f i).isSome = memS S i := by
  rw [Bool.eq_iff_iff]
  constructor
  · intro hf
    obtain ⟨k, hk⟩ := Option.isSome_iff_exists.1 hf
    obtain ⟨p, r, _, hr, rfl⟩ := h.at_ i k hk
    obtain ⟨_, j, hj, hjS, _⟩ := h.row p r hr
    rw [hj]
    exact memS_iff.2 hjS
  · intro hm
    obtain ⟨j, rfl, hj⟩ := memS_in hm
    obtain ⟨k, hk⟩ := h.mem j hj
    rw [hk]; rfl
/-- Where it lies. -/
theorem DnOk.find (h : DnOk S g l f) {j : Nat} (hj : j ∈ S) : ∃ p : Nat, f (j : Nat) = some ((p : Nat) : Int) ∧ p < l.length ∧ l[p]? = some (((j : Nat) : Int), g j) := by
  obtain ⟨k, hk⟩ := h.mem j hj
  obtain ⟨p, r, rfl, hr, hj2⟩ := h.at_ _ k hk
  obtain ⟨_, j', h1, _, h2⟩ := h.row p r hr
  have : j' = j := by rw [h1] at hj2; omega
  subst this
  refine ⟨p, hk, (List.getElem?_eq_some_iff.1 hr).1, ?_⟩
  rw [hr]
  congr 1
  exact Prod.ext hj2 h2
theorem DnOk.set (h : DnOk S g l f) {j p : Nat} (hj : j ∈ S) (hp : f (j : Nat) = some ((p : Nat) : Int)) (v : V3) : DnOk S (pG g j v) (l.set p (((j : Nat) : Int), v)) f := by
  obtain ⟨p', h1, h2, h3⟩ := h.find hj
  have : p' = p := by rw [hp] at h1; injection h1 with h1; omega
  subst this
  have key : ∀ (q : Nat) (r : Row), (l.set p' (((j : Nat) : Int), v))[q]? = some r → (q = p' ∧ r = (((j : Nat) : Int), v)) ∨ (q ≠ p' ∧ l[q]? = some r) := by
    intro q r hr
    rw [List.getElem?_set] at hr
    split at hr
    · rename_i e
      try rw [if_pos h2] at hr
      injection hr with hr
      exact .inl ⟨e.symm, hr.symm⟩
    · rename_i e
      exact .inr ⟨fun e2 => e e2.symm, hr⟩
  refine ⟨h.sorted, h.small, by rw [List.length_set]; exact h.len, fun i k hk => ?_, fun q r hr => ?_, h.mem⟩
  · obtain ⟨q, r, rfl, hr, rfl⟩ := h.at_ i k hk
    by_cases e : q = p'
    · subst e
      rw [h3] at hr
      injection hr with hr
      subst hr
      exact ⟨q, (((j : Nat) : Int), v), rfl, by rw [List.getElem?_set]; simp [h2], rfl⟩
    · exact ⟨q, r, rfl, by rw [List.getElem?_set, if_neg (fun e2 => e e2.symm)]; exact hr, rfl⟩
  · rcases key q r hr with ⟨rfl, rfl⟩ | ⟨e, hr⟩
    · exact ⟨hp, j, rfl, hj, by simp [pG]⟩
    · obtain ⟨h4, j', h5, h6, h7⟩ := h.row q r hr
      refine ⟨h4, j', h5, h6, ?_⟩
      have hne : j' ≠ j := fun e2 => by
        subst e2
        rw [h5, hp] at h4
        injection h4 with h4
        omega
      rw [h7]
      simp only [pG]
      rw [if_neg (by omega)]
theorem DnOk.add (h : DnOk S g l f) {j : Nat} (hj : j ∉ S) (hj6 : j < 65536) (v : V3) : DnOk (insS j S) (pG g j v) (l ++ [(((j : Nat) : Int), v)]) (updI f j (some ((l.length : Nat) : Int))) := by
  have hn : f (j : Nat) = none := by
    have := h.isSome (j : Nat)
    rw [show memS S (j : Nat) = false by cases hm : memS S (j : Nat) with
      | false => rfl
      | true => exact absurd (memS_iff.1 hm) hj] at this
    cases hf : f (j : Nat) with
    | none => rfl
    | some k => rw [hf] at this; cases this
  refine ⟨sorted_insS h.sorted, fun i hi => ?_, by rw [List.length_append, len_insS hj, h.len]; rfl, fun i k hk => ?_, fun q r hr => ?_, fun i hi => ?_⟩
  · rcases mem_insS.1 hi with rfl | hi
    · exact hj6
    · exact h.small i hi
  · by_cases e : i = (j : Nat)
    · subst e
      rw [updI_same] at hk
      injection hk with hk
      exact ⟨l.length, (((j : Nat) : Int), v), hk.symm, by simp, rfl⟩
    · rw [updI_other e] at hk
      obtain ⟨q, r, h1, h2, h3⟩ := h.at_ i k hk
      exact ⟨q, r, h1, by rw [List.getElem?_append_left (List.getElem?_eq_some_iff.1 h2).1]; exact h2, h3⟩
  · by_cases hq : q < l.length
    · rw [List.getElem?_append_left hq] at hr
      obtain ⟨h4, j', h5, h6, h7⟩ := h.row q r hr
      have hne : j' ≠ j := fun e2 => hj (e2 ▸ h6)
      refine ⟨by rw [updI_other (by rw [h5]; omega)]; exact h4, j', h5, mem_insS.2 (.inr h6), ?_⟩
      rw [h7]
      simp only [pG]
      rw [if_neg (by omega)]
    · have hl := (List.getElem?_eq_some_iff.1 hr).1
      simp only [List.length_append, List.length_cons, List.length_nil] at hl
      have : q = l.length := by omega
      subst this
      simp at hr
      subst hr
      exact ⟨updI_same _ _ _, j, rfl, mem_insS.2 (.inl rfl), by simp [pG]⟩
  · rcases mem_insS.1 hi with rfl | hi
    · exact ⟨_, updI_same _ _ _⟩
    · have hne : i ≠ j := fun e2 => hj (e2 ▸ hi)
      obtain ⟨k, hk⟩ := h.mem i hi
      exact ⟨k, by rw [updI_other (by omega)]; exact hk⟩
theorem DnOk.take (h : DnOk S g l f) {j p : Nat} {x : Row} (hj : j ∈ S) (hp : f (j : Nat) = some ((p : Nat) : Int)) (hx : l[l.length - 1]? = some x) :
    DnOk (delS j S) g ((l.set p x).take (l.length - 1)) (updI (updI f x.1 (some ((p : Nat) : Int))) j none) := by
  obtain ⟨p', h1, h2, h3⟩ := h.find hj
  have : p' = p := by rw [hp] at h1; injection h1 with h1; omega
  subst this
  obtain ⟨x1, jx, x2, x3, x4⟩ := h.row _ x hx
  have getq : ∀ (q : Nat) (r : Row), ((l.set p' x).take (l.length - 1))[q]? = some r → q < l.length - 1 ∧ ((q = p' ∧ r = x) ∨ (q ≠ p' ∧ l[q]? = some r)) := by
    intro q r hr
    rw [List.getElem?_take] at hr
    split at hr
    · rename_i hq
      refine ⟨hq, ?_⟩
      rw [List.getElem?_set] at hr
      split at hr
      · rename_i e
        try rw [if_pos h2] at hr
        injection hr with hr
        exact .inl ⟨e.symm, hr.symm⟩
      · rename_i e
        exact .inr ⟨fun e2 => e e2.symm, hr⟩
    · cases hr
  refine ⟨sorted_delS h.sorted, fun i hi => h.small i (mem_delS.1 hi).1, ?_, fun i k hk => ?_, fun q r hr => ?_, fun i hi => ?_⟩
  · have := len_delS (sorted_nodup h.sorted) hj
    have := h.len
    rw [List.length_take, List.length_set]
    omega
  · by_cases e : i = (j : Nat)
    · subst e; rw [updI_same] at hk; cases hk
    · rw [updI_other e] at hk
      by_cases e2 : i = x.1
      · subst e2
        rw [updI_same] at hk
        injection hk with hk
        have hpl : p' ≠ l.length - 1 := fun e3 => by
          rw [e3, hx] at h3
          injection h3 with h3
          exact e (by rw [h3])
        exact ⟨p', x, hk.symm, by rw [List.getElem?_take, if_pos (by omega), List.getElem?_set]; simp [h2], rfl⟩
      · rw [updI_other e2] at hk
        obtain ⟨q, r, rfl, hr, rfl⟩ := h.at_ i k hk
        have hq1 : q ≠ l.length - 1 := fun e3 => by
          subst e3
          rw [hx] at hr
          injection hr with hr
          exact e2 (by rw [hr])
        have hq2 : p' ≠ q := fun e3 => by
          subst e3
          rw [h3] at hr
          injection hr with hr
          exact e (by rw [← hr])
        have := (List.getElem?_eq_some_iff.1 hr).1
        exact ⟨q, r, rfl, by rw [List.getElem?_take, if_pos (by omega), List.getElem?_set, if_neg hq2]; exact hr, rfl⟩
  · obtain ⟨hq, hc⟩ := getq q r hr
    rcases hc with ⟨rfl, rfl⟩ | ⟨hne, hr⟩
    · have hne2 : jx ≠ j := fun e => by
        subst e
        rw [x2, hp] at x1
        injection x1 with x1
        omega
      exact ⟨by rw [updI_other (by omega), updI_same], jx, x2, mem_delS.2 ⟨x3, hne2⟩, x4⟩
    · obtain ⟨h4, j', h5, h6, h7⟩ := h.row q r hr
      have hne2 : j' ≠ j := fun e => by
        subst e
        rw [h5, hp] at h4
        injection h4 with h4
        omega
      have hne3 : r.1 ≠ x.1 := fun e => by
        rw [e, x1] at h4
        injection h4 with h4
        omega
      exact ⟨by rw [updI_other (by omega), updI_other hne3]; exact h4, j', h5, mem_delS.2 ⟨h6, hne2⟩, h7⟩
  · obtain ⟨hi1, hne⟩ := mem_delS.1 hi
    by_cases e : ((i : Nat) : Int) = x.1
    · exact ⟨(p' : Nat), by rw [updI_other (by omega), e, updI_same]⟩
    · obtain ⟨k, hk⟩ := h.mem i hi1
      exact ⟨k, by rw [updI_other (by omega), updI_other e]; exact hk⟩
end
end Go.Proofs.YtcnbmfaicbkhcaaGreatDoor
