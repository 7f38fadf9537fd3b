/-
  The statements' own functions of layer 11: Desc, Value, awake; the document's DescMay.
-/
import Derived.Test.YtmdjpeblbnbjmaaSt5
set_option maxRecDepth 100000
namespace Go.Proofs.Ytmdjpeblbnbjmaa
open Go Go.RowKit
attribute [local irreducible] wpList Calls Code.wp okI okN pS tS memS getG pG insS delS getV pV tV okVal

theorem and_m {z : Int} {p : Nat} (hp : p < 63) : bits .and .i64 z ((2 ^ p - 1 : Nat) : Int) = ((z % (2 ^ p : Nat)).toNat : Nat) := by
  show IntKind.i64.wrap ((BitVec.ofInt 64 z &&& BitVec.ofInt 64 ((2 ^ p - 1 : Nat) : Int)).toNat : Int) = _
  have h63 : 2 ^ p ≤ 2 ^ 62 := Nat.pow_le_pow_right (by decide) (by omega)
  have h1 : 1 ≤ 2 ^ p := Nat.one_le_two_pow
  have e : (BitVec.ofInt 64 ((2 ^ p - 1 : Nat) : Int)).toNat = 2 ^ p - 1 := by
    rw [BitVec.toNat_ofInt]
    have : ((2 ^ p - 1 : Nat) : Int) % ((2 ^ 64 : Nat) : Int) = ((2 ^ p - 1 : Nat) : Int) := Int.emod_eq_of_lt (by omega) (by omega)
    rw [this]; simp
  rw [BitVec.toNat_and, e, Nat.and_two_pow_sub_one_eq_mod, BitVec.toNat_ofInt, IntKind.wrap_i64]
  have hd : ((2 ^ p : Nat) : Int) ∣ ((2 ^ 64 : Nat) : Int) := Int.natCast_dvd_natCast.2 (Nat.pow_dvd_pow 2 (by omega))
  have e2 : ((z % ((2 ^ 64 : Nat) : Int)).toNat % 2 ^ p : Nat) = ((z % (2 ^ p : Nat)).toNat : Nat) := by
    have h0 : 0 ≤ z % ((2 ^ 64 : Nat) : Int) := Int.emod_nonneg _ (by decide)
    have h2 : 0 ≤ z % ((2 ^ p : Nat) : Int) := Int.emod_nonneg _ (by omega)
    apply Int.ofNat_inj.1
    rw [Int.natCast_emod, Int.toNat_of_nonneg h0, Int.toNat_of_nonneg h2, Int.emod_emod_of_dvd _ hd]
  rw [e2]
  have h3 : z % ((2 ^ p : Nat) : Int) < ((2 ^ p : Nat) : Int) := Int.emod_lt_of_pos _ (by omega)
  have h4 : 0 ≤ z % ((2 ^ p : Nat) : Int) := Int.emod_nonneg _ (by omega)
  omega
def lo8 (z : Int) : Nat := (z % 256).toNat
def lo5 (z : Int) : Nat := (z % 32).toNat
theorem lo8_lt (z : Int) : lo8 z < 256 := by unfold lo8; omega
theorem lo5_lt (z : Int) : lo5 z < 32 := by unfold lo5; omega
theorem and_255 (z : Int) : bits .and .i64 z 255 = (lo8 z : Nat) := and_m (p := 8) (by decide)
theorem and_31 (z : Int) : bits .and .i64 z 31 = (lo5 z : Nat) := and_m (p := 5) (by decide)
/-- A Desc that may be, made of numbers. -/
def mkD (a b c : Int) : V3 := ⟨((lo8 a % 3 + 1 : Nat) : Int), if lo8 a % 3 = 2 ∧ bits .and .i64 b 768 = 0 then 4 else ((lo8 b % 3 + 1 : Nat) : Int), ((lo5 c - 10 : Nat) : Int)⟩
theorem mkD_ok (a b c : Int) : descE (mkD a b c) = 0 := by
  have h1 : lo8 a % 3 < 3 := Nat.mod_lt _ (by decide)
  have h2 : lo8 b % 3 < 3 := Nat.mod_lt _ (by decide)
  have h3 := lo5_lt c
  unfold descE mkD
  by_cases h : lo8 a % 3 = 2 ∧ bits .and .i64 b 768 = 0
  · rw [if_pos h]
    simp only
    rw [if_pos (by omega), if_neg (by omega)]
  · rw [if_neg h]
    simp only
    rw [if_pos (by omega), if_neg (by omega)]
theorem c3_set1 (k a b a' : Int) : splice (c3 ⟨k, a, b⟩) 1 [.int .i64 a'] = c3 ⟨k, a', b⟩ := rfl
theorem c3_set2 (k a b b' : Int) : splice (c3 ⟨k, a, b⟩) 2 [.int .i64 b'] = c3 ⟨k, a, b'⟩ := rfl
theorem size_int' : (Try.prog.info? 3).map (·.size) = some 1 := by kernel_rfl
theorem Wr.c31 {w0 : World} {g : Nat} {k a b a' : Int} {L : List As} {t : TypeId} : Wr w0 (Ytmdjpeblbnbjmaa.blk g (c3 ⟨k, a, b⟩).toArray t :: L) ⟨g, 1, none⟩ (.int .i64 a') (Ytmdjpeblbnbjmaa.blk g (c3 ⟨k, a', b⟩).toArray t :: L) := Wr.blk (by simp [c3])
theorem Wr.c32 {w0 : World} {g : Nat} {k a b b' : Int} {L : List As} {t : TypeId} : Wr w0 (Ytmdjpeblbnbjmaa.blk g (c3 ⟨k, a, b⟩).toArray t :: L) ⟨g, 2, none⟩ (.int .i64 b') (Ytmdjpeblbnbjmaa.blk g (c3 ⟨k, a, b'⟩).toArray t :: L) := Wr.blk (by simp [c3])
set_option maxHeartbeats 2000000 in
theorem ldesc_c {w : World} (a b c : Int) {d : V3} (hd : Hid (mkD a b c = d)) :
    Calls Try.prog 21 #[.int .i64 a, .int .i64 b, .int .i64 c] w fun r w' => r = .returned (val3 d) ∧ Grew w w' := by
  have ha := and_255 a
  have hb := and_255 b
  have hc := and_31 c
  have hal := lo8_lt a
  have hbl := lo8_lt b
  have hcl := lo5_lt c
  have hdd := hd.out
  unfold mkD at hdd
  generalize lo8 a = x at *
  generalize lo8 b = y at *
  generalize lo5 c = z at *
  clear hd
  obtain ⟨q, hq⟩ : ∃ q, bits .and .i64 b 768 = q := ⟨_, rfl⟩
  rw [hq] at hdd
  have hw := St.start w
  obtain ⟨k, hk⟩ : ∃ k : Nat, k = x % 3 := ⟨_, rfl⟩
  obtain ⟨m, hm⟩ : ∃ m : Nat, m = y % 3 := ⟨_, rfl⟩
  have hk3 : k < 3 := by omega
  have hm3 : m < 3 := by omega
  have hx3 : ((x : Nat) : Int).tmod 3 = (k : Nat) := by rw [Int.tmod_eq_emod_of_nonneg (by omega)]; omega
  have hy3 : ((y : Nat) : Int).tmod 3 = (m : Nat) := by rw [Int.tmod_eq_emod_of_nonneg (by omega)]; omega
  rw [← hk, ← hm] at hdd
  obtain ⟨n, hn⟩ : ∃ n : Nat, n = z - 10 := ⟨_, rfl⟩
  have hmx : max (((z : Nat) : Int) - 10) 0 = (n : Nat) := by omega
  rw [← hn] at hdd
  have hdh := Lib.hid hdd
  clear hdd hk hm hn
  go_enter Try.func21, Try.ntmps21
  go_upto_region 2 with (first
    | (refine wpl_alloc zero3D hw ?_; clear hw; intro g1 w1 hw)
    | (refine wpl_store_agg (v := val3 ⟨(k : Nat) + 1, (m : Nat) + 1, n⟩) rfl rfl (size3D _) hw WrA.slot3 ?_; clear hw; intro w2 hw))
  obtain ⟨c0, c1, c2⟩ := (has3_slot (w0 := w) (g := g1) (v := ⟨(k : Nat) + 1, (m : Nat) + 1, n⟩) (t := 28)).facts hw
  simp only at c0 c1 c2
  by_cases h2 : k = 2
  · have d2 : (((k : Nat) : Int) + 1 == 3) = true := by
      rw [h2]; rfl
    by_cases h0 : q = 0
    · subst h0
      have hdd := hdh.out
      rw [if_pos ⟨h2, rfl⟩] at hdd
      have hdd2 := Lib.hid hdd
      clear hdd hdh h2 hx3 hk3
      go_wp2_with (first
        | (refine wpl_store rfl rfl rfl size_int' hw (Wr.c31 (a' := 4)) ?_; clear hw c0 c1 c2; intro w3 hw)
        | (refine wpl_load3 (v := ⟨(k : Nat) + 1, 4, n⟩) (g := g1) rfl (has3_slot (t := 28)) agg3D (size3Dn (v := V3.z)) hw ?_)
        | (refine wpl_store_agg (v := val3 ⟨(k : Nat) + 1, 4, n⟩) rfl rfl (size3D _) hw.rot WrA.slot3 ?_; clear hw; intro w4 hw))
      refine bodyPost_at (results_cell1 Try.results21 rfl (hw.slot_run agg3D (size3D _))) rfl ?_
      exact ⟨by rw [← hdd2.out]; rfl, hw.made_grew⟩
    · have hdd := hdh.out
      rw [if_neg (fun h => h0 h.2)] at hdd
      subst hdd
      clear hdh h2 hx3 hk3
      go_wp2_with (first
        | (refine wpl_load3 (v := ⟨(k : Nat) + 1, (m : Nat) + 1, n⟩) rfl ?hh agg3D size3Dn hw ?_; case hh => exact has3_slot)
        | (refine wpl_store_agg (v := val3 ⟨(k : Nat) + 1, (m : Nat) + 1, n⟩) rfl rfl (size3D _) hw.rot WrA.slot3 ?_; clear hw; intro w4 hw))
      refine bodyPost_at (results_cell1 Try.results21 rfl (hw.slot_run agg3D (size3D _))) rfl ?_
      exact ⟨rfl, hw.made_grew⟩
  · have d2 : (((k : Nat) : Int) + 1 == 3) = false := by
      rw [beq_eq_false_iff_ne]; omega
    have hdd := hdh.out
    rw [if_neg (fun h => h2 h.1)] at hdd
    subst hdd
    clear hdh h2
    go_wp2_with (first
      | (refine wpl_load3 (v := ⟨(k : Nat) + 1, (m : Nat) + 1, n⟩) rfl ?hh agg3D size3Dn hw ?_; case hh => exact has3_slot)
      | (refine wpl_store_agg (v := val3 ⟨(k : Nat) + 1, (m : Nat) + 1, n⟩) rfl rfl (size3D _) hw.rot WrA.slot3 ?_; clear hw; intro w4 hw))
    refine bodyPost_at (results_cell1 Try.results21 rfl (hw.slot_run agg3D (size3D _))) rfl ?_
    exact ⟨rfl, hw.made_grew⟩
/-- A value of a kind, made of two numbers. -/
def mkV (k a b : Int) : V3 := ⟨k, if k = 3 then 0 else a, if k = 2 then b else 0⟩
theorem mkV_ok {k : Int} (h : 1 ≤ k ∧ k ≤ 3) (a b : Int) : okVal (mkV k a b) = true := by
  have : k = 1 ∨ k = 2 ∨ k = 3 := by omega
  rcases this with rfl | rfl | rfl <;> simp [okVal, mkV]
theorem mkV_k (k a b : Int) : (mkV k a b).k = k := rfl
set_option maxHeartbeats 1000000 in
theorem lvalue_c {w : World} (k a b : Int) {v : V3} (hv : Hid (mkV k a b = v)) :
    Calls Try.prog 24 #[.int .i64 k, .int .i64 a, .int .i64 b] w fun r w' => r = .returned (val3 v) ∧ Grew w w' := by
  have hw := St.start w
  have hb := build3k k
  have hvv := hv.out
  unfold mkV at hvv
  clear hv
  by_cases h3 : k = 3
  · subst h3
    rw [if_pos rfl, if_neg (by decide)] at hvv
    subst hvv
    go_enter Try.func24, Try.ntmps24
    go_wp2_with (first
      | (refine wpl_alloc zero3 hw ?_; clear hw; intro g1 w1 hw)
      | (refine wpl_buildS hb rfl ?_)
      | (refine wpl_load3 (v := ⟨3, 0, 0⟩) rfl (has3_slot (t := 40)) agg3 size3n hw ?_)
      | (refine wpl_store_agg (v := val3 ⟨3, 0, 0⟩) rfl rfl (size3 _) hw WrA.slot3 ?_; clear hw; intro w2 hw; replace hw := hw)
      | (refine wpl_store_agg (v := val3 ⟨3, 0, 0⟩) rfl rfl (size3 _) hw.rot WrA.slot3 ?_; clear hw; intro w2 hw))
    refine bodyPost_at (results_cell1 Try.results24 rfl (hw.slot_run agg3 (size3 _))) rfl ?_
    exact ⟨rfl, hw.made_grew⟩
  · have d3 : (k == 3) = false := by simpa using h3
    rw [if_neg h3] at hvv
    by_cases h2 : k = 2
    · have d2 : (k == 2) = true := by simp [h2]
      rw [if_pos h2] at hvv
      clear h2 h3
      subst hvv
      go_enter Try.func24, Try.ntmps24
      go_upto_region 4 with (first
        | (refine wpl_alloc zero3 hw ?_; clear hw; intro g1 w1 hw)
        | (refine wpl_buildS hb rfl ?_)
        | (refine wpl_store_agg (v := val3 ⟨k, 0, 0⟩) rfl rfl (size3 _) hw WrA.slot3 ?_; clear hw; intro w2 hw)
        | (refine wpl_store rfl rfl rfl size8 hw (Wr.c31 (a' := a)) ?_; clear hw; intro w3 hw))
      go_wp2_with (first
        | (refine wpl_store rfl rfl rfl size8 hw (Wr.c32 (b' := b)) ?_; clear hw; intro w3 hw)
        | (refine wpl_load3 (v := ⟨k, a, b⟩) rfl (has3_slot (t := 40)) agg3 size3n hw ?_)
        | (refine wpl_store_agg (v := val3 ⟨k, a, b⟩) rfl rfl (size3 _) hw.rot WrA.slot3 ?_; clear hw; intro w2 hw))
      refine bodyPost_at (results_cell1 Try.results24 rfl (hw.slot_run agg3 (size3 _))) rfl ?_
      exact ⟨rfl, hw.made_grew⟩
    · have d2 : (k == 2) = false := by simpa using h2
      rw [if_neg h2] at hvv
      clear h2 h3
      subst hvv
      go_enter Try.func24, Try.ntmps24
      go_upto_region 4 with (first
        | (refine wpl_alloc zero3 hw ?_; clear hw; intro g1 w1 hw)
        | (refine wpl_buildS hb rfl ?_)
        | (refine wpl_store_agg (v := val3 ⟨k, 0, 0⟩) rfl rfl (size3 _) hw WrA.slot3 ?_; clear hw; intro w2 hw)
        | (refine wpl_store rfl rfl rfl size8 hw (Wr.c31 (a' := a)) ?_; clear hw; intro w3 hw))
      go_wp2_with (first
        | (refine wpl_load3 (v := ⟨k, a, 0⟩) rfl (has3_slot (t := 40)) agg3 size3n hw ?_)
        | (refine wpl_store_agg (v := val3 ⟨k, a, 0⟩) rfl rfl (size3 _) hw.rot WrA.slot3 ?_; clear hw; intro w2 hw))
      refine bodyPost_at (results_cell1 Try.results24 rfl (hw.slot_run agg3 (size3 _))) rfl ?_
      exact ⟨rfl, hw.made_grew⟩
set_option maxHeartbeats 2000000 in
theorem descmay_c {w : World} (d : V3) {e : Int} (he : Hid (descE d = e)) :
    Calls Try.prog 19 #[val3 d] w fun r w' => r = .returned (.int .i64 e) ∧ Grew w w' := by
  by_cases hk : 1 ≤ d.k
  · by_cases hk2 : d.k ≤ 3
    · by_cases h1 : d.a < 1
      · skip
        obtain rfl : e = 1 := by
          rw [← he.out]; unfold descE
          first | (rw [if_neg (by omega)]; done) | (rw [if_neg (by omega)]) | (rw [if_pos (by omega), if_pos (by omega)]) | (rw [if_pos (by omega), if_neg (by omega)])
        clear he
        have hw := St.start w
        go_enter Try.func19, Try.ntmps19
        go_upto_region 1 with (first
          | (refine wpl_box_v (v := val3 d) rfl hw ?_; clear hw; intro g1 w1 hw))
        obtain ⟨c0, c1, c2⟩ := (has3_slot (w0 := w) (L := []) (g := g1) (v := d) (t := 28)).facts hw
        go_wp2
        go_ret
        exact ⟨rfl, hw.made_grew⟩
      · by_cases h2 : 4 < d.a
        · skip
          obtain rfl : e = 1 := by
            rw [← he.out]; unfold descE
            first | (rw [if_neg (by omega)]; done) | (rw [if_neg (by omega)]) | (rw [if_pos (by omega), if_pos (by omega)]) | (rw [if_pos (by omega), if_neg (by omega)])
          clear he
          have hw := St.start w
          go_enter Try.func19, Try.ntmps19
          go_upto_region 1 with (first
            | (refine wpl_box_v (v := val3 d) rfl hw ?_; clear hw; intro g1 w1 hw))
          obtain ⟨c0, c1, c2⟩ := (has3_slot (w0 := w) (L := []) (g := g1) (v := d) (t := 28)).facts hw
          go_wp2
          go_ret
          exact ⟨rfl, hw.made_grew⟩
        · by_cases h3 : d.b < 0
          · skip
            obtain rfl : e = 1 := by
              rw [← he.out]; unfold descE
              first | (rw [if_neg (by omega)]; done) | (rw [if_neg (by omega)]) | (rw [if_pos (by omega), if_pos (by omega)]) | (rw [if_pos (by omega), if_neg (by omega)])
            clear he
            have hw := St.start w
            go_enter Try.func19, Try.ntmps19
            go_upto_region 1 with (first
              | (refine wpl_box_v (v := val3 d) rfl hw ?_; clear hw; intro g1 w1 hw))
            obtain ⟨c0, c1, c2⟩ := (has3_slot (w0 := w) (L := []) (g := g1) (v := d) (t := 28)).facts hw
            go_wp2
            go_ret
            exact ⟨rfl, hw.made_grew⟩
          · by_cases h4 : 1000 < d.b
            · skip
              obtain rfl : e = 1 := by
                rw [← he.out]; unfold descE
                first | (rw [if_neg (by omega)]; done) | (rw [if_neg (by omega)]) | (rw [if_pos (by omega), if_pos (by omega)]) | (rw [if_pos (by omega), if_neg (by omega)])
              clear he
              have hw := St.start w
              go_enter Try.func19, Try.ntmps19
              go_upto_region 1 with (first
                | (refine wpl_box_v (v := val3 d) rfl hw ?_; clear hw; intro g1 w1 hw))
              obtain ⟨c0, c1, c2⟩ := (has3_slot (w0 := w) (L := []) (g := g1) (v := d) (t := 28)).facts hw
              go_wp2
              go_ret
              exact ⟨rfl, hw.made_grew⟩
            · by_cases h5 : d.a = 4
              · by_cases h6 : d.k = 3
                · skip
                  obtain rfl : e = 0 := by
                    rw [← he.out]; unfold descE
                    first | (rw [if_neg (by omega)]; done) | (rw [if_neg (by omega)]) | (rw [if_pos (by omega), if_pos (by omega)]) | (rw [if_pos (by omega), if_neg (by omega)])
                  clear he
                  have hw := St.start w
                  go_enter Try.func19, Try.ntmps19
                  go_upto_region 1 with (first
                    | (refine wpl_box_v (v := val3 d) rfl hw ?_; clear hw; intro g1 w1 hw))
                  obtain ⟨c0, c1, c2⟩ := (has3_slot (w0 := w) (L := []) (g := g1) (v := d) (t := 28)).facts hw
                  go_wp2
                  go_ret
                  exact ⟨rfl, hw.made_grew⟩
                · skip
                  obtain rfl : e = 9 := by
                    rw [← he.out]; unfold descE
                    first | (rw [if_neg (by omega)]; done) | (rw [if_neg (by omega)]) | (rw [if_pos (by omega), if_pos (by omega)]) | (rw [if_pos (by omega), if_neg (by omega)])
                  clear he
                  have hw := St.start w
                  go_enter Try.func19, Try.ntmps19
                  go_upto_region 1 with (first
                    | (refine wpl_box_v (v := val3 d) rfl hw ?_; clear hw; intro g1 w1 hw))
                  obtain ⟨c0, c1, c2⟩ := (has3_slot (w0 := w) (L := []) (g := g1) (v := d) (t := 28)).facts hw
                  go_wp2
                  go_ret
                  exact ⟨rfl, hw.made_grew⟩
              · skip
                obtain rfl : e = 0 := by
                  rw [← he.out]; unfold descE
                  first | (rw [if_neg (by omega)]; done) | (rw [if_neg (by omega)]) | (rw [if_pos (by omega), if_pos (by omega)]) | (rw [if_pos (by omega), if_neg (by omega)])
                clear he
                have hw := St.start w
                go_enter Try.func19, Try.ntmps19
                go_upto_region 1 with (first
                  | (refine wpl_box_v (v := val3 d) rfl hw ?_; clear hw; intro g1 w1 hw))
                obtain ⟨c0, c1, c2⟩ := (has3_slot (w0 := w) (L := []) (g := g1) (v := d) (t := 28)).facts hw
                go_wp2
                go_ret
                exact ⟨rfl, hw.made_grew⟩
    · skip
      obtain rfl : e = 1 := by
        rw [← he.out]; unfold descE
        first | (rw [if_neg (by omega)]; done) | (rw [if_neg (by omega)]) | (rw [if_pos (by omega), if_pos (by omega)]) | (rw [if_pos (by omega), if_neg (by omega)])
      clear he
      have hw := St.start w
      go_enter Try.func19, Try.ntmps19
      go_upto_region 1 with (first
        | (refine wpl_box_v (v := val3 d) rfl hw ?_; clear hw; intro g1 w1 hw))
      obtain ⟨c0, c1, c2⟩ := (has3_slot (w0 := w) (L := []) (g := g1) (v := d) (t := 28)).facts hw
      go_wp2
      go_ret
      exact ⟨rfl, hw.made_grew⟩
  · skip
    obtain rfl : e = 1 := by
      rw [← he.out]; unfold descE
      first | (rw [if_neg (by omega)]; done) | (rw [if_neg (by omega)]) | (rw [if_pos (by omega), if_pos (by omega)]) | (rw [if_pos (by omega), if_neg (by omega)])
    clear he
    have hw := St.start w
    go_enter Try.func19, Try.ntmps19
    go_upto_region 1 with (first
      | (refine wpl_box_v (v := val3 d) rfl hw ?_; clear hw; intro g1 w1 hw))
    obtain ⟨c0, c1, c2⟩ := (has3_slot (w0 := w) (L := []) (g := g1) (v := d) (t := 28)).facts hw
    go_wp2
    go_ret
    exact ⟨rfl, hw.made_grew⟩
end Go.Proofs.Ytmdjpeblbnbjmaa
