/-
  The document's rising rows (vivariumref1), 4: List, Word.
-/
import Derived.Test.YtdcihfofdjckjaaDoorRrow3
set_option maxRecDepth 100000
namespace Go.Proofs.YtdcihfofdjckjaaDoor
open Go Go.RowKit
attribute [local irreducible] wpList Calls Code.wp

theorem St.newly {w : World} : St w [] w := St.start w
set_option maxHeartbeats 1000000 in
theorem rlist_c {w0 w : World} {L : List As} {S : List Nat} (hS : S.Pairwise (· < ·)) {A : Option Addr} {n cap : Nat} (hn : S.length = n) (hn2 : n ≤ 4000000000) (hs : St w0 (own A n cap 3 1 (intv S) :: L) w) {f m : Int} {l : List Nat} {q : Nat} (h : Hid (listS S f m = l)) (hq : Hid (l.length = q)) :
    Calls Tryd.prog 31 #[.slice A n cap, .int .i64 f, .int .i64 m] w fun e w' => ∃ B cap', e = .returned (.slice B q cap') ∧ St w0 (own B q cap' 3 1 (intv l) :: own A n cap 3 1 (intv S) :: L) w' := by
  have hr := RdS.own hs
  have HA := Lib.hid (at_c (cap := cap) hS hn hn2 hs hr f)
  have HN := Lib.hid hn
  have hA := hs.own_addr
  have hnc := hs.own_len.2.1
  obtain ⟨M, hM⟩ : ∃ M : Nat, min (max m 0) 100000 = (M : Int) := ⟨(min (max m 0) 100000).toNat, by omega⟩
  have hM2 : M ≤ 100000 := by omega
  have HK : Hid (∀ k, AtI S f k → k ≤ n ∧ (S.drop k).take (min M (n - k)) = l ∧ min M (n - k) = q) := by
    intro k hk
    have e := hk.from_
    have hv := h.out
    have hk2 := hk.1
    rw [hn] at hk2
    unfold listS at hv
    have e2 : (min m 100000).toNat = M := by omega
    rw [← e, e2] at hv
    have e3 : (S.drop k).take (min M (n - k)) = l := by
      rw [← hv, List.take_eq_take_iff, List.length_drop]
      omega
    refine ⟨hk2, e3, ?_⟩
    rw [← hq.out, ← e3, List.length_take, List.length_drop]
    omega
  have HMM := Lib.hid hM
  clear hS hn h hM
  rcases hA with ⟨rfl, rfl, rfl⟩ | ⟨g, rfl⟩
  · go_enter Tryd.func31, Tryd.ntmps31
    go_upto_region 3 with (first
      | (go_at_call 41; refine HA.out.mono ?_; rintro e w' ⟨k, rfl, hk, hg⟩; obtain ⟨hkn, hl, hlq⟩ := HK.out k hk; obtain rfl : k = 0 := Nat.le_zero.1 hkn; clear hk))
    rw [HMM.out]
    have HQ : Hid (q = 0) := by rw [Hid]; omega
    have HL : Hid (l = []) := List.eq_nil_of_length_eq_zero (by rw [hq.out, HQ.out])
    clear hl hlq HK
    have hs2 := hs.grew hg
    go_wp2_with (first
      | (refine wpl_build_none elem24 hs2 ?_; clear hs2; intro B w3 hs2)
      | (refine wpl_append (n := 0) (m := 0) (B := none) (news := []) elem24 rfl rfl hs2 (Ent.refl _) RdS.nil rfl nil_one (by unfold maxLen; omega) (by omega) ?_; clear hs2; intro B2 cap2 w4 hs2))
    go_ret
    rw [HQ.out, HL.out]
    exact ⟨B2, cap2, rfl, hs2⟩
  · go_enter Tryd.func31, Tryd.ntmps31
    go_upto_region 3 with (first
      | (go_at_call 41; refine HA.out.mono ?_; rintro e w' ⟨k, rfl, hk, hg⟩; obtain ⟨hkn, hl, hlq⟩ := HK.out k hk; clear hk))
    rw [HMM.out]
    have HL := Lib.hid hl
    have hlen : l.length = q := hq.out
    have hmin : min (n : Int) ((k : Int) + min (M : Int) (n : Int)) = ((k + q : Nat) : Int) := by omega
    have hkq : k + q ≤ n := by omega
    have hll : (intv l).length = q * 1 := by rw [intv_len, hlen, Nat.mul_one]
    have hrl : RdS w0 (own (some ⟨g, 0, none⟩) n cap 3 1 (intv S) :: L) (some ⟨g, k, none⟩) (intv l) := by
      rw [← hl]
      exact (hr.drop k).take _
    have HQ0 := Lib.hid hll
    clear hl hlq HK hlen hll
    have hs2 := hs.grew hg
    have hmin2 := Lib.hid hmin
    clear hmin
    by_cases hck : cap = k
    · have hq0 : q = 0 := by omega
      obtain rfl : l = [] := List.eq_nil_of_length_eq_zero (by have := HQ0.out; rw [intv_len] at this; omega)
      subst hq0
      have e : min (n : Int) ((k : Int) + min (M : Int) (n : Int)) = (k : Int) := by have := hmin2.out; omega
      go_wp2_with (first
        | (refine wpl_build_none elem24 hs2 ?_; clear hs2; intro B w3 hs2)
        | (refine wpl_append (n := 0) (m := 0) (B := some ⟨g, 0, none⟩) (news := []) elem24 rfl rfl hs2 (Ent.refl _) RdS.nil (by simp) nil_one (by unfold maxLen; omega) (by omega) ?_; clear hs2; intro B2 cap2 w4 hs2))
      go_ret
      exact ⟨B2, cap2, rfl, hs2⟩
    · obtain ⟨z, hz⟩ : ∃ z, z = k + q := ⟨_, rfl⟩
      have e : min (n : Int) ((k : Int) + min (M : Int) (n : Int)) = (z : Int) := by have := hmin2.out; omega
      have hzq : q = z - k := by omega
      have hkz : k ≤ z := by omega
      have hzn : z ≤ n := by omega
      clear hmin2 hz hkq
      subst hzq
      go_wp2_with (first
        | (refine wpl_build_none elem24 hs2 ?_; clear hs2; intro B w3 hs2)
        | (refine wpl_append (n := 0) (m := z - k) (B := some ⟨g, k, none⟩) (news := intv l) elem24 rfl rfl hs2 (Ent.refl _) hrl.tail HQ0.out (intv_one _) (by unfold maxLen; omega) (by omega) ?_; clear hs2; intro B2 cap2 w4 hs2))
      go_ret
      rw [Nat.zero_add, List.nil_append] at hs2
      exact ⟨B2, cap2, rfl, hs2⟩
end Go.Proofs.YtdcihfofdjckjaaDoor
