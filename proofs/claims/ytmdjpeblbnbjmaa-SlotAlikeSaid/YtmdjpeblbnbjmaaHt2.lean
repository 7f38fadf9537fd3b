/-
  The contracts of values found by sums (hash): find.
-/
import Derived.Test.YtmdjpeblbnbjmaaHt
set_option maxRecDepth 100000
namespace Go.Proofs.Ytmdjpeblbnbjmaa
open Go Go.RowKit
attribute [local irreducible] wpList Calls Code.wp okI okN pS memS getG homeN at_

theorem at_next {n : Nat} (hn : Pow n) (i d : Nat) : (((at_ n i d : Nat) : Int) + 1) % (n : Int) = ((at_ n i (d + 1) : Nat) : Int) := by
  rw [at_succ hn]
  simp
set_option maxHeartbeats 1000000 in
/-- An index that is there. -/
theorem find_in {w0 w : World} {L : List As} {D left n : Nat} {S : List Nat} {g : Nat → V3} {l : List HS} {A : Option Addr} {cap i p : Nat} {v : V3} (hs : St w0 (blk D (htC S left A n cap) 140 :: own A n cap 172 5 (cs5 l) :: L) w) (hok : HtOk n l S g left) (hi : i < 65536) (hp : l[p]? = some (HS.f i v)) :
    Calls Try.prog 99 #[.pointer (some ⟨D, 0, none⟩), .int .i64 (i : Nat)] w fun e w' => e = .returned (.tuple #[.int .i64 (p : Nat), .int .i64 (-1)]) ∧ Grew w w' := by
  obtain ⟨hin, hgv, d0, hd0, hat, hpath⟩ := hok.full p i v hp
  clear hin hgv
  have hn := hok.pow
  have hnb := hn.pos
  have hlen := hok.len
  obtain ⟨gA, rfl⟩ := (hs.ent (Ent.swap _ _ _)).own_at (by omega)
  obtain ⟨x0, HX0⟩ : ∃ x, Hid (((at_ n i 0 : Nat) : Int) = x) := ⟨_, rfl⟩
  obtain ⟨K, H, hK0, hHAT, hP, hlt, hnext, hback⟩ : ∃ (K : Nat → Nat) (H : Nat), ((K 0 : Nat) : Int) = x0 ∧ K d0 = p ∧ (∀ j, j < d0 → ∃ s : HS, l[K j]? = some s ∧ s.isE = false ∧ ∀ v, s ≠ HS.f i v) ∧ (∀ d, K d < n) ∧ (∀ d, (((K d : Nat) : Int) + 1) % (n : Int) = ((K (d + 1) : Nat) : Int)) ∧ (∀ d, d < n → (K d + n - H) % n = d) :=
    ⟨at_ n i, homeN n i, HX0.out, hat, hpath, fun d => at_lt hn i d, fun d => at_next hn i d, fun d hd => at_back hn i hd⟩
  have HP := Lib.hid hP
  have HPP := Lib.hid hp
  have HAT := Lib.hid hHAT
  clear hP hHAT
  have hr2 := Rd.ht2 (w0 := w0) (D := D) (n := n) (cap := cap) (A := some ⟨gA, 0, none⟩) (S := S) (left := left) (t := 140) (L := own (some ⟨gA, 0, none⟩) n cap 172 5 (cs5 l) :: L)
  clear hpath hp hat hok
  have hc := hr2 _ hs
  go_enter Try.func99, Try.ntmps99
  go_wp2_with (first
    | (go_at_call 101; refine (home_v hi hn HX0).mono ?_; rintro e w' ⟨rfl, rfl⟩))
  clear hc
  go_loopw [5, 6] (fun fv kv wr => ∃ (d : Nat) (fr : Int), d ≤ d0 ∧ fv = .int .i64 fr ∧ kv = .int .i64 (K d : Nat) ∧ Grew w wr) (fun _ kv _ => n - ((intOf kv).toNat + n - H) % n)
  case atStart => exact ⟨0, -1, Nat.zero_le _, rfl, by rw [hK0], Grew.refl _⟩
  case round =>
    clear HX0 hK0
    obtain ⟨d, fr, hdd, rfl, rfl, hg⟩ := hrel
    have hd : d < n := by omega
    have hk := hlt d
    obtain ⟨s, hsd⟩ : ∃ s, l[K d]? = some s := ⟨_, List.getElem?_eq_getElem (by omega)⟩
    have hrv := fun j u hu => (Rd.row5 (w0 := w0) (g := gA) (n := n) (cap := cap) (t := 172) (L := L) hsd j u hu).tail (p := blk D (htC S left (some ⟨gA, 0, none⟩) n cap) 140)
    have hsr := hs.grew hg
    have hc := hr2 _ hsr
    have hw := St.start wr
    by_cases he : d = d0
    · subst he
      have e1 : s = HS.f i v := by
        have := HPP.out
        rw [← HAT.out, hsd] at this
        injection this
      subst e1
      clear hsd
      go_upto_region 5 with (first
        | (refine wpl_load_agg (cs := c5 (HS.f i v)) (b := gA) (o := K d * 5) rfl agg5 (size5n (HS.f i v)) hsr hrv ?_; clear hc)
        | (refine wpl_alloc zero5 hw ?_; clear hw; intro g7 w1 hw)
        | (refine wpl_store_agg (v := val5 (HS.f i v)) rfl rfl (size5 _) hw WrA.slot5 ?_; clear hw; intro w2 hw))
      have hc := hr2 _ (hsr.grew hw.made_grew)
      have k0 : w2.cell? ⟨g7, 0, none⟩ = some (.int .i64 (HS.kn (HS.f i v))) := Rd.blk (g := g7) (k := 0) (cs := (c5 (HS.f i v)).toArray) (t := 172) rfl _ hw
      have k1 : w2.cell? ⟨g7, 1, none⟩ = some (.int .i64 (HS.ix (HS.f i v))) := Rd.blk (g := g7) (k := 1) (cs := (c5 (HS.f i v)).toArray) (t := 172) rfl _ hw
      simp only [HS.kn, HS.ix] at k0 k1
      go_wp2
      go_ret2
      exact ⟨by rw [← HAT.out]; rfl, hg.trans hw.made_grew⟩
    · obtain ⟨s', hs1, hs2, hs3⟩ := HP.out d (by omega)
      rw [hsd] at hs1
      injection hs1 with hs1
      subst hs1
      cases s with
      | e => cases hs2
      | t =>
        clear hsd hs2 hs3
        by_cases hf : fr < 0
        · skip
          go_upto_region 5 with (first
            | (refine wpl_load_agg (cs := c5 (HS.t)) (b := gA) (o := K d * 5) rfl agg5 (size5n (HS.t)) hsr hrv ?_; clear hc)
            | (refine wpl_alloc zero5 hw ?_; clear hw; intro g7 w1 hw)
            | (refine wpl_store_agg (v := val5 (HS.t)) rfl rfl (size5 _) hw WrA.slot5 ?_; clear hw; intro w2 hw))
          have hc := hr2 _ (hsr.grew hw.made_grew)
          have k0 : w2.cell? ⟨g7, 0, none⟩ = some (.int .i64 (HS.kn (HS.t))) := Rd.blk (g := g7) (k := 0) (cs := (c5 (HS.t)).toArray) (t := 172) rfl _ hw
          have k1 : w2.cell? ⟨g7, 1, none⟩ = some (.int .i64 (HS.ix (HS.t))) := Rd.blk (g := g7) (k := 1) (cs := (c5 (HS.t)).toArray) (t := 172) rfl _ hw
          simp only [HS.kn, HS.ix] at k0 k1
          go_wp2
          have hnx := hnext d
          refine ⟨⟨d + 1, (K d : Nat), by omega, rfl, by rw [hnx], hg.trans hw.made_grew⟩, ?_⟩
          rw [hnx]
          simp only [intOf, Int.toNat_natCast]
          rw [hback d hd, hback (d + 1) (by omega)]
          omega
        · skip
          go_upto_region 5 with (first
            | (refine wpl_load_agg (cs := c5 (HS.t)) (b := gA) (o := K d * 5) rfl agg5 (size5n (HS.t)) hsr hrv ?_; clear hc)
            | (refine wpl_alloc zero5 hw ?_; clear hw; intro g7 w1 hw)
            | (refine wpl_store_agg (v := val5 (HS.t)) rfl rfl (size5 _) hw WrA.slot5 ?_; clear hw; intro w2 hw))
          have hc := hr2 _ (hsr.grew hw.made_grew)
          have k0 : w2.cell? ⟨g7, 0, none⟩ = some (.int .i64 (HS.kn (HS.t))) := Rd.blk (g := g7) (k := 0) (cs := (c5 (HS.t)).toArray) (t := 172) rfl _ hw
          have k1 : w2.cell? ⟨g7, 1, none⟩ = some (.int .i64 (HS.ix (HS.t))) := Rd.blk (g := g7) (k := 1) (cs := (c5 (HS.t)).toArray) (t := 172) rfl _ hw
          simp only [HS.kn, HS.ix] at k0 k1
          go_wp2
          have hnx := hnext d
          refine ⟨⟨d + 1, fr, by omega, rfl, by rw [hnx], hg.trans hw.made_grew⟩, ?_⟩
          rw [hnx]
          simp only [intOf, Int.toNat_natCast]
          rw [hback d hd, hback (d + 1) (by omega)]
          omega
      | f j u =>
        have hne : j ≠ i := fun e => hs3 u (by rw [e])
        have hjb : ((j : Int) == (i : Int)) = false := by simp; omega
        clear hsd hs2 hs3
        go_upto_region 5 with (first
          | (refine wpl_load_agg (cs := c5 (HS.f j u)) (b := gA) (o := K d * 5) rfl agg5 (size5n (HS.f j u)) hsr hrv ?_; clear hc)
          | (refine wpl_alloc zero5 hw ?_; clear hw; intro g7 w1 hw)
          | (refine wpl_store_agg (v := val5 (HS.f j u)) rfl rfl (size5 _) hw WrA.slot5 ?_; clear hw; intro w2 hw))
        have hc := hr2 _ (hsr.grew hw.made_grew)
        have k0 : w2.cell? ⟨g7, 0, none⟩ = some (.int .i64 (HS.kn (HS.f j u))) := Rd.blk (g := g7) (k := 0) (cs := (c5 (HS.f j u)).toArray) (t := 172) rfl _ hw
        have k1 : w2.cell? ⟨g7, 1, none⟩ = some (.int .i64 (HS.ix (HS.f j u))) := Rd.blk (g := g7) (k := 1) (cs := (c5 (HS.f j u)).toArray) (t := 172) rfl _ hw
        simp only [HS.kn, HS.ix] at k0 k1
        clear hne
        go_wp2
        have hnx := hnext d
        refine ⟨⟨d + 1, fr, by omega, rfl, by rw [hnx], hg.trans hw.made_grew⟩, ?_⟩
        rw [hnx]
        simp only [intOf, Int.toNat_natCast]
        rw [hback d hd, hback (d + 1) (by omega)]
        omega
end Go.Proofs.Ytmdjpeblbnbjmaa
