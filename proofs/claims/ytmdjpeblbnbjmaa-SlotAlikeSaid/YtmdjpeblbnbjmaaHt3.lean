/-
  The contracts of values found by sums (hash): find, of an index that is not there.
-/
import Derived.Test.YtmdjpeblbnbjmaaHt2
set_option maxRecDepth 100000
namespace Go.Proofs.Ytmdjpeblbnbjmaa
open Go Go.RowKit
attribute [local irreducible] wpList Calls Code.wp okI okN pS memS getG homeN at_

/-- How far the search has come: nothing on the way is empty; the first tomb, if there was one. -/
def FrI (K : Nat → Nat) (l : List HS) (d : Nat) (fr : Int) : Prop := fr = -1 ∨ ∃ e, e < d ∧ fr = (K e : Nat) ∧ l[K e]? = some HS.t
def PthK (K : Nat → Nat) (l : List HS) (i d : Nat) : Prop := ∀ j, j < d → ∃ s : HS, l[K j]? = some s ∧ s.isE = false ∧ ∀ v, s ≠ HS.f i v
theorem PthK.succ {K : Nat → Nat} {l : List HS} {i d : Nat} {s : HS} (h : PthK K l i d) (hs : l[K d]? = some s) (h1 : s.isE = false) (h2 : ∀ v, s ≠ HS.f i v) : PthK K l i (d + 1) := fun j hj => by
  by_cases e : j = d
  · subst e; exact ⟨s, hs, h1, h2⟩
  · exact h j (by omega)
theorem FrI.succ {K : Nat → Nat} {l : List HS} {d : Nat} {fr : Int} (h : FrI K l d fr) : FrI K l (d + 1) fr := by
  rcases h with h | ⟨e, h1, h2, h3⟩
  · exact .inl h
  · exact .inr ⟨e, by omega, h2, h3⟩
set_option maxHeartbeats 1000000 in
/-- An index that is not there: where it may be put. -/
theorem find_outK {w0 w : World} {L : List As} {D left n : Nat} {S : List Nat} {l : List HS} {A : Option Addr} {cap i : Nat} {K : Nat → Nat} {H : Nat} {x0 : Int} (hs : St w0 (blk D (htC S left A n cap) 140 :: own A n cap 172 5 (cs5 l) :: L) w) (hn : Pow n) (hlen : l.length = n) (hi : i < 65536)
    (hno : ∀ (q : Nat) (v : V3), l[q]? ≠ some (HS.f i v)) (HX0 : Hid (((at_ n i 0 : Nat) : Int) = x0)) (hK0 : ((K 0 : Nat) : Int) = x0) (hlt : ∀ d, K d < n) (hnext : ∀ d, (((K d : Nat) : Int) + 1) % (n : Int) = ((K (d + 1) : Nat) : Int)) (hback : ∀ d, d < n → (K d + n - H) % n = d) (hshort : ∀ d, PthK K l i d → d < n) :
    Calls Try.prog 99 #[.pointer (some ⟨D, 0, none⟩), .int .i64 (i : Nat)] w fun e w' => ∃ d s, d < n ∧ PthK K l i d ∧ l[K d]? = some s ∧ s.isF = false ∧ e = .returned (.tuple #[.int .i64 (-1), .int .i64 (K d : Nat)]) ∧ Grew w w' := by
  have hnb := hn.pos
  obtain ⟨gA, rfl⟩ := (hs.ent (Ent.swap _ _ _)).own_at (by omega)
  have hr2 := Rd.ht2 (w0 := w0) (D := D) (n := n) (cap := cap) (A := some ⟨gA, 0, none⟩) (S := S) (left := left) (t := 140) (L := own (some ⟨gA, 0, none⟩) n cap 172 5 (cs5 l) :: L)
  have hc := hr2 _ hs
  go_enter Try.func99, Try.ntmps99
  go_wp2_with (first
    | (go_at_call 101; refine (home_v hi hn HX0).mono ?_; rintro e w' ⟨rfl, rfl⟩))
  clear hc
  go_loopw [5, 6] (fun fv kv wr => ∃ (d : Nat) (fr : Int), Hid (PthK K l i d) ∧ Hid (FrI K l d fr) ∧ fv = .int .i64 fr ∧ kv = .int .i64 (K d : Nat) ∧ Grew w wr) (fun _ kv _ => n - ((intOf kv).toNat + n - H) % n)
  case atStart => exact ⟨0, -1, fun j hj => absurd hj (Nat.not_lt_zero j), .inl rfl, rfl, by rw [hK0], Grew.refl _⟩
  case round =>
    clear HX0 hK0
    obtain ⟨d, fr, HP, HF, rfl, rfl, hg⟩ := hrel
    have hd : d < n := hshort d HP.out
    have hk := hlt d
    obtain ⟨s, hsd⟩ : ∃ s, l[K d]? = some s := ⟨_, List.getElem?_eq_getElem (by omega)⟩
    have HSd := Lib.hid hsd
    have hrv := fun j u hu => (Rd.row5 (w0 := w0) (g := gA) (n := n) (cap := cap) (t := 172) (L := L) hsd j u hu).tail (p := blk D (htC S left (some ⟨gA, 0, none⟩) n cap) 140)
    have hsr := hs.grew hg
    have hc := hr2 _ hsr
    have hw := St.start wr
    clear hsd
    cases s with
    | e =>
      rcases HF.out with rfl | ⟨e, he, rfl, het⟩
      · clear HF
        go_upto_region 5 with (first
          | (refine wpl_load_agg (cs := c5 (HS.e)) (b := gA) (o := K d * 5) rfl agg5 (size5n (HS.e)) hsr hrv ?_; clear hc)
          | (refine wpl_alloc zero5 hw ?_; clear hw; intro g7 w1 hw)
          | (refine wpl_store_agg (v := val5 (HS.e)) rfl rfl (size5 _) hw WrA.slot5 ?_; clear hw; intro w2 hw))
        have hc := hr2 _ (hsr.grew hw.made_grew)
        have k0 : w2.cell? ⟨g7, 0, none⟩ = some (.int .i64 (HS.kn (HS.e))) := Rd.blk (g := g7) (k := 0) (cs := (c5 (HS.e)).toArray) (t := 172) rfl _ hw
        have k1 : w2.cell? ⟨g7, 1, none⟩ = some (.int .i64 (HS.ix (HS.e))) := Rd.blk (g := g7) (k := 1) (cs := (c5 (HS.e)).toArray) (t := 172) rfl _ hw
        simp only [HS.kn, HS.ix] at k0 k1
        go_wp2
        go_ret2
        exact ⟨d, HS.e, hd, HP.out, HSd.out, rfl, rfl, hg.trans hw.made_grew⟩
      · have hen : e < n := by omega
        have HET := Lib.hid het
        clear HF het
        go_upto_region 5 with (first
          | (refine wpl_load_agg (cs := c5 (HS.e)) (b := gA) (o := K d * 5) rfl agg5 (size5n (HS.e)) hsr hrv ?_; clear hc)
          | (refine wpl_alloc zero5 hw ?_; clear hw; intro g7 w1 hw)
          | (refine wpl_store_agg (v := val5 (HS.e)) rfl rfl (size5 _) hw WrA.slot5 ?_; clear hw; intro w2 hw))
        have hc := hr2 _ (hsr.grew hw.made_grew)
        have k0 : w2.cell? ⟨g7, 0, none⟩ = some (.int .i64 (HS.kn (HS.e))) := Rd.blk (g := g7) (k := 0) (cs := (c5 (HS.e)).toArray) (t := 172) rfl _ hw
        have k1 : w2.cell? ⟨g7, 1, none⟩ = some (.int .i64 (HS.ix (HS.e))) := Rd.blk (g := g7) (k := 1) (cs := (c5 (HS.e)).toArray) (t := 172) rfl _ hw
        simp only [HS.kn, HS.ix] at k0 k1
        go_wp2
        go_ret2
        exact ⟨e, HS.t, hen, fun j hj => HP.out j (by omega), HET.out, rfl, rfl, hg.trans hw.made_grew⟩
    | t =>
      have HP2 : Hid (PthK K l i (d + 1)) := HP.out.succ HSd.out rfl (fun v e => by cases e)
      have hd1 := hshort _ HP2.out
      rcases HF.out with rfl | ⟨e, he, rfl, het⟩
      · have HF2 : Hid (FrI K l (d + 1) ((K d : Nat) : Int)) := .inr ⟨d, by omega, rfl, HSd.out⟩
        clear HF
        go_upto_region 5 with (first
          | (refine wpl_load_agg (cs := c5 (HS.t)) (b := gA) (o := K d * 5) rfl agg5 (size5n (HS.t)) hsr hrv ?_; clear hc)
          | (refine wpl_alloc zero5 hw ?_; clear hw; intro g7 w1 hw)
          | (refine wpl_store_agg (v := val5 (HS.t)) rfl rfl (size5 _) hw WrA.slot5 ?_; clear hw; intro w2 hw))
        have hc := hr2 _ (hsr.grew hw.made_grew)
        have k0 : w2.cell? ⟨g7, 0, none⟩ = some (.int .i64 (HS.kn (HS.t))) := Rd.blk (g := g7) (k := 0) (cs := (c5 (HS.t)).toArray) (t := 172) rfl _ hw
        have k1 : w2.cell? ⟨g7, 1, none⟩ = some (.int .i64 (HS.ix (HS.t))) := Rd.blk (g := g7) (k := 1) (cs := (c5 (HS.t)).toArray) (t := 172) rfl _ hw
        simp only [HS.kn, HS.ix] at k0 k1
        go_wp2
        have hnx := hnext d
        refine ⟨⟨d + 1, (K d : Nat), HP2, HF2, rfl, by rw [hnx], hg.trans hw.made_grew⟩, ?_⟩
        rw [hnx]
        simp only [intOf, Int.toNat_natCast]
        rw [hback d hd, hback (d + 1) (by omega)]
        omega
      · have HF2 := Lib.hid HF.out.succ
        clear HF het
        go_upto_region 5 with (first
          | (refine wpl_load_agg (cs := c5 (HS.t)) (b := gA) (o := K d * 5) rfl agg5 (size5n (HS.t)) hsr hrv ?_; clear hc)
          | (refine wpl_alloc zero5 hw ?_; clear hw; intro g7 w1 hw)
          | (refine wpl_store_agg (v := val5 (HS.t)) rfl rfl (size5 _) hw WrA.slot5 ?_; clear hw; intro w2 hw))
        have hc := hr2 _ (hsr.grew hw.made_grew)
        have k0 : w2.cell? ⟨g7, 0, none⟩ = some (.int .i64 (HS.kn (HS.t))) := Rd.blk (g := g7) (k := 0) (cs := (c5 (HS.t)).toArray) (t := 172) rfl _ hw
        have k1 : w2.cell? ⟨g7, 1, none⟩ = some (.int .i64 (HS.ix (HS.t))) := Rd.blk (g := g7) (k := 1) (cs := (c5 (HS.t)).toArray) (t := 172) rfl _ hw
        simp only [HS.kn, HS.ix] at k0 k1
        go_wp2
        have hnx := hnext d
        refine ⟨⟨d + 1, (K e : Nat), HP2, HF2, rfl, by rw [hnx], hg.trans hw.made_grew⟩, ?_⟩
        rw [hnx]
        simp only [intOf, Int.toNat_natCast]
        rw [hback d hd, hback (d + 1) (by omega)]
        omega
    | f j u =>
      have hne : j ≠ i := fun e => hno _ u (e ▸ HSd.out)
      have hjb : ((j : Int) == (i : Int)) = false := by simp; omega
      have HP2 : Hid (PthK K l i (d + 1)) := HP.out.succ HSd.out rfl (fun v e => by injection e with e1 _; exact hne e1)
      have hd1 := hshort _ HP2.out
      have HF2 := Lib.hid HF.out.succ
      clear hne HF
      go_upto_region 5 with (first
        | (refine wpl_load_agg (cs := c5 (HS.f j u)) (b := gA) (o := K d * 5) rfl agg5 (size5n (HS.f j u)) hsr hrv ?_; clear hc)
        | (refine wpl_alloc zero5 hw ?_; clear hw; intro g7 w1 hw)
        | (refine wpl_store_agg (v := val5 (HS.f j u)) rfl rfl (size5 _) hw WrA.slot5 ?_; clear hw; intro w2 hw))
      have hc := hr2 _ (hsr.grew hw.made_grew)
      have k0 : w2.cell? ⟨g7, 0, none⟩ = some (.int .i64 (HS.kn (HS.f j u))) := Rd.blk (g := g7) (k := 0) (cs := (c5 (HS.f j u)).toArray) (t := 172) rfl _ hw
      have k1 : w2.cell? ⟨g7, 1, none⟩ = some (.int .i64 (HS.ix (HS.f j u))) := Rd.blk (g := g7) (k := 1) (cs := (c5 (HS.f j u)).toArray) (t := 172) rfl _ hw
      simp only [HS.kn, HS.ix] at k0 k1
      go_wp2
      have hnx := hnext d
      refine ⟨⟨d + 1, fr, HP2, HF2, rfl, by rw [hnx], hg.trans hw.made_grew⟩, ?_⟩
      rw [hnx]
      simp only [intOf, Int.toNat_natCast]
      rw [hback d hd, hback (d + 1) (by omega)]
      omega
theorem find_out {w0 w : World} {L : List As} {D left n : Nat} {S : List Nat} {g : Nat → V3} {l : List HS} {A : Option Addr} {cap i : Nat} (hs : St w0 (blk D (htC S left A n cap) 140 :: own A n cap 172 5 (cs5 l) :: L) w) (hok : HtOk n l S g left) (hroom : S.length + left < n) (hi : i < 65536) (hiS : i ∉ S) :
    Calls Try.prog 99 #[.pointer (some ⟨D, 0, none⟩), .int .i64 (i : Nat)] w fun e w' => ∃ d s, d < n ∧ Path n l i d ∧ l[at_ n i d]? = some s ∧ s.isF = false ∧ e = .returned (.tuple #[.int .i64 (-1), .int .i64 (at_ n i d : Nat)]) ∧ Grew w w' := by
  obtain ⟨pe, hpe, hpl⟩ := hok.room hroom
  have hn := hok.pow
  exact find_outK hs hn hok.len hi (fun q v hq => hiS (hok.full q i v hq).1) rfl rfl (fun d => at_lt hn i d) (fun d => at_next hn i d) (fun d hd => at_back hn i hd) (fun d hd => Path.short hn hd hpe hpl)
end Go.Proofs.Ytmdjpeblbnbjmaa
