/-
  The contracts of values found by sums (hash): put.
-/
import Derived.Test.YtmdjpeblbnbjmaaHt4
set_option maxRecDepth 100000
namespace Go.Proofs.Ytmdjpeblbnbjmaa
open Go Go.RowKit
attribute [local irreducible] wpList Calls Code.wp okI okN pS memS getG homeN at_ insS

theorem HtOk.left_pos {n : Nat} {l : List HS} {S : List Nat} {g : Nat → V3} {left p : Nat} (h : HtOk n l S g left) (hp : l[p]? = some HS.t) : 0 < left := by
  rw [← h.ct]
  refine List.length_pos_of_mem (a := HS.t) (List.mem_filter.2 ⟨?_, rfl⟩)
  obtain ⟨hl, he⟩ := List.getElem?_eq_some_iff.1 hp
  rw [← he]
  exact List.getElem_mem hl
theorem updG_pG (g : Nat → V3) (i : Nat) (v : V3) : updG g i v = pG g (i : Nat) v := by
  funext j
  unfold updG pG
  by_cases h : j = i
  · subst h; simp
  · rw [if_neg h, if_neg (by omega)]
/-- A slot that an index may take. -/
def FreeAt (n : Nat) (l : List HS) (S : List Nat) (g : Nat → V3) (left i q : Nat) (s : HS) : Prop := l[q]? = some s ∧ s.isF = false ∧ ∀ v, HtOk n (l.set q (HS.f i v)) (insS i S) (pG g (i : Nat) v) (left - if s.isT then 1 else 0)
theorem find_free {w0 w : World} {L : List As} {D left n : Nat} {S : List Nat} {g : Nat → V3} {l : List HS} {A : Option Addr} {cap i : Nat} (hs : St w0 (blk D (htC S left A n cap) 140 :: own A n cap 172 5 (cs5 l) :: L) w) (hok : Hid (HtOk n l S g left)) (hroom : S.length + left < n) (hi : i < 65536) (hiS : i ∉ S) :
    Calls Try.prog 99 #[.pointer (some ⟨D, 0, none⟩), .int .i64 (i : Nat)] w fun e w' => ∃ q s, FreeAt n l S g left i q s ∧ e = .returned (.tuple #[.int .i64 (-1), .int .i64 (q : Nat)]) ∧ Grew w w' :=
  (find_out hs hok.out hroom hi hiS).mono fun e w' ⟨d, s, hd, hpt, hsd, hsf, he, hg⟩ => ⟨at_ n i d, s, ⟨hsd, hsf, fun v => by rw [← updG_pG]; exact hok.out.put hiS hi hd hpt hsd hsf v⟩, he, hg⟩
attribute [local irreducible] FreeAt
set_option maxHeartbeats 1000000 in
theorem ht_put_raw {w0 w : World} {L : List As} {D left n : Nat} {S : List Nat} {g : Nat → V3} {l : List HS} {A : Option Addr} {cap i : Nat} (hs : St w0 (blk D (htC S left A n cap) 140 :: own A n cap 172 5 (cs5 l) :: L) w) (hok : HtOk n l S g left) (hroom : S.length + left < n) (hi : i < 65536) (hiS : i ∉ S) (v : V3) :
    Calls Try.prog 100 #[.pointer (some ⟨D, 0, none⟩), .int .i64 (i : Nat), val3 v] w fun e w' => ∃ l' left', e = .returned (.tuple #[]) ∧ HtOk n l' (insS i S) (pG g (i : Nat) v) left' ∧ left' ≤ left ∧ St w0 (blk D (htC (insS i S) left' A n cap) 140 :: own A n cap 172 5 (cs5 l') :: L) w' := by
  have hlen := hok.len
  have hnb := hok.pow.pos
  obtain ⟨gA, rfl⟩ := (hs.ent (Ent.swap _ _ _)).own_at (by omega)
  have hlS := len_insS hiS
  have HOK := Lib.hid hok
  clear hok
  have hl262 : left ≤ 262144 := by omega
  have hs262 : S.length ≤ 262144 := by omega
  go_enter Try.func100, Try.ntmps100
  go_upto_region 1 with (first
    | (refine wpl_box_v (v := val3 v) rfl hs ?_; clear hs; intro g5 w hs))
  replace hs : St w0 (blk D (htC S left (some ⟨gA, 0, none⟩) n cap) 140 :: own (some ⟨gA, 0, none⟩) n cap 172 5 (cs5 l) :: blk g5 (c3 v).toArray 40 :: L) w := hs.ent (by (repeat first | exact Ent.refl _ | refine Ent.step (by first | exact Ent.refl _ | exact Ent.skip (Ent.refl _) | exact Ent.skip (Ent.skip (Ent.refl _)) | exact Ent.skip (Ent.skip (Ent.skip (Ent.refl _))) | exact Ent.skip (Ent.skip (Ent.skip (Ent.skip (Ent.refl _)))) | exact Ent.skip (Ent.skip (Ent.skip (Ent.skip (Ent.skip (Ent.refl _))))) | exact Ent.skip (Ent.skip (Ent.skip (Ent.skip (Ent.skip (Ent.skip (Ent.refl _)))))) | exact Ent.skip (Ent.skip (Ent.skip (Ent.skip (Ent.skip (Ent.skip (Ent.skip (Ent.refl _))))))) | exact Ent.skip (Ent.skip (Ent.skip (Ent.skip (Ent.skip (Ent.skip (Ent.skip (Ent.skip (Ent.refl _)))))))) | exact Ent.skip (Ent.skip (Ent.skip (Ent.skip (Ent.skip (Ent.skip (Ent.skip (Ent.skip (Ent.skip (Ent.refl _)))))))))) ?_))
  go_upto_region 2 with (first
    | (go_at_call 99; refine (find_free hs HOK hroom hi hiS).mono ?_; rintro e w2 ⟨q, s, hfr, rfl, hg2⟩; replace hs := hs.grew hg2; clear hg2))
  have hfr2 := hfr
  unfold FreeAt at hfr2
  obtain ⟨hsd, hsf, hput⟩ := hfr2
  clear hfr
  have HPUT := Lib.hid (hput v)
  have HLS := Lib.hid hlS
  have hql := (List.getElem?_eq_some_iff.1 hsd).1
  have hrv := (Rd.row5 (w0 := w0) (g := gA) (n := n) (cap := cap) (t := 172) (L := blk g5 (c3 v).toArray 40 :: L) hsd 0 _ rfl).tail (p := blk D (htC S left (some ⟨gA, 0, none⟩) n cap) 140)
  have hc2 := Rd.ht2 w2 hs
  have hc0 := Rd.ht0 w2 hs
  have hc1 := Rd.ht1 w2 hs
  have hk := hrv w2 hs
  simp only [Nat.add_zero] at hk
  cases s with
  | f j u => cases hsf
  | e =>
    simp only [HS.kn] at hk
    clear hsd hsf hput hrv hlS
    go_upto_region 5 with (first
      | (refine wpl_store rfl rfl rfl size_int1 hs (Wr.blk (k := 0) (by simp)) ?_; clear hs hc0 hc1 hc2 hk; intro w hs))
    replace hs : St w0 (blk D #[.int .i64 ((S.length : Nat) + 1), .int .i64 (left : Nat), .slice (some ⟨gA, 0, none⟩) n cap] 140 :: blk g5 (c3 v).toArray 40 :: own (some ⟨gA, 0, none⟩) n cap 172 5 (cs5 l) :: L) w := hs.ent (Ent.cons _ (by (repeat first | exact Ent.refl _ | refine Ent.step (by first | exact Ent.refl _ | exact Ent.skip (Ent.refl _) | exact Ent.skip (Ent.skip (Ent.refl _)) | exact Ent.skip (Ent.skip (Ent.skip (Ent.refl _))) | exact Ent.skip (Ent.skip (Ent.skip (Ent.skip (Ent.refl _)))) | exact Ent.skip (Ent.skip (Ent.skip (Ent.skip (Ent.skip (Ent.refl _))))) | exact Ent.skip (Ent.skip (Ent.skip (Ent.skip (Ent.skip (Ent.skip (Ent.refl _)))))) | exact Ent.skip (Ent.skip (Ent.skip (Ent.skip (Ent.skip (Ent.skip (Ent.skip (Ent.refl _))))))) | exact Ent.skip (Ent.skip (Ent.skip (Ent.skip (Ent.skip (Ent.skip (Ent.skip (Ent.skip (Ent.refl _)))))))) | exact Ent.skip (Ent.skip (Ent.skip (Ent.skip (Ent.skip (Ent.skip (Ent.skip (Ent.skip (Ent.skip (Ent.refl _)))))))))) ?_)))
    refine wp_region_plain [false, false, false, false, false, false, false, false, false, true] hs.only2 (by kernel_rfl) (by kernel_rfl) fun hne => ?_
    have hc2 := (Rd.blk (w0 := w0) (g := D) (k := 2) (cs := #[.int .i64 ((S.length : Nat) + 1), .int .i64 (left : Nat), .slice (some ⟨gA, 0, none⟩) n cap]) (v := .slice (some ⟨gA, 0, none⟩) n cap) (t := 140) (L := [blk g5 (c3 v).toArray 40]) rfl).alln
    have hh := has3_tail (p := blk D #[.int .i64 ((S.length : Nat) + 1), .int .i64 (left : Nat), .slice (some ⟨gA, 0, none⟩) n cap] 140) (has3_slot (w0 := w0) (L := []) (g := g5) (v := v) (t := 40))
    have hv0 := (hh 0 _ rfl).alln
    have hv1 := (hh 1 _ rfl).alln
    have hv2 := (hh 2 _ rfl).alln
    simp only [Nat.add_zero, Nat.zero_add] at hv0 hv1 hv2
    clear hh
    simp only [pickOps]
    repeat (go_big_quiet_step (fail))
    refine wpQuiet_nil ?_
    clear hne hc2 hv0 hv1 hv2
    simp only [chainIx]
    refine wpChain_last rfl ?_
    refine wpl_store_agg (v := val5 (HS.f i v)) rfl rfl (size5 _) (hs.ent (M := own (some ⟨gA, 0, none⟩) n cap 172 5 (cs5 l) :: blk D #[.int .i64 ((S.length : Nat) + 1), .int .i64 (left : Nat), .slice (some ⟨gA, 0, none⟩) n cap] 140 :: blk g5 (c3 v).toArray 40 :: L) (by (repeat first | exact Ent.refl _ | refine Ent.step (by first | exact Ent.refl _ | exact Ent.skip (Ent.refl _) | exact Ent.skip (Ent.skip (Ent.refl _)) | exact Ent.skip (Ent.skip (Ent.skip (Ent.refl _))) | exact Ent.skip (Ent.skip (Ent.skip (Ent.skip (Ent.refl _)))) | exact Ent.skip (Ent.skip (Ent.skip (Ent.skip (Ent.skip (Ent.refl _))))) | exact Ent.skip (Ent.skip (Ent.skip (Ent.skip (Ent.skip (Ent.skip (Ent.refl _)))))) | exact Ent.skip (Ent.skip (Ent.skip (Ent.skip (Ent.skip (Ent.skip (Ent.skip (Ent.refl _))))))) | exact Ent.skip (Ent.skip (Ent.skip (Ent.skip (Ent.skip (Ent.skip (Ent.skip (Ent.skip (Ent.refl _)))))))) | exact Ent.skip (Ent.skip (Ent.skip (Ent.skip (Ent.skip (Ent.skip (Ent.skip (Ent.skip (Ent.skip (Ent.refl _)))))))))) ?_))).drew (WrA.own (o := q * 5) (vs := c5 (HS.f i v)) (by rw [cs5_len, c5_len]; omega) (c5_one _)) ?_
    clear hs
    intro w hs
    rw [show splice (cs5 l) (q * 5) (c5 (HS.f i v)) = cs5 (l.set q (HS.f i v)) from flat_set c5_len _ hql] at hs
    refine wpList_nil ⟨rfl, ?_⟩
    go_wp2
    go_end0
    refine ⟨l.set q (HS.f i v), left, rfl, HPUT.out, Nat.le_refl _, ?_⟩
    have hs2 : St w0 (blk D #[.int .i64 ((S.length : Nat) + 1), .int .i64 (left : Nat), .slice (some ⟨gA, 0, none⟩) n cap] 140 :: own (some ⟨gA, 0, none⟩) n cap 172 5 (cs5 (l.set q (HS.f i v))) :: L) w := (hs.ent (M := blk g5 (c3 v).toArray 40 :: blk D #[.int .i64 ((S.length : Nat) + 1), .int .i64 (left : Nat), .slice (some ⟨gA, 0, none⟩) n cap] 140 :: own (some ⟨gA, 0, none⟩) n cap 172 5 (cs5 (l.set q (HS.f i v))) :: L) (by (repeat first | exact Ent.refl _ | refine Ent.step (by first | exact Ent.refl _ | exact Ent.skip (Ent.refl _) | exact Ent.skip (Ent.skip (Ent.refl _)) | exact Ent.skip (Ent.skip (Ent.skip (Ent.refl _))) | exact Ent.skip (Ent.skip (Ent.skip (Ent.skip (Ent.refl _)))) | exact Ent.skip (Ent.skip (Ent.skip (Ent.skip (Ent.skip (Ent.refl _))))) | exact Ent.skip (Ent.skip (Ent.skip (Ent.skip (Ent.skip (Ent.skip (Ent.refl _)))))) | exact Ent.skip (Ent.skip (Ent.skip (Ent.skip (Ent.skip (Ent.skip (Ent.skip (Ent.refl _))))))) | exact Ent.skip (Ent.skip (Ent.skip (Ent.skip (Ent.skip (Ent.skip (Ent.skip (Ent.skip (Ent.refl _)))))))) | exact Ent.skip (Ent.skip (Ent.skip (Ent.skip (Ent.skip (Ent.skip (Ent.skip (Ent.skip (Ent.skip (Ent.refl _)))))))))) ?_))).drop
    have e : ((S.length : Nat) : Int) + 1 = ((insS i S).length : Nat) := by rw [HLS.out]; omega
    rw [e] at hs2
    exact hs2
  | t =>
    have hlp := HOK.out.left_pos hsd
    simp only [HS.kn] at hk
    have hl1 : ((left : Nat) : Int) - 1 = ((left - 1 : Nat) : Int) := by omega
    have HL1 := Lib.hid hl1
    clear hsd hsf hput hrv hlS hl1
    go_upto_region 5 with (first
      | (refine wpl_store rfl rfl rfl size_int1 hs (Wr.blk (k := 1) (by simp)) ?_; clear hs hc1 hc2 hk hc0; intro w hs; have hc0 := Rd.blk (g := D) (k := 0) (cs := #[.int .i64 (S.length : Nat), .int .i64 ((left : Nat) - 1), .slice (some ⟨gA, 0, none⟩) n cap]) (v := .int .i64 (S.length : Nat)) rfl w hs)
      | (refine wpl_store rfl rfl rfl size_int1 hs (Wr.blk (k := 0) (by simp)) ?_; clear hs hc0; intro w hs))
    replace hs : St w0 (blk D #[.int .i64 ((S.length : Nat) + 1), .int .i64 ((left : Nat) - 1), .slice (some ⟨gA, 0, none⟩) n cap] 140 :: blk g5 (c3 v).toArray 40 :: own (some ⟨gA, 0, none⟩) n cap 172 5 (cs5 l) :: L) w := hs.ent (Ent.cons _ (by (repeat first | exact Ent.refl _ | refine Ent.step (by first | exact Ent.refl _ | exact Ent.skip (Ent.refl _) | exact Ent.skip (Ent.skip (Ent.refl _)) | exact Ent.skip (Ent.skip (Ent.skip (Ent.refl _))) | exact Ent.skip (Ent.skip (Ent.skip (Ent.skip (Ent.refl _)))) | exact Ent.skip (Ent.skip (Ent.skip (Ent.skip (Ent.skip (Ent.refl _))))) | exact Ent.skip (Ent.skip (Ent.skip (Ent.skip (Ent.skip (Ent.skip (Ent.refl _)))))) | exact Ent.skip (Ent.skip (Ent.skip (Ent.skip (Ent.skip (Ent.skip (Ent.skip (Ent.refl _))))))) | exact Ent.skip (Ent.skip (Ent.skip (Ent.skip (Ent.skip (Ent.skip (Ent.skip (Ent.skip (Ent.refl _)))))))) | exact Ent.skip (Ent.skip (Ent.skip (Ent.skip (Ent.skip (Ent.skip (Ent.skip (Ent.skip (Ent.skip (Ent.refl _)))))))))) ?_)))
    refine wp_region_plain [false, false, false, false, false, false, false, false, false, true] hs.only2 (by kernel_rfl) (by kernel_rfl) fun hne => ?_
    have hc2 := (Rd.blk (w0 := w0) (g := D) (k := 2) (cs := #[.int .i64 ((S.length : Nat) + 1), .int .i64 ((left : Nat) - 1), .slice (some ⟨gA, 0, none⟩) n cap]) (v := .slice (some ⟨gA, 0, none⟩) n cap) (t := 140) (L := [blk g5 (c3 v).toArray 40]) rfl).alln
    have hh := has3_tail (p := blk D #[.int .i64 ((S.length : Nat) + 1), .int .i64 ((left : Nat) - 1), .slice (some ⟨gA, 0, none⟩) n cap] 140) (has3_slot (w0 := w0) (L := []) (g := g5) (v := v) (t := 40))
    have hv0 := (hh 0 _ rfl).alln
    have hv1 := (hh 1 _ rfl).alln
    have hv2 := (hh 2 _ rfl).alln
    simp only [Nat.add_zero, Nat.zero_add] at hv0 hv1 hv2
    clear hh
    simp only [pickOps]
    repeat (go_big_quiet_step (fail))
    refine wpQuiet_nil ?_
    clear hne hc2 hv0 hv1 hv2
    simp only [chainIx]
    refine wpChain_last rfl ?_
    refine wpl_store_agg (v := val5 (HS.f i v)) rfl rfl (size5 _) (hs.ent (M := own (some ⟨gA, 0, none⟩) n cap 172 5 (cs5 l) :: blk D #[.int .i64 ((S.length : Nat) + 1), .int .i64 ((left : Nat) - 1), .slice (some ⟨gA, 0, none⟩) n cap] 140 :: blk g5 (c3 v).toArray 40 :: L) (by (repeat first | exact Ent.refl _ | refine Ent.step (by first | exact Ent.refl _ | exact Ent.skip (Ent.refl _) | exact Ent.skip (Ent.skip (Ent.refl _)) | exact Ent.skip (Ent.skip (Ent.skip (Ent.refl _))) | exact Ent.skip (Ent.skip (Ent.skip (Ent.skip (Ent.refl _)))) | exact Ent.skip (Ent.skip (Ent.skip (Ent.skip (Ent.skip (Ent.refl _))))) | exact Ent.skip (Ent.skip (Ent.skip (Ent.skip (Ent.skip (Ent.skip (Ent.refl _)))))) | exact Ent.skip (Ent.skip (Ent.skip (Ent.skip (Ent.skip (Ent.skip (Ent.skip (Ent.refl _))))))) | exact Ent.skip (Ent.skip (Ent.skip (Ent.skip (Ent.skip (Ent.skip (Ent.skip (Ent.skip (Ent.refl _)))))))) | exact Ent.skip (Ent.skip (Ent.skip (Ent.skip (Ent.skip (Ent.skip (Ent.skip (Ent.skip (Ent.skip (Ent.refl _)))))))))) ?_))).drew (WrA.own (o := q * 5) (vs := c5 (HS.f i v)) (by rw [cs5_len, c5_len]; omega) (c5_one _)) ?_
    clear hs
    intro w hs
    rw [show splice (cs5 l) (q * 5) (c5 (HS.f i v)) = cs5 (l.set q (HS.f i v)) from flat_set c5_len _ hql] at hs
    refine wpList_nil ⟨rfl, ?_⟩
    go_wp2
    go_end0
    refine ⟨l.set q (HS.f i v), left - 1, rfl, HPUT.out, Nat.sub_le _ _, ?_⟩
    have hs2 : St w0 (blk D #[.int .i64 ((S.length : Nat) + 1), .int .i64 ((left : Nat) - 1), .slice (some ⟨gA, 0, none⟩) n cap] 140 :: own (some ⟨gA, 0, none⟩) n cap 172 5 (cs5 (l.set q (HS.f i v))) :: L) w := (hs.ent (M := blk g5 (c3 v).toArray 40 :: blk D #[.int .i64 ((S.length : Nat) + 1), .int .i64 ((left : Nat) - 1), .slice (some ⟨gA, 0, none⟩) n cap] 140 :: own (some ⟨gA, 0, none⟩) n cap 172 5 (cs5 (l.set q (HS.f i v))) :: L) (by (repeat first | exact Ent.refl _ | refine Ent.step (by first | exact Ent.refl _ | exact Ent.skip (Ent.refl _) | exact Ent.skip (Ent.skip (Ent.refl _)) | exact Ent.skip (Ent.skip (Ent.skip (Ent.refl _))) | exact Ent.skip (Ent.skip (Ent.skip (Ent.skip (Ent.refl _)))) | exact Ent.skip (Ent.skip (Ent.skip (Ent.skip (Ent.skip (Ent.refl _))))) | exact Ent.skip (Ent.skip (Ent.skip (Ent.skip (Ent.skip (Ent.skip (Ent.refl _)))))) | exact Ent.skip (Ent.skip (Ent.skip (Ent.skip (Ent.skip (Ent.skip (Ent.skip (Ent.refl _))))))) | exact Ent.skip (Ent.skip (Ent.skip (Ent.skip (Ent.skip (Ent.skip (Ent.skip (Ent.skip (Ent.refl _)))))))) | exact Ent.skip (Ent.skip (Ent.skip (Ent.skip (Ent.skip (Ent.skip (Ent.skip (Ent.skip (Ent.skip (Ent.refl _)))))))))) ?_))).drop
    have e : ((S.length : Nat) : Int) + 1 = ((insS i S).length : Nat) := by rw [HLS.out]; omega
    rw [e, HL1.out] at hs2
    exact hs2
end Go.Proofs.Ytmdjpeblbnbjmaa
