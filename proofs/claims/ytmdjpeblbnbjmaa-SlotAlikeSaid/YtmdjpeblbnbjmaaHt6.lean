/-
  The contracts of values found by sums (hash): grow.
-/
import Derived.Test.YtmdjpeblbnbjmaaHtLaw2
set_option maxRecDepth 100000
namespace Go.Proofs.Ytmdjpeblbnbjmaa
open Go Go.RowKit
attribute [local irreducible] wpList Calls Code.wp okI okN pS memS getG homeN at_ insS FreeAt

theorem rd5 {j q : Nat} {v : V3} {x : Value} (hx : (c3 v)[q]? = some x) : (c5 (HS.f j v)).toArray[2 + q]? = some x := by
  rw [show 2 + q = q + 2 by omega]
  simpa [c5, HS.vl] using hx
theorem sizeH (S : List Nat) (left : Nat) (v : Value) : (Try.prog.info? 140).map (·.size) = some (Value.agg #[.int .i64 (S.length : Nat), .int .i64 (left : Nat), v]).cells.size := by kernel_rfl
theorem WrA.ht3 {w0 : World} {D left left' n n' cap cap' : Nat} {S S' : List Nat} {A A' : Option Addr} {t : TypeId} {L : List As} : WrA w0 (Ytmdjpeblbnbjmaa.blk D (htC S left A n cap) t :: L) ⟨D, 0, none⟩ (Value.agg (htC S' left' A' n' cap')).cells.toList (Ytmdjpeblbnbjmaa.blk D (htC S' left' A' n' cap') t :: L) := by
  have := WrA.blk (w0 := w0) (g := D) (o := 0) (cs := (htC S left A n cap).toList) (t := t) (vs := (htC S' left' A' n' cap').toList) (L := L) (by simp) (by simp; exact ⟨rfl, rfl, rfl⟩)
  rwa [splice_all (by simp)] at this
set_option maxHeartbeats 1000000 in
theorem ht_grow {w0 w : World} {L : List As} {D left : Nat} {S : List Nat} {g : Nat → V3} {l : List HS} {A : Option Addr} {cap : Nat} (hs : St w0 (blk D (htC S left A l.length cap) 140 :: own A l.length cap 172 5 (cs5 l) :: L) w) (hok : HtOk l.length l S g left) (hrm : 4 * (S.length + left) ≤ 3 * l.length) (hsz : S.length + 1 ≤ 65536) :
    Calls Try.prog 98 #[.pointer (some ⟨D, 0, none⟩)] w fun e w' => ∃ l' left' A' cap', e = .returned (.tuple #[]) ∧ HtOk l'.length l' S g left' ∧ 4 * (S.length + left' + 1) ≤ 3 * l'.length ∧ St w0 (blk D (htC S left' A' l'.length cap') 140 :: own A' l'.length cap' 172 5 (cs5 l') :: L) w' := by
  have hnb := hok.pow.pos
  obtain ⟨gA, rfl⟩ := (hs.ent (Ent.swap _ _ _)).own_at (by omega)
  obtain ⟨n, hn⟩ : ∃ n, n = l.length := ⟨_, rfl⟩
  rw [← hn] at hs hok hrm hnb
  have HOK := Lib.hid hok
  have HN := Lib.hid hn
  have hl262 : left ≤ 262144 := by omega
  have hc2 := Rd.ht2 w hs
  have hc0 := (Rd.ht0 (w0 := w0) (D := D) (n := n) (cap := cap) (A := some ⟨gA, 0, none⟩) (S := S) (left := left) (t := 140) (L := own (some ⟨gA, 0, none⟩) n cap 172 5 (cs5 l) :: L))
  have hc1 := (Rd.ht1 (w0 := w0) (D := D) (n := n) (cap := cap) (A := some ⟨gA, 0, none⟩) (S := S) (left := left) (t := 140) (L := own (some ⟨gA, 0, none⟩) n cap 172 5 (cs5 l) :: L))
  clear hok hn
  go_enter Try.func98, Try.ntmps98
  go_upto_region 1 with (fail)
  clear hc2
  refine wp_region_grow (by kernel_rfl) (by kernel_rfl) fun hne => ?_
  have k0 := hc0.gall hs
  have k1 := hc1.gall hs
  repeat (go_big_quiet_step (fail))
  refine wpQuiet_nil ?_
  intro u hu
  clear k0 k1 hne
  replace hs := hs.grew hu
  by_cases hbig : 4 * (S.length + left + 1) ≤ 3 * n
  · have d0 : decide (4 * ((S.length : Int) + (left : Int) + 1) ≤ 3 * (n : Int)) = true := decide_eq_true (by omega)
    go_wp2
    refine bodyPost_at (results_none rfl _ _ _) rfl ?_
    rw [HN.out] at hs HOK hbig
    exact ⟨l, left, _, cap, rfl, HOK.out, hbig, hs⟩
  · have d0 : decide (4 * ((S.length : Int) + (left : Int) + 1) ≤ 3 * (n : Int)) = false := decide_eq_false (by omega)
    have hcf := hc0 _ hs
    by_cases hdb : n < 2 * (S.length + 1)
    · have d1 : decide ((n : Int) < 2 * ((S.length : Int) + 1)) = true := decide_eq_true (by omega)
      go_upto_region 4 with (fail)
      obtain ⟨N, hNN⟩ : ∃ N, N = n * 2 := ⟨_, rfl⟩
      have hPN : Pow N := by rw [hNN]; exact HOK.out.pow.twice hdb hsz
      have hNI : (n : Int) * 2 = (N : Nat) := by omega
      rw [hNI]
      have hN1 : n ≤ N := by omega
      have hN2 : N ≤ 262144 := hPN.pos.2
      have hN3 : 4 * (S.length + 0 + 1) ≤ 3 * N := by omega
      clear hcf hc0 hc1 d0 d1 hNI hNN hdb hbig
      have hc2 := Rd.ht2 _ hs
      go_upto_region 6 with (first
        | (at_make; refine wpl_make (n := N) Try.underlying136 info5 rfl rfl rfl (by omega) (by simp only [maxLen]; omega) hs ?_; clear hs hc2; intro G w hs; rw [made5] at hs)
        | (refine wpl_store_agg (v := .agg (htC [] 0 (some ⟨G, 0, none⟩) N N)) rfl rfl (sizeH _ _ _) hs.rot WrA.ht3 ?_; clear hs; intro w hs))
      have hsl := Rd.ht2 _ hs
      go_upto_region 7 with (fail)
      clear hsl
      go_loopw [49] (fun cv wr => ∃ (k : Nat) (Sk : List Nat) (gk : Nat → V3) (lk : List HS), k ≤ n ∧ cv = .int .i64 (k : Nat) ∧ Hid (GrI l g k Sk gk) ∧ Hid (HtOk N lk Sk gk 0) ∧ St w0 (blk D (htC Sk 0 (some ⟨G, 0, none⟩) N N) 140 :: own (some ⟨G, 0, none⟩) N N 172 5 (cs5 lk) :: own (some ⟨gA, 0, none⟩) n cap 172 5 (cs5 l) :: L) wr) (fun cv _ => n - (intOf cv).toNat)
      case atStart => exact ⟨0, [], g, List.replicate N .e, Nat.zero_le _, rfl, GrI.start l g g, HtOk.fresh hPN g, hs⟩
      case round =>
        clear hs
        obtain ⟨k, Sk, gk, lk, hkn, rfl, HG, HK, hs⟩ := hrel
        by_cases hlt : k < n
        · have d3 : decide ((k : Int) < (n : Int)) = true := decide_eq_true (by omega)
          obtain ⟨s, hsd⟩ : ∃ s, l[k]? = some s := ⟨_, List.getElem?_eq_getElem (by rw [← HN.out]; exact hlt)⟩
          have hrv := fun j u hu => ((Rd.row5 (w0 := w0) (g := gA) (n := n) (cap := cap) (t := 172) (L := L) hsd j u hu).tail (p := own (some ⟨G, 0, none⟩) N N 172 5 (cs5 lk))).tail (p := blk D (htC Sk 0 (some ⟨G, 0, none⟩) N N) 140)
          cases s with
          | e =>
            have HG2 := Lib.hid (HG.out.skip hsd rfl)
            clear hsd HG
            go_upto_region 9 with (first
              | (refine wpl_load_agg (cs := c5 (HS.e)) (b := gA) (o := k * 5) rfl agg5 (size5n (HS.e)) hs hrv ?_; clear hrv)
              | (refine wpl_alloc zero5 hs ?_; clear hs; intro g5 w1 hs)
              | (refine wpl_store_agg (v := val5 (HS.e)) rfl rfl (size5 _) hs WrA.slot5 ?_; clear hs; intro wv hs))
            have k0 : wv.cell? ⟨g5, 0, none⟩ = some (.int .i64 (HS.kn (HS.e))) := Rd.blk (g := g5) (k := 0) (cs := (c5 (HS.e)).toArray) (t := 172) rfl _ hs
            have k1 : wv.cell? ⟨g5, 1, none⟩ = some (.int .i64 (HS.ix (HS.e))) := Rd.blk (g := g5) (k := 1) (cs := (c5 (HS.e)).toArray) (t := 172) rfl _ hs
            simp only [HS.kn, HS.ix] at k0 k1
            go_wp2
            refine ⟨⟨k + 1, Sk, gk, lk, by omega, by go_num, HG2, HK, hs.drop⟩, ?_⟩
            simp only [intOf]
            omega
          | t =>
            have HG2 := Lib.hid (HG.out.skip hsd rfl)
            clear hsd HG
            go_upto_region 9 with (first
              | (refine wpl_load_agg (cs := c5 (HS.t)) (b := gA) (o := k * 5) rfl agg5 (size5n (HS.t)) hs hrv ?_; clear hrv)
              | (refine wpl_alloc zero5 hs ?_; clear hs; intro g5 w1 hs)
              | (refine wpl_store_agg (v := val5 (HS.t)) rfl rfl (size5 _) hs WrA.slot5 ?_; clear hs; intro wv hs))
            have k0 : wv.cell? ⟨g5, 0, none⟩ = some (.int .i64 (HS.kn (HS.t))) := Rd.blk (g := g5) (k := 0) (cs := (c5 (HS.t)).toArray) (t := 172) rfl _ hs
            have k1 : wv.cell? ⟨g5, 1, none⟩ = some (.int .i64 (HS.ix (HS.t))) := Rd.blk (g := g5) (k := 1) (cs := (c5 (HS.t)).toArray) (t := 172) rfl _ hs
            simp only [HS.kn, HS.ix] at k0 k1
            go_wp2
            refine ⟨⟨k + 1, Sk, gk, lk, by omega, by go_num, HG2, HK, hs.drop⟩, ?_⟩
            simp only [intOf]
            omega
          | f j v =>
            have hfr := HG.out.fresh HOK.out hsd
            have HG2 := Lib.hid (HG.out.put HOK.out hsd)
            have hj6 := HOK.out.small j (HOK.out.full k j v hsd).1
            have hrmk : Sk.length + 0 < N := by have := HG.out.len; omega
            clear hsd HG
            go_upto_region 9 with (first
              | (refine wpl_load_agg (cs := c5 (HS.f j v)) (b := gA) (o := k * 5) rfl agg5 (size5n (HS.f j v)) hs hrv ?_; clear hrv)
              | (refine wpl_alloc zero5 hs ?_; clear hs; intro g5 w1 hs)
              | (refine wpl_store_agg (v := val5 (HS.f j v)) rfl rfl (size5 _) hs WrA.slot5 ?_; clear hs; intro wv hs))
            have k0 : wv.cell? ⟨g5, 0, none⟩ = some (.int .i64 (HS.kn (HS.f j v))) := Rd.blk (g := g5) (k := 0) (cs := (c5 (HS.f j v)).toArray) (t := 172) rfl _ hs
            have k1 : wv.cell? ⟨g5, 1, none⟩ = some (.int .i64 (HS.ix (HS.f j v))) := Rd.blk (g := g5) (k := 1) (cs := (c5 (HS.f j v)).toArray) (t := 172) rfl _ hs
            simp only [HS.kn, HS.ix] at k0 k1
            go_wp2_with (first
              | (refine wpl_load_agg (cs := c3 v) (b := g5) (o := 2) rfl agg3 (size3 v) hs (fun q x hx => Rd.blk (rd5 hx)) ?_)
              | (go_at_call 100; refine (ht_put_raw hs.drop HK.out hrmk hj6 hfr v).mono ?_; clear hs k0 k1; rintro e w ⟨l', left', rfl, hok', hle, hs⟩))
            obtain rfl : left' = 0 := by omega
            refine ⟨⟨k + 1, (insS j Sk), (pG gk (j : Nat) v), l', by omega, by go_num, HG2, hok', hs⟩, ?_⟩
            simp only [intOf]
            omega
        · have d3 : decide ((k : Int) < (n : Int)) = false := decide_eq_false (by omega)
          go_wp2
          go_end0
          have hkl : k = l.length := by rw [← HN.out]; omega
          have hgd := HG.out
          rw [hkl] at hgd
          have hfin := hgd.done HOK.out HK.out
          have hSS : Sk = S := sorted_ext HK.out.sorted HOK.out.sorted fun j => by
            rw [hgd.mem]
            constructor
            · rintro ⟨p, v, _, h2⟩
              exact (HOK.out.full p j v h2).1
            · intro hj
              obtain ⟨p, hp⟩ := HOK.out.has j hj
              exact ⟨p, g j, (List.getElem?_eq_some_iff.1 hp).1, hp⟩
          have hNl := hfin.len
          subst hSS
          have hs2 := (hs.ent (M := own (some ⟨gA, 0, none⟩) n cap 172 5 (cs5 l) :: blk D (htC Sk 0 (some ⟨G, 0, none⟩) N N) 140 :: own (some ⟨G, 0, none⟩) N N 172 5 (cs5 lk) :: L) (by (repeat first | exact Ent.refl _ | refine Ent.step (by first | exact Ent.refl _ | exact Ent.skip (Ent.refl _) | exact Ent.skip (Ent.skip (Ent.refl _)) | exact Ent.skip (Ent.skip (Ent.skip (Ent.refl _))) | exact Ent.skip (Ent.skip (Ent.skip (Ent.skip (Ent.refl _)))) | exact Ent.skip (Ent.skip (Ent.skip (Ent.skip (Ent.skip (Ent.refl _))))) | exact Ent.skip (Ent.skip (Ent.skip (Ent.skip (Ent.skip (Ent.skip (Ent.refl _)))))) | exact Ent.skip (Ent.skip (Ent.skip (Ent.skip (Ent.skip (Ent.skip (Ent.skip (Ent.refl _))))))) | exact Ent.skip (Ent.skip (Ent.skip (Ent.skip (Ent.skip (Ent.skip (Ent.skip (Ent.skip (Ent.refl _)))))))) | exact Ent.skip (Ent.skip (Ent.skip (Ent.skip (Ent.skip (Ent.skip (Ent.skip (Ent.skip (Ent.skip (Ent.refl _)))))))))) ?_))).drop
          clear hs
          rw [← hNl] at hs2 hfin hN3
          exact ⟨lk, 0, _, _, rfl, hfin, hN3, hs2⟩
    · have d1 : decide ((n : Int) < 2 * ((S.length : Int) + 1)) = false := decide_eq_false (by omega)
      have hPN : Pow n := HOK.out.pow
      have hN1 : n ≤ n := Nat.le_refl _
      have hN2 : n ≤ 262144 := hPN.pos.2
      have hN3 : 4 * (S.length + 0 + 1) ≤ 3 * n := by omega
      go_upto_region 4 with (fail)
      clear hcf hc0 hc1 d0 d1 hdb hbig
      have hc2 := Rd.ht2 _ hs
      go_upto_region 6 with (first
        | (at_make; refine wpl_make (n := n) Try.underlying136 info5 rfl rfl rfl (by omega) (by simp only [maxLen]; omega) hs ?_; clear hs hc2; intro G w hs; rw [made5] at hs)
        | (refine wpl_store_agg (v := .agg (htC [] 0 (some ⟨G, 0, none⟩) n n)) rfl rfl (sizeH _ _ _) hs.rot WrA.ht3 ?_; clear hs; intro w hs))
      have hsl := Rd.ht2 _ hs
      go_upto_region 7 with (fail)
      clear hsl
      go_loopw [49] (fun cv wr => ∃ (k : Nat) (Sk : List Nat) (gk : Nat → V3) (lk : List HS), k ≤ n ∧ cv = .int .i64 (k : Nat) ∧ Hid (GrI l g k Sk gk) ∧ Hid (HtOk n lk Sk gk 0) ∧ St w0 (blk D (htC Sk 0 (some ⟨G, 0, none⟩) n n) 140 :: own (some ⟨G, 0, none⟩) n n 172 5 (cs5 lk) :: own (some ⟨gA, 0, none⟩) n cap 172 5 (cs5 l) :: L) wr) (fun cv _ => n - (intOf cv).toNat)
      case atStart => exact ⟨0, [], g, List.replicate n .e, Nat.zero_le _, rfl, GrI.start l g g, HtOk.fresh hPN g, hs⟩
      case round =>
        clear hs
        obtain ⟨k, Sk, gk, lk, hkn, rfl, HG, HK, hs⟩ := hrel
        by_cases hlt : k < n
        · have d3 : decide ((k : Int) < (n : Int)) = true := decide_eq_true (by omega)
          obtain ⟨s, hsd⟩ : ∃ s, l[k]? = some s := ⟨_, List.getElem?_eq_getElem (by rw [← HN.out]; exact hlt)⟩
          have hrv := fun j u hu => ((Rd.row5 (w0 := w0) (g := gA) (n := n) (cap := cap) (t := 172) (L := L) hsd j u hu).tail (p := own (some ⟨G, 0, none⟩) n n 172 5 (cs5 lk))).tail (p := blk D (htC Sk 0 (some ⟨G, 0, none⟩) n n) 140)
          cases s with
          | e =>
            have HG2 := Lib.hid (HG.out.skip hsd rfl)
            clear hsd HG
            go_upto_region 9 with (first
              | (refine wpl_load_agg (cs := c5 (HS.e)) (b := gA) (o := k * 5) rfl agg5 (size5n (HS.e)) hs hrv ?_; clear hrv)
              | (refine wpl_alloc zero5 hs ?_; clear hs; intro g5 w1 hs)
              | (refine wpl_store_agg (v := val5 (HS.e)) rfl rfl (size5 _) hs WrA.slot5 ?_; clear hs; intro wv hs))
            have k0 : wv.cell? ⟨g5, 0, none⟩ = some (.int .i64 (HS.kn (HS.e))) := Rd.blk (g := g5) (k := 0) (cs := (c5 (HS.e)).toArray) (t := 172) rfl _ hs
            have k1 : wv.cell? ⟨g5, 1, none⟩ = some (.int .i64 (HS.ix (HS.e))) := Rd.blk (g := g5) (k := 1) (cs := (c5 (HS.e)).toArray) (t := 172) rfl _ hs
            simp only [HS.kn, HS.ix] at k0 k1
            go_wp2
            refine ⟨⟨k + 1, Sk, gk, lk, by omega, by go_num, HG2, HK, hs.drop⟩, ?_⟩
            simp only [intOf]
            omega
          | t =>
            have HG2 := Lib.hid (HG.out.skip hsd rfl)
            clear hsd HG
            go_upto_region 9 with (first
              | (refine wpl_load_agg (cs := c5 (HS.t)) (b := gA) (o := k * 5) rfl agg5 (size5n (HS.t)) hs hrv ?_; clear hrv)
              | (refine wpl_alloc zero5 hs ?_; clear hs; intro g5 w1 hs)
              | (refine wpl_store_agg (v := val5 (HS.t)) rfl rfl (size5 _) hs WrA.slot5 ?_; clear hs; intro wv hs))
            have k0 : wv.cell? ⟨g5, 0, none⟩ = some (.int .i64 (HS.kn (HS.t))) := Rd.blk (g := g5) (k := 0) (cs := (c5 (HS.t)).toArray) (t := 172) rfl _ hs
            have k1 : wv.cell? ⟨g5, 1, none⟩ = some (.int .i64 (HS.ix (HS.t))) := Rd.blk (g := g5) (k := 1) (cs := (c5 (HS.t)).toArray) (t := 172) rfl _ hs
            simp only [HS.kn, HS.ix] at k0 k1
            go_wp2
            refine ⟨⟨k + 1, Sk, gk, lk, by omega, by go_num, HG2, HK, hs.drop⟩, ?_⟩
            simp only [intOf]
            omega
          | f j v =>
            have hfr := HG.out.fresh HOK.out hsd
            have HG2 := Lib.hid (HG.out.put HOK.out hsd)
            have hj6 := HOK.out.small j (HOK.out.full k j v hsd).1
            have hrmk : Sk.length + 0 < n := by have := HG.out.len; omega
            clear hsd HG
            go_upto_region 9 with (first
              | (refine wpl_load_agg (cs := c5 (HS.f j v)) (b := gA) (o := k * 5) rfl agg5 (size5n (HS.f j v)) hs hrv ?_; clear hrv)
              | (refine wpl_alloc zero5 hs ?_; clear hs; intro g5 w1 hs)
              | (refine wpl_store_agg (v := val5 (HS.f j v)) rfl rfl (size5 _) hs WrA.slot5 ?_; clear hs; intro wv hs))
            have k0 : wv.cell? ⟨g5, 0, none⟩ = some (.int .i64 (HS.kn (HS.f j v))) := Rd.blk (g := g5) (k := 0) (cs := (c5 (HS.f j v)).toArray) (t := 172) rfl _ hs
            have k1 : wv.cell? ⟨g5, 1, none⟩ = some (.int .i64 (HS.ix (HS.f j v))) := Rd.blk (g := g5) (k := 1) (cs := (c5 (HS.f j v)).toArray) (t := 172) rfl _ hs
            simp only [HS.kn, HS.ix] at k0 k1
            go_wp2_with (first
              | (refine wpl_load_agg (cs := c3 v) (b := g5) (o := 2) rfl agg3 (size3 v) hs (fun q x hx => Rd.blk (rd5 hx)) ?_)
              | (go_at_call 100; refine (ht_put_raw hs.drop HK.out hrmk hj6 hfr v).mono ?_; clear hs k0 k1; rintro e w ⟨l', left', rfl, hok', hle, hs⟩))
            obtain rfl : left' = 0 := by omega
            refine ⟨⟨k + 1, (insS j Sk), (pG gk (j : Nat) v), l', by omega, by go_num, HG2, hok', hs⟩, ?_⟩
            simp only [intOf]
            omega
        · have d3 : decide ((k : Int) < (n : Int)) = false := decide_eq_false (by omega)
          go_wp2
          go_end0
          have hkl : k = l.length := by rw [← HN.out]; omega
          have hgd := HG.out
          rw [hkl] at hgd
          have hfin := hgd.done HOK.out HK.out
          have hSS : Sk = S := sorted_ext HK.out.sorted HOK.out.sorted fun j => by
            rw [hgd.mem]
            constructor
            · rintro ⟨p, v, _, h2⟩
              exact (HOK.out.full p j v h2).1
            · intro hj
              obtain ⟨p, hp⟩ := HOK.out.has j hj
              exact ⟨p, g j, (List.getElem?_eq_some_iff.1 hp).1, hp⟩
          have hNl := hfin.len
          subst hSS
          have hs2 := (hs.ent (M := own (some ⟨gA, 0, none⟩) n cap 172 5 (cs5 l) :: blk D (htC Sk 0 (some ⟨G, 0, none⟩) n n) 140 :: own (some ⟨G, 0, none⟩) n n 172 5 (cs5 lk) :: L) (by (repeat first | exact Ent.refl _ | refine Ent.step (by first | exact Ent.refl _ | exact Ent.skip (Ent.refl _) | exact Ent.skip (Ent.skip (Ent.refl _)) | exact Ent.skip (Ent.skip (Ent.skip (Ent.refl _))) | exact Ent.skip (Ent.skip (Ent.skip (Ent.skip (Ent.refl _)))) | exact Ent.skip (Ent.skip (Ent.skip (Ent.skip (Ent.skip (Ent.refl _))))) | exact Ent.skip (Ent.skip (Ent.skip (Ent.skip (Ent.skip (Ent.skip (Ent.refl _)))))) | exact Ent.skip (Ent.skip (Ent.skip (Ent.skip (Ent.skip (Ent.skip (Ent.skip (Ent.refl _))))))) | exact Ent.skip (Ent.skip (Ent.skip (Ent.skip (Ent.skip (Ent.skip (Ent.skip (Ent.skip (Ent.refl _)))))))) | exact Ent.skip (Ent.skip (Ent.skip (Ent.skip (Ent.skip (Ent.skip (Ent.skip (Ent.skip (Ent.skip (Ent.refl _)))))))))) ?_))).drop
          clear hs
          rw [← hNl] at hs2 hfin hN3
          exact ⟨lk, 0, _, _, rfl, hfin, hN3, hs2⟩
end Go.Proofs.Ytmdjpeblbnbjmaa
