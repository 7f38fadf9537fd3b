/-
  The contracts of values side by side (dense): Take.
-/
import Derived.Test.YtmdjpeblbnbjmaaDn3
set_option maxRecDepth 100000
namespace Go.Proofs.Ytmdjpeblbnbjmaa
open Go Go.RowKit
attribute [local irreducible] wpList Calls Code.wp okI okN pS tS memS getG pG insS delS updI

theorem dn_take_no {w0 w : World} {L : List As} {D : Nat} {S : List Nat} {g : Nat → V3} (hs : St w0 (DnB D S g :: L) w) {i : Int} (hi : (Lit.int .i64 i).wf = true) (hm : memS S i = false) :
    Calls Try.prog 89 #[.pointer (some ⟨D, 0, none⟩), .int .i64 i] w fun e w' => e = .returned (.tuple #[val3 V3.z, .bool false]) ∧ St w0 (DnB D S g :: L) w' := by
  obtain ⟨l, f, A, cap, M, hok, hs⟩ := hs.dnopen
  have HF : f i = none := by
    have := hok.isSome i
    rw [hm] at this
    cases hf : f i with
    | none => rfl
    | some k => rw [hf] at this; cases this
  have HFh := Lib.hid HF
  have HOK := Lib.hid hok
  clear hm HF hok
  go_enter Try.func89, Try.ntmps89
  go_upto_region 1 with (first
    | (refine wpl_alloc zero3 hs ?_; clear hs; intro g4 w hs))
  replace hs : St w0 (blk D (dnC A l.length cap M) 132 :: own A l.length cap 167 4 (cs4 l) :: mpI M f l.length :: blk g4 (c3 V3.z).toArray 40 :: L) w := hs.ent (by (repeat first | exact Ent.refl _ | refine Ent.step (by first | exact Ent.refl _ | exact Ent.skip (Ent.refl _) | exact Ent.skip (Ent.skip (Ent.refl _)) | exact Ent.skip (Ent.skip (Ent.skip (Ent.refl _))) | exact Ent.skip (Ent.skip (Ent.skip (Ent.skip (Ent.refl _)))) | exact Ent.skip (Ent.skip (Ent.skip (Ent.skip (Ent.skip (Ent.refl _))))) | exact Ent.skip (Ent.skip (Ent.skip (Ent.skip (Ent.skip (Ent.skip (Ent.refl _)))))) | exact Ent.skip (Ent.skip (Ent.skip (Ent.skip (Ent.skip (Ent.skip (Ent.skip (Ent.refl _))))))) | exact Ent.skip (Ent.skip (Ent.skip (Ent.skip (Ent.skip (Ent.skip (Ent.skip (Ent.skip (Ent.refl _)))))))) | exact Ent.skip (Ent.skip (Ent.skip (Ent.skip (Ent.skip (Ent.skip (Ent.skip (Ent.skip (Ent.skip (Ent.refl _)))))))))) ?_))
  have hc1 := Rd.dn1 w hs
  go_wp2_with (first
    | (refine wpl_lookup_ok mapII rfl rfl hi (hs.ent (Ent.skip (Ent.skip (Ent.refl _)))) ?_; rw [HFh.out])
    | (refine wpl_store_agg (v := val3 V3.z) rfl rfl (size3 _) (hs.ent (Ent.skip (Ent.skip (Ent.skip (Ent.refl _))))) WrA.slot3 ?_; clear hs; intro w hs))
  refine bodyPost_at (results_cell_tmp Try.results89 rfl (hs.slot_run agg3 (size3 _))) rfl ?_
  exact ⟨rfl, (hs.drop).dnshut HOK.out⟩
set_option maxHeartbeats 1000000 in
theorem dn_take_in {w0 w : World} {L : List As} {D : Nat} {S : List Nat} {g : Nat → V3} (hs : St w0 (DnB D S g :: L) w) {i : Nat} (hi : i ∈ S) :
    Calls Try.prog 89 #[.pointer (some ⟨D, 0, none⟩), .int .i64 (i : Nat)] w fun e w' => e = .returned (.tuple #[val3 (g i), .bool true]) ∧ St w0 (DnB D (delS i S) g :: L) w' := by
  obtain ⟨l, f, A, cap, M, hok, hs⟩ := hs.dnopen
  have hi6 := hok.small i hi
  have hcap := hok.cap
  obtain ⟨p, hf, hpl, hrow⟩ := hok.find hi
  obtain ⟨n, hn⟩ : ∃ n, l.length = n + 1 := ⟨l.length - 1, by omega⟩
  obtain ⟨q, hq⟩ : ∃ q, l[n]? = some q := ⟨_, List.getElem?_eq_getElem (by omega)⟩
  have HOK := Lib.hid (hok.take hi hf (by rw [hn]; exact hq))
  obtain ⟨hq1, jq, hq2, hq3, hq4⟩ := hok.row n q hq
  clear hq4
  have hjq := hok.small jq hq3
  have hwf := wf_nat (i := i) (by omega)
  have hwp := wf_nat (i := p) (by omega)
  have hwq : (Lit.int .i64 q.1).wf = true := by rw [hq2]; exact wf_nat (by omega)
  have HFh := Lib.hid hf
  have HQ1 := Lib.hid hq1
  have HQ := Lib.hid hq
  have HN := Lib.hid hn
  -- what the map's size is behind both
  have HS2 : Hid ((updI f q.1 (some ((p : Nat) : Int)) ((i : Nat) : Int)).isSome = true) := by
    rw [Hid]
    by_cases e : ((i : Nat) : Int) = q.1
    · rw [e, updI_same]; rfl
    · rw [updI_other e, hf]; rfl
  generalize hu : g i = u at hrow ⊢
  rw [hn] at hs
  have hmx : n + 1 < maxLen := by simp only [maxLen]; omega
  obtain ⟨gA, rfl⟩ := (hs.ent (Ent.swap _ _ _)).own_at (by omega)
  have hro := hs.ent (Ent.swap _ _ _)
  have hcapn := hro.own_len.2.1
  have hrD0 := fun L => Rd.dn0 (w0 := w0) (D := D) (n := n + 1) (cap := cap) (A := some ⟨gA, 0, none⟩) (M := M) (t := 132) (L := L)
  have hrD1 := fun L => Rd.dn1 (w0 := w0) (D := D) (n := n + 1) (cap := cap) (A := some ⟨gA, 0, none⟩) (M := M) (t := 132) (L := L)
  have hpn : p < n + 1 := by omega
  have hlen : l.length = n + 1 := hn
  clear hf hok hi hq hn hro hu hq1 hq2
  go_enter Try.func89, Try.ntmps89
  go_upto_region 1 with (first
    | (refine wpl_alloc zero3 hs ?_; clear hs; intro g4 w hs))
  replace hs : St w0 (blk D (dnC (some ⟨gA, 0, none⟩) (n + 1) cap M) 132 :: own (some ⟨gA, 0, none⟩) (n + 1) cap 167 4 (cs4 l) :: mpI M f (n + 1) :: blk g4 (c3 V3.z).toArray 40 :: L) w := hs.ent (by (repeat first | exact Ent.refl _ | refine Ent.step (by first | exact Ent.refl _ | exact Ent.skip (Ent.refl _) | exact Ent.skip (Ent.skip (Ent.refl _)) | exact Ent.skip (Ent.skip (Ent.skip (Ent.refl _))) | exact Ent.skip (Ent.skip (Ent.skip (Ent.skip (Ent.refl _)))) | exact Ent.skip (Ent.skip (Ent.skip (Ent.skip (Ent.skip (Ent.refl _))))) | exact Ent.skip (Ent.skip (Ent.skip (Ent.skip (Ent.skip (Ent.skip (Ent.refl _)))))) | exact Ent.skip (Ent.skip (Ent.skip (Ent.skip (Ent.skip (Ent.skip (Ent.skip (Ent.refl _))))))) | exact Ent.skip (Ent.skip (Ent.skip (Ent.skip (Ent.skip (Ent.skip (Ent.skip (Ent.skip (Ent.refl _)))))))) | exact Ent.skip (Ent.skip (Ent.skip (Ent.skip (Ent.skip (Ent.skip (Ent.skip (Ent.skip (Ent.skip (Ent.refl _)))))))))) ?_))
  have hc1 := hrD1 _ w hs
  go_upto_region 4 with (first
    | (refine wpl_lookup_ok mapII rfl rfl hwf (hs.ent (Ent.skip (Ent.skip (Ent.refl _)))) ?_; rw [HFh.out]))
  clear hc1
  have hcu := fun k x hx => ((Rd.row4v (w0 := w0) (g := gA) (n := n + 1) (cap := cap) (t := 167) (L := []) hrow k x hx).tail (p := blk D (dnC (some ⟨gA, 0, none⟩) (n + 1) cap M) 132)).alln
  have hcq := fun k x hx => ((Rd.row4 (w0 := w0) (g := gA) (n := n + 1) (cap := cap) (t := 167) (L := []) HQ.out k x hx).tail (p := blk D (dnC (some ⟨gA, 0, none⟩) (n + 1) cap M) 132)).alln
  refine wp_all_plain (n := 4) [false, false, false, false, false, false, false, false, false, false, false, false, false, false, false, false, false, false, false, false, false, false, false, true, true, true, true] hs.only2 (by kernel_rfl) (by kernel_rfl) (by kernel_rfl) fun hne => ?_
  have hc0 := (hrD0 [own (some ⟨gA, 0, none⟩) (n + 1) cap 167 4 (cs4 l)]).alln
  have hu0 := hcu 0 _ rfl
  have hu1 := hcu 1 _ rfl
  have hu2 := hcu 2 _ rfl
  have hq0 := hcq 0 _ rfl
  have hq1 := hcq 1 _ rfl
  have hq2 := hcq 2 _ rfl
  have hq3 := hcq 3 _ rfl
  simp only [Nat.add_zero] at hu0 hq0
  clear hcu hcq
  simp only [pickOps]
  repeat (go_big_quiet_step (fail))
  refine wpQuiet_nil ?_
  clear hne hc0 hu0 hu1 hu2 hq0 hq1 hq2 hq3
  replace hs := hs.drew
  refine wpAllP_next [23, 24] (by kernel_rfl) (fun c hc => ?_)
  simp only [List.mem_cons, List.not_mem_nil, or_false] at hc
  rcases hc with rfl | rfl
  · skip
    refine ⟨_, rfl, ?_⟩
    refine wpl_alloc zero3 hs ?_
    clear hs
    intro g8 w hs
    replace hs : St w0 (blk g8 (c3 V3.z).toArray 40 :: _) w := hs
    first | refine wpList_nil ⟨rfl, hs.drop.only2, ?_⟩ | refine wpList_nil ⟨rfl, hs.drop.drop.only2, ?_⟩
    refine wpAllP_next [24] (by kernel_rfl) (fun c hc => ?_)
    simp only [List.mem_singleton] at hc
    subst hc
    refine ⟨_, rfl, ?_⟩
    refine wpl_alloc zero4D hs ?_
    clear hs
    intro g9 w hs
    replace hs : St w0 (blk g9 (c4 (0, V3.z)).toArray 167 :: _) w := hs
    first | refine wpList_nil ⟨rfl, hs.drop.only2, ?_⟩ | refine wpList_nil ⟨rfl, hs.drop.drop.only2, ?_⟩
    refine wpAllP_next [25] (by kernel_rfl) (fun c hc => ?_)
    simp only [List.mem_singleton] at hc
    subst hc
    refine ⟨_, rfl, ?_⟩
    refine wpl_store_agg (v := val3 u) rfl rfl (size3 _) hs.rot WrA.slot3 ?_
    clear hs
    intro w hs
    first | refine wpList_nil ⟨rfl, hs.drop.only2, ?_⟩ | refine wpList_nil ⟨rfl, hs.drop.drop.only2, ?_⟩
    refine wpAll_last [26] (by kernel_rfl) (fun c hc => ?_)
    simp only [List.mem_singleton] at hc
    subst hc
    refine ⟨_, rfl, ?_⟩
    refine wpl_store_agg (v := .agg (c4 q).toArray) rfl rfl (size4D q) hs.rot WrA.slot4 ?_
    clear hs
    intro w hs
    refine wpList_nil ⟨rfl, ?_⟩
    have hs2 : St w0 (blk g9 (c4 q).toArray 167 :: blk g8 (c3 u).toArray 40 :: blk D (dnC (some ⟨gA, 0, none⟩) (n + 1) cap M) 132 :: own (some ⟨gA, 0, none⟩) (n + 1) cap 167 4 (cs4 l) :: mpI M f (n + 1) :: blk g4 (c3 V3.z).toArray 40 :: L) w := hs
    clear hs
    simp only [Act.put, List.setIfInBounds_toArray, List.set_cons_succ, List.set_cons_zero]
    have hs : St w0 (blk D (dnC (some ⟨gA, 0, none⟩) (n + 1) cap M) 132 :: blk g9 (c4 q).toArray 167 :: own (some ⟨gA, 0, none⟩) (n + 1) cap 167 4 (cs4 l) :: mpI M f (n + 1) :: blk g8 (c3 u).toArray 40 :: blk g4 (c3 V3.z).toArray 40 :: L) w := hs2.ent (by (repeat first | exact Ent.refl _ | refine Ent.step (by first | exact Ent.refl _ | exact Ent.skip (Ent.refl _) | exact Ent.skip (Ent.skip (Ent.refl _)) | exact Ent.skip (Ent.skip (Ent.skip (Ent.refl _))) | exact Ent.skip (Ent.skip (Ent.skip (Ent.skip (Ent.refl _)))) | exact Ent.skip (Ent.skip (Ent.skip (Ent.skip (Ent.skip (Ent.refl _))))) | exact Ent.skip (Ent.skip (Ent.skip (Ent.skip (Ent.skip (Ent.skip (Ent.refl _)))))) | exact Ent.skip (Ent.skip (Ent.skip (Ent.skip (Ent.skip (Ent.skip (Ent.skip (Ent.refl _))))))) | exact Ent.skip (Ent.skip (Ent.skip (Ent.skip (Ent.skip (Ent.skip (Ent.skip (Ent.skip (Ent.refl _)))))))) | exact Ent.skip (Ent.skip (Ent.skip (Ent.skip (Ent.skip (Ent.skip (Ent.skip (Ent.skip (Ent.skip (Ent.refl _)))))))))) ?_))
    clear hs2
    have hr9 := fun k x (hx : (c4 q)[k]? = some x) => ((Rd.blk (w0 := w0) (g := g9) (k := k) (cs := (c4 q).toArray) (v := x) (t := 167) (L := []) (by simpa using hx)).tail (p := blk D (dnC (some ⟨gA, 0, none⟩) (n + 1) cap M) 132)).alln
    go_upto_region 5 with (fail)
    refine wp_region_plain [false, false, false, false, false, false, false, false, true] hs.only2 (by kernel_rfl) (by kernel_rfl) fun hne => ?_
    have hc0 := (hrD0 [blk g9 (c4 q).toArray 167]).alln
    have q0 := hr9 0 _ rfl
    have q1 := hr9 1 _ rfl
    have q2 := hr9 2 _ rfl
    have q3 := hr9 3 _ rfl
    simp only [pickOps]
    repeat (go_big_quiet_step (fail))
    refine wpQuiet_nil ?_
    clear hne hc0 q0 q1 q2 q3
    simp only [chainIx]
    refine wpChain_last rfl ?_
    refine wpl_store_agg (v := .agg (c4 q).toArray) rfl rfl (size4D q) (hs.ent (M := own (some ⟨gA, 0, none⟩) (n + 1) cap 167 4 (cs4 l) :: blk D (dnC (some ⟨gA, 0, none⟩) (n + 1) cap M) 132 :: blk g9 (c4 q).toArray 167 :: mpI M f (n + 1) :: blk g8 (c3 u).toArray 40 :: blk g4 (c3 V3.z).toArray 40 :: L) (by (repeat first | exact Ent.refl _ | refine Ent.step (by first | exact Ent.refl _ | exact Ent.skip (Ent.refl _) | exact Ent.skip (Ent.skip (Ent.refl _)) | exact Ent.skip (Ent.skip (Ent.skip (Ent.refl _))) | exact Ent.skip (Ent.skip (Ent.skip (Ent.skip (Ent.refl _)))) | exact Ent.skip (Ent.skip (Ent.skip (Ent.skip (Ent.skip (Ent.refl _))))) | exact Ent.skip (Ent.skip (Ent.skip (Ent.skip (Ent.skip (Ent.skip (Ent.refl _)))))) | exact Ent.skip (Ent.skip (Ent.skip (Ent.skip (Ent.skip (Ent.skip (Ent.skip (Ent.refl _))))))) | exact Ent.skip (Ent.skip (Ent.skip (Ent.skip (Ent.skip (Ent.skip (Ent.skip (Ent.skip (Ent.refl _)))))))) | exact Ent.skip (Ent.skip (Ent.skip (Ent.skip (Ent.skip (Ent.skip (Ent.skip (Ent.skip (Ent.skip (Ent.refl _)))))))))) ?_))).drew (WrA.own (o := p * 4) (vs := c4 q) (by rw [cs4_len, c4_len]; omega) (c4_one q)) ?_
    clear hs
    intro w hs
    rw [cs4_set q (by omega)] at hs
    refine wpList_nil ⟨rfl, ?_⟩
    replace hs : St w0 (blk D (dnC (some ⟨gA, 0, none⟩) (n + 1) cap M) 132 :: blk g9 (c4 q).toArray 167 :: mpI M f (n + 1) :: own (some ⟨gA, 0, none⟩) (n + 1) cap 167 4 (cs4 (l.set p q)) :: blk g8 (c3 u).toArray 40 :: blk g4 (c3 V3.z).toArray 40 :: L) w := hs.ent (by (repeat first | exact Ent.refl _ | refine Ent.step (by first | exact Ent.refl _ | exact Ent.skip (Ent.refl _) | exact Ent.skip (Ent.skip (Ent.refl _)) | exact Ent.skip (Ent.skip (Ent.skip (Ent.refl _))) | exact Ent.skip (Ent.skip (Ent.skip (Ent.skip (Ent.refl _)))) | exact Ent.skip (Ent.skip (Ent.skip (Ent.skip (Ent.skip (Ent.refl _))))) | exact Ent.skip (Ent.skip (Ent.skip (Ent.skip (Ent.skip (Ent.skip (Ent.refl _)))))) | exact Ent.skip (Ent.skip (Ent.skip (Ent.skip (Ent.skip (Ent.skip (Ent.skip (Ent.refl _))))))) | exact Ent.skip (Ent.skip (Ent.skip (Ent.skip (Ent.skip (Ent.skip (Ent.skip (Ent.skip (Ent.refl _)))))))) | exact Ent.skip (Ent.skip (Ent.skip (Ent.skip (Ent.skip (Ent.skip (Ent.skip (Ent.skip (Ent.skip (Ent.refl _)))))))))) ?_))
    go_upto_region 6 with (fail)
    refine wp_region_plain [false, false, false, false, false, false, false, false, true] hs.only2 (by kernel_rfl) (by kernel_rfl) fun hne => ?_
    have hc1 := (hrD1 [blk g9 (c4 q).toArray 167]).alln
    have q0 := hr9 0 _ rfl
    simp only [pickOps]
    repeat (go_big_quiet_step (fail))
    refine wpQuiet_nil ?_
    clear hne hc1 q0
    simp only [chainIx]
    refine wpChain_last rfl ?_
    refine wpl_mapUpdate mapII rfl rfl hwq rfl hwp hmx (hs.ent (M := mpI M f (n + 1) :: blk D (dnC (some ⟨gA, 0, none⟩) (n + 1) cap M) 132 :: blk g9 (c4 q).toArray 167 :: own (some ⟨gA, 0, none⟩) (n + 1) cap 167 4 (cs4 (l.set p q)) :: blk g8 (c3 u).toArray 40 :: blk g4 (c3 V3.z).toArray 40 :: L) (by (repeat first | exact Ent.refl _ | refine Ent.step (by first | exact Ent.refl _ | exact Ent.skip (Ent.refl _) | exact Ent.skip (Ent.skip (Ent.refl _)) | exact Ent.skip (Ent.skip (Ent.skip (Ent.refl _))) | exact Ent.skip (Ent.skip (Ent.skip (Ent.skip (Ent.refl _)))) | exact Ent.skip (Ent.skip (Ent.skip (Ent.skip (Ent.skip (Ent.refl _))))) | exact Ent.skip (Ent.skip (Ent.skip (Ent.skip (Ent.skip (Ent.skip (Ent.refl _)))))) | exact Ent.skip (Ent.skip (Ent.skip (Ent.skip (Ent.skip (Ent.skip (Ent.skip (Ent.refl _))))))) | exact Ent.skip (Ent.skip (Ent.skip (Ent.skip (Ent.skip (Ent.skip (Ent.skip (Ent.skip (Ent.refl _)))))))) | exact Ent.skip (Ent.skip (Ent.skip (Ent.skip (Ent.skip (Ent.skip (Ent.skip (Ent.skip (Ent.skip (Ent.refl _)))))))))) ?_))).drew ?_
    clear hs
    intro w hs
    rw [HQ1.out] at hs
    simp only [Option.isSome_some, if_true] at hs
    refine wpList_nil ⟨rfl, ?_⟩
    replace hs := hs.rot
    have hc1 := hrD1 _ w hs
    simp only [Act.put]
    go_upto_region 8 with (first
      | (refine wpl_mapDelete mapII rfl rfl hwf hs.rot ?_; clear hs hc1; intro w hs))
    rw [HS2.out] at hs
    simp only [if_true, Nat.add_sub_cancel] at hs
    replace hs := hs.rot
    simp only [Act.put]
    refine wp_region_plain [false, false, false, false, false, false, false, false, false, false, false, false, false, false, false, false, false, true] hs.only (by kernel_rfl) (by kernel_rfl) fun hne => ?_
    have hc0 := (hrD0 []).alln
    simp only [pickOps]
    repeat (go_big_quiet_step (fail))
    refine wpQuiet_nil ?_
    clear hne hc0
    simp only [chainIx]
    refine wpChain_last rfl ?_
    refine wpl_store rfl rfl rfl size_rowsD hs.drew Wr.dn0 ?_
    clear hs
    intro w hs
    refine wpList_nil ⟨rfl, ?_⟩
    replace hs : St w0 (blk D (dnC (some ⟨gA, 0, none⟩) n cap M) 132 :: own (some ⟨gA, 0, none⟩) (n + 1) cap 167 4 (cs4 (l.set p q)) :: mpI M (updI (updI f q.1 (some ((p : Nat) : Int))) i none) n :: blk g8 (c3 u).toArray 40 :: blk g4 (c3 V3.z).toArray 40 :: blk g9 (c4 q).toArray 167 :: L) w := hs.ent (by (repeat first | exact Ent.refl _ | refine Ent.step (by first | exact Ent.refl _ | exact Ent.skip (Ent.refl _) | exact Ent.skip (Ent.skip (Ent.refl _)) | exact Ent.skip (Ent.skip (Ent.skip (Ent.refl _))) | exact Ent.skip (Ent.skip (Ent.skip (Ent.skip (Ent.refl _)))) | exact Ent.skip (Ent.skip (Ent.skip (Ent.skip (Ent.skip (Ent.refl _))))) | exact Ent.skip (Ent.skip (Ent.skip (Ent.skip (Ent.skip (Ent.skip (Ent.refl _)))))) | exact Ent.skip (Ent.skip (Ent.skip (Ent.skip (Ent.skip (Ent.skip (Ent.skip (Ent.refl _))))))) | exact Ent.skip (Ent.skip (Ent.skip (Ent.skip (Ent.skip (Ent.skip (Ent.skip (Ent.skip (Ent.refl _)))))))) | exact Ent.skip (Ent.skip (Ent.skip (Ent.skip (Ent.skip (Ent.skip (Ent.skip (Ent.skip (Ent.skip (Ent.refl _)))))))))) ?_))
    go_wp2_with (first
      | (refine wpl_load3 (v := u) rfl ?hh agg3 size3n hs ?_; case hh => exact has3_tail (has3_tail (has3_tail has3_slot)))
      | (refine wpl_store_agg (v := val3 u) rfl rfl (size3 _) (hs.ent (M := blk g4 (c3 V3.z).toArray 40 :: blk D (dnC (some ⟨gA, 0, none⟩) n cap M) 132 :: own (some ⟨gA, 0, none⟩) (n + 1) cap 167 4 (cs4 (l.set p q)) :: mpI M (updI (updI f q.1 (some ((p : Nat) : Int))) i none) n :: blk g8 (c3 u).toArray 40 :: blk g9 (c4 q).toArray 167 :: L) (by (repeat first | exact Ent.refl _ | refine Ent.step (by first | exact Ent.refl _ | exact Ent.skip (Ent.refl _) | exact Ent.skip (Ent.skip (Ent.refl _)) | exact Ent.skip (Ent.skip (Ent.skip (Ent.refl _))) | exact Ent.skip (Ent.skip (Ent.skip (Ent.skip (Ent.refl _)))) | exact Ent.skip (Ent.skip (Ent.skip (Ent.skip (Ent.skip (Ent.refl _))))) | exact Ent.skip (Ent.skip (Ent.skip (Ent.skip (Ent.skip (Ent.skip (Ent.refl _)))))) | exact Ent.skip (Ent.skip (Ent.skip (Ent.skip (Ent.skip (Ent.skip (Ent.skip (Ent.refl _))))))) | exact Ent.skip (Ent.skip (Ent.skip (Ent.skip (Ent.skip (Ent.skip (Ent.skip (Ent.skip (Ent.refl _)))))))) | exact Ent.skip (Ent.skip (Ent.skip (Ent.skip (Ent.skip (Ent.skip (Ent.skip (Ent.skip (Ent.skip (Ent.refl _)))))))))) ?_))) WrA.slot3 ?_; clear hs; intro w hs))
    refine bodyPost_at (results_cell_tmp Try.results89 rfl (hs.slot_run agg3 (size3 _))) rfl ?_
    refine ⟨rfl, ?_⟩
    have hs2 := (hs.drop.rot).conv (own_cut (m := n) (Nat.le_succ n))
    rw [cs4_take] at hs2
    have e : n = ((l.set p q).take n).length := by simp; omega
    have HOK2 := HOK.out
    rw [hlen, Nat.add_sub_cancel] at HOK2
    generalize (l.set p q).take n = l' at hs2 e HOK2 ⊢
    subst e
    exact (((hs2.rot).dnshut HOK2).rot.drop).rot.drop
  · skip
    refine ⟨_, rfl, ?_⟩
    refine wpl_alloc zero4D hs ?_
    clear hs
    intro g9 w hs
    replace hs : St w0 (blk g9 (c4 (0, V3.z)).toArray 167 :: _) w := hs
    first | refine wpList_nil ⟨rfl, hs.drop.only2, ?_⟩ | refine wpList_nil ⟨rfl, hs.drop.drop.only2, ?_⟩
    refine wpAllP_next [23] (by kernel_rfl) (fun c hc => ?_)
    simp only [List.mem_singleton] at hc
    subst hc
    refine ⟨_, rfl, ?_⟩
    refine wpl_alloc zero3 hs ?_
    clear hs
    intro g8 w hs
    replace hs : St w0 (blk g8 (c3 V3.z).toArray 40 :: _) w := hs
    first | refine wpList_nil ⟨rfl, hs.drop.only2, ?_⟩ | refine wpList_nil ⟨rfl, hs.drop.drop.only2, ?_⟩
    replace hs := hs.rot
    refine wpAllP_next [25] (by kernel_rfl) (fun c hc => ?_)
    simp only [List.mem_singleton] at hc
    subst hc
    refine ⟨_, rfl, ?_⟩
    refine wpl_store_agg (v := val3 u) rfl rfl (size3 _) hs.rot WrA.slot3 ?_
    clear hs
    intro w hs
    first | refine wpList_nil ⟨rfl, hs.drop.only2, ?_⟩ | refine wpList_nil ⟨rfl, hs.drop.drop.only2, ?_⟩
    refine wpAll_last [26] (by kernel_rfl) (fun c hc => ?_)
    simp only [List.mem_singleton] at hc
    subst hc
    refine ⟨_, rfl, ?_⟩
    refine wpl_store_agg (v := .agg (c4 q).toArray) rfl rfl (size4D q) hs.rot WrA.slot4 ?_
    clear hs
    intro w hs
    refine wpList_nil ⟨rfl, ?_⟩
    have hs2 : St w0 (blk g9 (c4 q).toArray 167 :: blk g8 (c3 u).toArray 40 :: blk D (dnC (some ⟨gA, 0, none⟩) (n + 1) cap M) 132 :: own (some ⟨gA, 0, none⟩) (n + 1) cap 167 4 (cs4 l) :: mpI M f (n + 1) :: blk g4 (c3 V3.z).toArray 40 :: L) w := hs
    clear hs
    simp only [Act.put, List.setIfInBounds_toArray, List.set_cons_succ, List.set_cons_zero]
    have hs : St w0 (blk D (dnC (some ⟨gA, 0, none⟩) (n + 1) cap M) 132 :: blk g9 (c4 q).toArray 167 :: own (some ⟨gA, 0, none⟩) (n + 1) cap 167 4 (cs4 l) :: mpI M f (n + 1) :: blk g8 (c3 u).toArray 40 :: blk g4 (c3 V3.z).toArray 40 :: L) w := hs2.ent (by (repeat first | exact Ent.refl _ | refine Ent.step (by first | exact Ent.refl _ | exact Ent.skip (Ent.refl _) | exact Ent.skip (Ent.skip (Ent.refl _)) | exact Ent.skip (Ent.skip (Ent.skip (Ent.refl _))) | exact Ent.skip (Ent.skip (Ent.skip (Ent.skip (Ent.refl _)))) | exact Ent.skip (Ent.skip (Ent.skip (Ent.skip (Ent.skip (Ent.refl _))))) | exact Ent.skip (Ent.skip (Ent.skip (Ent.skip (Ent.skip (Ent.skip (Ent.refl _)))))) | exact Ent.skip (Ent.skip (Ent.skip (Ent.skip (Ent.skip (Ent.skip (Ent.skip (Ent.refl _))))))) | exact Ent.skip (Ent.skip (Ent.skip (Ent.skip (Ent.skip (Ent.skip (Ent.skip (Ent.skip (Ent.refl _)))))))) | exact Ent.skip (Ent.skip (Ent.skip (Ent.skip (Ent.skip (Ent.skip (Ent.skip (Ent.skip (Ent.skip (Ent.refl _)))))))))) ?_))
    clear hs2
    have hr9 := fun k x (hx : (c4 q)[k]? = some x) => ((Rd.blk (w0 := w0) (g := g9) (k := k) (cs := (c4 q).toArray) (v := x) (t := 167) (L := []) (by simpa using hx)).tail (p := blk D (dnC (some ⟨gA, 0, none⟩) (n + 1) cap M) 132)).alln
    go_upto_region 5 with (fail)
    refine wp_region_plain [false, false, false, false, false, false, false, false, true] hs.only2 (by kernel_rfl) (by kernel_rfl) fun hne => ?_
    have hc0 := (hrD0 [blk g9 (c4 q).toArray 167]).alln
    have q0 := hr9 0 _ rfl
    have q1 := hr9 1 _ rfl
    have q2 := hr9 2 _ rfl
    have q3 := hr9 3 _ rfl
    simp only [pickOps]
    repeat (go_big_quiet_step (fail))
    refine wpQuiet_nil ?_
    clear hne hc0 q0 q1 q2 q3
    simp only [chainIx]
    refine wpChain_last rfl ?_
    refine wpl_store_agg (v := .agg (c4 q).toArray) rfl rfl (size4D q) (hs.ent (M := own (some ⟨gA, 0, none⟩) (n + 1) cap 167 4 (cs4 l) :: blk D (dnC (some ⟨gA, 0, none⟩) (n + 1) cap M) 132 :: blk g9 (c4 q).toArray 167 :: mpI M f (n + 1) :: blk g8 (c3 u).toArray 40 :: blk g4 (c3 V3.z).toArray 40 :: L) (by (repeat first | exact Ent.refl _ | refine Ent.step (by first | exact Ent.refl _ | exact Ent.skip (Ent.refl _) | exact Ent.skip (Ent.skip (Ent.refl _)) | exact Ent.skip (Ent.skip (Ent.skip (Ent.refl _))) | exact Ent.skip (Ent.skip (Ent.skip (Ent.skip (Ent.refl _)))) | exact Ent.skip (Ent.skip (Ent.skip (Ent.skip (Ent.skip (Ent.refl _))))) | exact Ent.skip (Ent.skip (Ent.skip (Ent.skip (Ent.skip (Ent.skip (Ent.refl _)))))) | exact Ent.skip (Ent.skip (Ent.skip (Ent.skip (Ent.skip (Ent.skip (Ent.skip (Ent.refl _))))))) | exact Ent.skip (Ent.skip (Ent.skip (Ent.skip (Ent.skip (Ent.skip (Ent.skip (Ent.skip (Ent.refl _)))))))) | exact Ent.skip (Ent.skip (Ent.skip (Ent.skip (Ent.skip (Ent.skip (Ent.skip (Ent.skip (Ent.skip (Ent.refl _)))))))))) ?_))).drew (WrA.own (o := p * 4) (vs := c4 q) (by rw [cs4_len, c4_len]; omega) (c4_one q)) ?_
    clear hs
    intro w hs
    rw [cs4_set q (by omega)] at hs
    refine wpList_nil ⟨rfl, ?_⟩
    replace hs : St w0 (blk D (dnC (some ⟨gA, 0, none⟩) (n + 1) cap M) 132 :: blk g9 (c4 q).toArray 167 :: mpI M f (n + 1) :: own (some ⟨gA, 0, none⟩) (n + 1) cap 167 4 (cs4 (l.set p q)) :: blk g8 (c3 u).toArray 40 :: blk g4 (c3 V3.z).toArray 40 :: L) w := hs.ent (by (repeat first | exact Ent.refl _ | refine Ent.step (by first | exact Ent.refl _ | exact Ent.skip (Ent.refl _) | exact Ent.skip (Ent.skip (Ent.refl _)) | exact Ent.skip (Ent.skip (Ent.skip (Ent.refl _))) | exact Ent.skip (Ent.skip (Ent.skip (Ent.skip (Ent.refl _)))) | exact Ent.skip (Ent.skip (Ent.skip (Ent.skip (Ent.skip (Ent.refl _))))) | exact Ent.skip (Ent.skip (Ent.skip (Ent.skip (Ent.skip (Ent.skip (Ent.refl _)))))) | exact Ent.skip (Ent.skip (Ent.skip (Ent.skip (Ent.skip (Ent.skip (Ent.skip (Ent.refl _))))))) | exact Ent.skip (Ent.skip (Ent.skip (Ent.skip (Ent.skip (Ent.skip (Ent.skip (Ent.skip (Ent.refl _)))))))) | exact Ent.skip (Ent.skip (Ent.skip (Ent.skip (Ent.skip (Ent.skip (Ent.skip (Ent.skip (Ent.skip (Ent.refl _)))))))))) ?_))
    go_upto_region 6 with (fail)
    refine wp_region_plain [false, false, false, false, false, false, false, false, true] hs.only2 (by kernel_rfl) (by kernel_rfl) fun hne => ?_
    have hc1 := (hrD1 [blk g9 (c4 q).toArray 167]).alln
    have q0 := hr9 0 _ rfl
    simp only [pickOps]
    repeat (go_big_quiet_step (fail))
    refine wpQuiet_nil ?_
    clear hne hc1 q0
    simp only [chainIx]
    refine wpChain_last rfl ?_
    refine wpl_mapUpdate mapII rfl rfl hwq rfl hwp hmx (hs.ent (M := mpI M f (n + 1) :: blk D (dnC (some ⟨gA, 0, none⟩) (n + 1) cap M) 132 :: blk g9 (c4 q).toArray 167 :: own (some ⟨gA, 0, none⟩) (n + 1) cap 167 4 (cs4 (l.set p q)) :: blk g8 (c3 u).toArray 40 :: blk g4 (c3 V3.z).toArray 40 :: L) (by (repeat first | exact Ent.refl _ | refine Ent.step (by first | exact Ent.refl _ | exact Ent.skip (Ent.refl _) | exact Ent.skip (Ent.skip (Ent.refl _)) | exact Ent.skip (Ent.skip (Ent.skip (Ent.refl _))) | exact Ent.skip (Ent.skip (Ent.skip (Ent.skip (Ent.refl _)))) | exact Ent.skip (Ent.skip (Ent.skip (Ent.skip (Ent.skip (Ent.refl _))))) | exact Ent.skip (Ent.skip (Ent.skip (Ent.skip (Ent.skip (Ent.skip (Ent.refl _)))))) | exact Ent.skip (Ent.skip (Ent.skip (Ent.skip (Ent.skip (Ent.skip (Ent.skip (Ent.refl _))))))) | exact Ent.skip (Ent.skip (Ent.skip (Ent.skip (Ent.skip (Ent.skip (Ent.skip (Ent.skip (Ent.refl _)))))))) | exact Ent.skip (Ent.skip (Ent.skip (Ent.skip (Ent.skip (Ent.skip (Ent.skip (Ent.skip (Ent.skip (Ent.refl _)))))))))) ?_))).drew ?_
    clear hs
    intro w hs
    rw [HQ1.out] at hs
    simp only [Option.isSome_some, if_true] at hs
    refine wpList_nil ⟨rfl, ?_⟩
    replace hs := hs.rot
    have hc1 := hrD1 _ w hs
    simp only [Act.put]
    go_upto_region 8 with (first
      | (refine wpl_mapDelete mapII rfl rfl hwf hs.rot ?_; clear hs hc1; intro w hs))
    rw [HS2.out] at hs
    simp only [if_true, Nat.add_sub_cancel] at hs
    replace hs := hs.rot
    simp only [Act.put]
    refine wp_region_plain [false, false, false, false, false, false, false, false, false, false, false, false, false, false, false, false, false, true] hs.only (by kernel_rfl) (by kernel_rfl) fun hne => ?_
    have hc0 := (hrD0 []).alln
    simp only [pickOps]
    repeat (go_big_quiet_step (fail))
    refine wpQuiet_nil ?_
    clear hne hc0
    simp only [chainIx]
    refine wpChain_last rfl ?_
    refine wpl_store rfl rfl rfl size_rowsD hs.drew Wr.dn0 ?_
    clear hs
    intro w hs
    refine wpList_nil ⟨rfl, ?_⟩
    replace hs : St w0 (blk D (dnC (some ⟨gA, 0, none⟩) n cap M) 132 :: own (some ⟨gA, 0, none⟩) (n + 1) cap 167 4 (cs4 (l.set p q)) :: mpI M (updI (updI f q.1 (some ((p : Nat) : Int))) i none) n :: blk g8 (c3 u).toArray 40 :: blk g4 (c3 V3.z).toArray 40 :: blk g9 (c4 q).toArray 167 :: L) w := hs.ent (by (repeat first | exact Ent.refl _ | refine Ent.step (by first | exact Ent.refl _ | exact Ent.skip (Ent.refl _) | exact Ent.skip (Ent.skip (Ent.refl _)) | exact Ent.skip (Ent.skip (Ent.skip (Ent.refl _))) | exact Ent.skip (Ent.skip (Ent.skip (Ent.skip (Ent.refl _)))) | exact Ent.skip (Ent.skip (Ent.skip (Ent.skip (Ent.skip (Ent.refl _))))) | exact Ent.skip (Ent.skip (Ent.skip (Ent.skip (Ent.skip (Ent.skip (Ent.refl _)))))) | exact Ent.skip (Ent.skip (Ent.skip (Ent.skip (Ent.skip (Ent.skip (Ent.skip (Ent.refl _))))))) | exact Ent.skip (Ent.skip (Ent.skip (Ent.skip (Ent.skip (Ent.skip (Ent.skip (Ent.skip (Ent.refl _)))))))) | exact Ent.skip (Ent.skip (Ent.skip (Ent.skip (Ent.skip (Ent.skip (Ent.skip (Ent.skip (Ent.skip (Ent.refl _)))))))))) ?_))
    go_wp2_with (first
      | (refine wpl_load3 (v := u) rfl ?hh agg3 size3n hs ?_; case hh => exact has3_tail (has3_tail (has3_tail has3_slot)))
      | (refine wpl_store_agg (v := val3 u) rfl rfl (size3 _) (hs.ent (M := blk g4 (c3 V3.z).toArray 40 :: blk D (dnC (some ⟨gA, 0, none⟩) n cap M) 132 :: own (some ⟨gA, 0, none⟩) (n + 1) cap 167 4 (cs4 (l.set p q)) :: mpI M (updI (updI f q.1 (some ((p : Nat) : Int))) i none) n :: blk g8 (c3 u).toArray 40 :: blk g9 (c4 q).toArray 167 :: L) (by (repeat first | exact Ent.refl _ | refine Ent.step (by first | exact Ent.refl _ | exact Ent.skip (Ent.refl _) | exact Ent.skip (Ent.skip (Ent.refl _)) | exact Ent.skip (Ent.skip (Ent.skip (Ent.refl _))) | exact Ent.skip (Ent.skip (Ent.skip (Ent.skip (Ent.refl _)))) | exact Ent.skip (Ent.skip (Ent.skip (Ent.skip (Ent.skip (Ent.refl _))))) | exact Ent.skip (Ent.skip (Ent.skip (Ent.skip (Ent.skip (Ent.skip (Ent.refl _)))))) | exact Ent.skip (Ent.skip (Ent.skip (Ent.skip (Ent.skip (Ent.skip (Ent.skip (Ent.refl _))))))) | exact Ent.skip (Ent.skip (Ent.skip (Ent.skip (Ent.skip (Ent.skip (Ent.skip (Ent.skip (Ent.refl _)))))))) | exact Ent.skip (Ent.skip (Ent.skip (Ent.skip (Ent.skip (Ent.skip (Ent.skip (Ent.skip (Ent.skip (Ent.refl _)))))))))) ?_))) WrA.slot3 ?_; clear hs; intro w hs))
    refine bodyPost_at (results_cell_tmp Try.results89 rfl (hs.slot_run agg3 (size3 _))) rfl ?_
    refine ⟨rfl, ?_⟩
    have hs2 := (hs.drop.rot).conv (own_cut (m := n) (Nat.le_succ n))
    rw [cs4_take] at hs2
    have e : n = ((l.set p q).take n).length := by simp; omega
    have HOK2 := HOK.out
    rw [hlen, Nat.add_sub_cancel] at HOK2
    generalize (l.set p q).take n = l' at hs2 e HOK2 ⊢
    subst e
    exact (((hs2.rot).dnshut HOK2).rot.drop).rot.drop
/-- Take, of any index. -/
theorem dn_take {w0 w : World} {L : List As} {D : Nat} {S : List Nat} {g : Nat → V3} (hs : St w0 (DnB D S g :: L) w) (i : Int) (hi : (Lit.int .i64 i).wf = true) :
    Calls Try.prog 89 #[.pointer (some ⟨D, 0, none⟩), .int .i64 i] w fun e w' => e = .returned (.tuple #[val3 (getG S g i), .bool (memS S i)]) ∧ St w0 (DnB D (tS S i) g :: L) w' := by
  cases hm : memS S i with
  | false =>
    rw [getG_out hm, show tS S i = S by unfold tS; rw [hm]; rfl]
    exact dn_take_no hs hi hm
  | true =>
    obtain ⟨j, rfl, hj⟩ := memS_in hm
    rw [getG_in hj, show tS S (j : Nat) = delS j S by unfold tS; rw [hm]; rfl]
    exact dn_take_in hs hj
end Go.Proofs.Ytmdjpeblbnbjmaa
