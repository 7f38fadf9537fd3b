/-
  Variants turned (twin.Turn), 2.
-/
import Derived.Test.YtcnbmfaicbkhcaaGreatDoorTw
import Derived.Test.YtcnbmfaicbkhcaaGreatDoorOpsB
import Derived.Deep.CutRange
import Derived.Test.YtcnbmfaicbkhcaaGreatDoorJL
set_option maxRecDepth 100000
namespace Go.Proofs.YtcnbmfaicbkhcaaGreatDoor
open Go Go.RowKit
attribute [local irreducible] wpList Calls Code.wp
theorem size_slD : (Tryz.prog.info? 24).map (·.size) = some 1 := by kernel_rfl
theorem size_slI : (Tryz.prog.info? 25).map (·.size) = some 1 := by kernel_rfl
theorem size_in9 : (Tryz.prog.info? 3).map (·.size) = some 1 := by kernel_rfl
theorem turnK_next {ds : List V3} {l : List Int} {k : Nat} {d : V3} {n : Int} (hd : ds[k]? = some d) (hn : l[k]? = some n) : turnK ds l (k + 1) = (turnK ds l k).set k ⟨d.k, turnV d.k n, d.b⟩ := by
  show (match ds[k]?, l[k]? with
    | some d, some n => (turnK ds l k).set k ⟨d.k, turnV d.k n, d.b⟩
    | _, _ => turnK ds l k) = _
  rw [hd, hn]
theorem turnK_zero (ds : List V3) (l : List Int) : turnK ds l 0 = ds := rfl
attribute [local irreducible] turnK turnV
set_option maxHeartbeats 8000000 in
theorem turn_c {w0 w : World} {L : List As} (hs : St w0 L w) {n top : Int} {A : Option Addr} {m cA : Nat} {ds : List V3} (hA : A = none → m = 0 ∧ cA = 0) (hm : Hid (ds.length = m)) (hmb : m ≤ 1000000) (hr : RdS w0 L A (cs3 ds)) {B : Option Addr} {k2 cB : Nat} {rs : List Int} (hB : B = none → k2 = 0 ∧ cB = 0) (hk : Hid (rs.length = k2)) (hkb : k2 ≤ 1000000) (hrs : RdS w0 L B (i8v rs))
    {C : Option Addr} {q cC : Nat} {zs : List Int} (hq : Hid (zs.length = q)) (hqb : q ≤ 9223372036854775807) (hqc : q ≤ cC) (hz : RdS w0 L C (vI zs)) {ds' : List V3} (hd : Hid (turnK ds zs (min q m) = ds')) :
    Calls Tryz.prog 34 #[.agg (cfC n top A m cA B k2 cB).toArray, .slice C q cC] w fun r w' => ∃ A' cA' B' cB', r = .returned (.agg (cfC n top A' m cA' B' k2 cB').toArray) ∧ St w0 (own A' m cA' 120 3 (cs3 ds') :: own B' k2 cB' 2 1 (i8v rs) :: L) w' := by
  have HR := Lib.hid hr
  have HRS := Lib.hid hrs
  have HZ := Lib.hid hz
  have HDL : Hid ((cs3 ds).length = m * 3) := by rw [Hid, cs3_len, hm.out]
  have HRL : Hid ((i8v rs).length = k2 * 1) := by rw [Hid, i8v_len, hk.out]; omega
  obtain ⟨j, hj⟩ : ∃ j, min q m = j := ⟨_, rfl⟩
  rw [hj] at hd
  have hj1 : min (q : Int) (m : Int) = (j : Int) := by omega
  have hjq : j ≤ q := by omega
  have hjm : j ≤ m := by omega
  clear hr hrs hz hj
  go_enter Tryz.func34, Tryz.ntmps34
  go_upto_region 1 with (first
    | (refine wpl_box_v (v := .agg (cfC n top A m cA B k2 cB).toArray) rfl hs ?_; clear hs; intro g2 w hs; replace hs : St w0 (blk g2 (cfC n top A m cA B k2 cB).toArray 27 :: L) w := hs)
    | (refine wpl_alloc zeroCf hs ?_; clear hs; intro g4 w hs; replace hs : St w0 (blk g4 (cfC 0 0 none 0 0 none 0 0).toArray 27 :: blk g2 (cfC n top A m cA B k2 cB).toArray 27 :: L) w := hs))
  replace hs := hs.rot
  simp only [Act.put, List.setIfInBounds_toArray, List.set_cons_succ, List.set_cons_zero]
  go_cut [] from 8 to 15 (fun wx => ∃ A2 cA2 B2 cB2, St w0 (blk g2 (cfC n top A2 m cA2 B2 k2 cB2).toArray 27 :: own A2 m cA2 120 3 (cs3 ds) :: own B2 k2 cB2 2 1 (i8v rs) :: blk g4 (cfC 0 0 none 0 0 none 0 0).toArray 27 :: L) wx)
  case first =>
    refine wp_mix 6 [0, 3] [1, 2, 4, 5, 6, 7, 8, 9] (stN hs) (by kernel_rfl) (by kernel_rfl) fun hne => ?_
    simp only [opsAt, List.getElem?_toArray, List.getElem?_cons_succ, List.getElem?_cons_zero]
    repeat (go_big_quiet_step (fail))
    refine wpQuiet_nil ?_
    clear hne 
    replace hs := hs.drew
    refine wpMix_next [1, 4] (by kernel_rfl) (by simp) (fun c hc => ?_)
    simp only [List.mem_cons, List.not_mem_nil, or_false] at hc
    rcases hc with rfl | rfl
    · skip
      refine ⟨_, rfl, ?_⟩
      have a0 : World.cell? _ ⟨g2, 2, none⟩ = some (.slice A m cA) := Rd.blk (by rfl) _ hs
      go_wp2
      clear a0
      refine mix_quiet [] [2, 4, 5, 6, 7, 8, 9] (stN hs) (by kernel_rfl) (by kernel_rfl) fun hne => ?_
      simp only [opsAt]
      refine wpQuiet_nil ?_
      clear hne
      refine wpMix_next [2, 4] (by kernel_rfl) (by simp) (fun c hc => ?_)
      simp only [List.mem_cons, List.not_mem_nil, or_false] at hc
      rcases hc with rfl | rfl
      · skip
        refine ⟨_, rfl, ?_⟩
        go_wp2_with (first
          | (go_at_call 96; refine (clone_ds hA HDL (Lib.hid (cs3_ones ds)) (by omega) hs HR.out.tail.tail).mono ?_; clear hs; rintro r w ⟨A2, cA2, rfl, hs⟩))
        replace hs := hs.rot
        refine mix_quiet [] [4, 5, 6, 7, 8, 9] (stN hs) (by kernel_rfl) (by kernel_rfl) fun hne => ?_
        simp only [opsAt]
        refine wpQuiet_nil ?_
        clear hne
        refine wpMix_next [4] (by kernel_rfl) (by simp) (fun c hc => ?_)
        simp only [List.mem_singleton] at hc
        subst hc
        refine ⟨_, rfl, ?_⟩
        have a0 : World.cell? _ ⟨g2, 3, none⟩ = some (.slice B k2 cB) := Rd.blk (by rfl) _ hs
        go_wp2
        clear a0
        refine mix_quiet [6] [5, 7, 8, 9] (stN hs) (by kernel_rfl) (by kernel_rfl) fun hne => ?_
        simp only [opsAt, List.getElem?_toArray, List.getElem?_cons_succ, List.getElem?_cons_zero]
        repeat (go_big_quiet_step (fail))
        refine wpQuiet_nil ?_
        clear hne
        refine wpMix_next [5] (by kernel_rfl) (by simp) (fun c hc => ?_)
        simp only [List.mem_singleton] at hc
        subst hc
        refine ⟨_, rfl, ?_⟩
        go_wp2_with (first
          | (go_at_call 97; refine (clone_i8 hB HRL (Lib.hid (i8v_one rs)) (by omega) hs HRS.out.tail.tail.tail).mono ?_; clear hs; rintro r w ⟨B2, cB2, rfl, hs⟩))
        replace hs := hs.rot
        refine mix_quiet [] [7, 8, 9] (stN hs) (by kernel_rfl) (by kernel_rfl) fun hne => ?_
        simp only [opsAt]
        refine wpQuiet_nil ?_
        clear hne
        refine wpMix_next [7] (by kernel_rfl) (by simp) (fun c hc => ?_)
        simp only [List.mem_singleton] at hc
        subst hc
        refine ⟨_, rfl, ?_⟩
        refine wpl_store (v := .slice A2 m cA2) rfl rfl rfl size_slD hs (Wr.blk (by simp [cfC])) ?_
        clear hs; intro w hs; replace hs : St w0 (blk g2 (cfC n top A2 m cA2 B k2 cB).toArray 27 :: _) w := hs
        refine wpList_nil ⟨rfl, ?_⟩
        refine mix_quiet [8] [9] (stN hs) (by kernel_rfl) (by kernel_rfl) fun hne => ?_
        simp only [opsAt, List.getElem?_toArray, List.getElem?_cons_succ, List.getElem?_cons_zero]
        try simp only [Act.put, List.setIfInBounds_toArray, List.set_cons_succ, List.set_cons_zero]
        repeat (go_big_quiet_step (fail))
        refine wpQuiet_nil ?_
        clear hne
        refine wpMix_next [9] (by kernel_rfl) (by simp) (fun c hc => ?_)
        simp only [List.mem_singleton] at hc
        subst hc
        refine ⟨_, rfl, ?_⟩
        refine wpl_store (v := .slice B2 k2 cB2) rfl rfl rfl size_slI hs (Wr.blk (by simp [cfC])) ?_
        clear hs; intro w hs; replace hs : St w0 (blk g2 (cfC n top A2 m cA2 B2 k2 cB2).toArray 27 :: _) w := hs
        refine wpList_nil ⟨rfl, ?_⟩
        refine mix_quiet [] [] (stN hs) (by kernel_rfl) (by kernel_rfl) fun hne => ?_
        simp only [opsAt]
        refine wpQuiet_nil ?_
        clear hne
        refine wpMix_end ?_
        go_wp2
        go_meet
        exact ⟨A2, cA2, B2, cB2, hs.ent (Ent.cons _ (Ent.swap _ _ _))⟩
      · skip
        refine ⟨_, rfl, ?_⟩
        have a0 : World.cell? _ ⟨g2, 3, none⟩ = some (.slice B k2 cB) := Rd.blk (by rfl) _ hs
        go_wp2
        clear a0
        refine mix_quiet [] [2, 5, 6, 7, 8, 9] (stN hs) (by kernel_rfl) (by kernel_rfl) fun hne => ?_
        simp only [opsAt]
        refine wpQuiet_nil ?_
        clear hne
        refine wpMix_next [2] (by kernel_rfl) (by simp) (fun c hc => ?_)
        simp only [List.mem_singleton] at hc
        subst hc
        refine ⟨_, rfl, ?_⟩
        go_wp2_with (first
          | (go_at_call 96; refine (clone_ds hA HDL (Lib.hid (cs3_ones ds)) (by omega) hs HR.out.tail.tail).mono ?_; clear hs; rintro r w ⟨A2, cA2, rfl, hs⟩))
        replace hs := hs.rot
        refine mix_quiet [6] [5, 7, 8, 9] (stN hs) (by kernel_rfl) (by kernel_rfl) fun hne => ?_
        simp only [opsAt, List.getElem?_toArray, List.getElem?_cons_succ, List.getElem?_cons_zero]
        repeat (go_big_quiet_step (fail))
        refine wpQuiet_nil ?_
        clear hne
        refine wpMix_next [5] (by kernel_rfl) (by simp) (fun c hc => ?_)
        simp only [List.mem_singleton] at hc
        subst hc
        refine ⟨_, rfl, ?_⟩
        go_wp2_with (first
          | (go_at_call 97; refine (clone_i8 hB HRL (Lib.hid (i8v_one rs)) (by omega) hs HRS.out.tail.tail.tail).mono ?_; clear hs; rintro r w ⟨B2, cB2, rfl, hs⟩))
        replace hs := hs.rot
        refine mix_quiet [] [7, 8, 9] (stN hs) (by kernel_rfl) (by kernel_rfl) fun hne => ?_
        simp only [opsAt]
        refine wpQuiet_nil ?_
        clear hne
        refine wpMix_next [7] (by kernel_rfl) (by simp) (fun c hc => ?_)
        simp only [List.mem_singleton] at hc
        subst hc
        refine ⟨_, rfl, ?_⟩
        refine wpl_store (v := .slice A2 m cA2) rfl rfl rfl size_slD hs (Wr.blk (by simp [cfC])) ?_
        clear hs; intro w hs; replace hs : St w0 (blk g2 (cfC n top A2 m cA2 B k2 cB).toArray 27 :: _) w := hs
        refine wpList_nil ⟨rfl, ?_⟩
        refine mix_quiet [8] [9] (stN hs) (by kernel_rfl) (by kernel_rfl) fun hne => ?_
        simp only [opsAt, List.getElem?_toArray, List.getElem?_cons_succ, List.getElem?_cons_zero]
        try simp only [Act.put, List.setIfInBounds_toArray, List.set_cons_succ, List.set_cons_zero]
        repeat (go_big_quiet_step (fail))
        refine wpQuiet_nil ?_
        clear hne
        refine wpMix_next [9] (by kernel_rfl) (by simp) (fun c hc => ?_)
        simp only [List.mem_singleton] at hc
        subst hc
        refine ⟨_, rfl, ?_⟩
        refine wpl_store (v := .slice B2 k2 cB2) rfl rfl rfl size_slI hs (Wr.blk (by simp [cfC])) ?_
        clear hs; intro w hs; replace hs : St w0 (blk g2 (cfC n top A2 m cA2 B2 k2 cB2).toArray 27 :: _) w := hs
        refine wpList_nil ⟨rfl, ?_⟩
        refine mix_quiet [] [] (stN hs) (by kernel_rfl) (by kernel_rfl) fun hne => ?_
        simp only [opsAt]
        refine wpQuiet_nil ?_
        clear hne
        refine wpMix_end ?_
        go_wp2
        go_meet
        exact ⟨A2, cA2, B2, cB2, hs.ent (Ent.cons _ (Ent.swap _ _ _))⟩
    · skip
      refine ⟨_, rfl, ?_⟩
      have a0 : World.cell? _ ⟨g2, 3, none⟩ = some (.slice B k2 cB) := Rd.blk (by rfl) _ hs
      go_wp2
      clear a0
      refine mix_quiet [] [1, 2, 5, 6, 7, 8, 9] (stN hs) (by kernel_rfl) (by kernel_rfl) fun hne => ?_
      simp only [opsAt]
      refine wpQuiet_nil ?_
      clear hne
      refine wpMix_next [1] (by kernel_rfl) (by simp) (fun c hc => ?_)
      simp only [List.mem_singleton] at hc
      subst hc
      refine ⟨_, rfl, ?_⟩
      have a0 : World.cell? _ ⟨g2, 2, none⟩ = some (.slice A m cA) := Rd.blk (by rfl) _ hs
      go_wp2
      clear a0
      refine mix_quiet [] [2, 5, 6, 7, 8, 9] (stN hs) (by kernel_rfl) (by kernel_rfl) fun hne => ?_
      simp only [opsAt]
      refine wpQuiet_nil ?_
      clear hne
      refine wpMix_next [2] (by kernel_rfl) (by simp) (fun c hc => ?_)
      simp only [List.mem_singleton] at hc
      subst hc
      refine ⟨_, rfl, ?_⟩
      go_wp2_with (first
        | (go_at_call 96; refine (clone_ds hA HDL (Lib.hid (cs3_ones ds)) (by omega) hs HR.out.tail.tail).mono ?_; clear hs; rintro r w ⟨A2, cA2, rfl, hs⟩))
      replace hs := hs.rot
      refine mix_quiet [6] [5, 7, 8, 9] (stN hs) (by kernel_rfl) (by kernel_rfl) fun hne => ?_
      simp only [opsAt, List.getElem?_toArray, List.getElem?_cons_succ, List.getElem?_cons_zero]
      repeat (go_big_quiet_step (fail))
      refine wpQuiet_nil ?_
      clear hne
      refine wpMix_next [5] (by kernel_rfl) (by simp) (fun c hc => ?_)
      simp only [List.mem_singleton] at hc
      subst hc
      refine ⟨_, rfl, ?_⟩
      go_wp2_with (first
        | (go_at_call 97; refine (clone_i8 hB HRL (Lib.hid (i8v_one rs)) (by omega) hs HRS.out.tail.tail.tail).mono ?_; clear hs; rintro r w ⟨B2, cB2, rfl, hs⟩))
      replace hs := hs.rot
      refine mix_quiet [] [7, 8, 9] (stN hs) (by kernel_rfl) (by kernel_rfl) fun hne => ?_
      simp only [opsAt]
      refine wpQuiet_nil ?_
      clear hne
      refine wpMix_next [7] (by kernel_rfl) (by simp) (fun c hc => ?_)
      simp only [List.mem_singleton] at hc
      subst hc
      refine ⟨_, rfl, ?_⟩
      refine wpl_store (v := .slice A2 m cA2) rfl rfl rfl size_slD hs (Wr.blk (by simp [cfC])) ?_
      clear hs; intro w hs; replace hs : St w0 (blk g2 (cfC n top A2 m cA2 B k2 cB).toArray 27 :: _) w := hs
      refine wpList_nil ⟨rfl, ?_⟩
      refine mix_quiet [8] [9] (stN hs) (by kernel_rfl) (by kernel_rfl) fun hne => ?_
      simp only [opsAt, List.getElem?_toArray, List.getElem?_cons_succ, List.getElem?_cons_zero]
      try simp only [Act.put, List.setIfInBounds_toArray, List.set_cons_succ, List.set_cons_zero]
      repeat (go_big_quiet_step (fail))
      refine wpQuiet_nil ?_
      clear hne
      refine wpMix_next [9] (by kernel_rfl) (by simp) (fun c hc => ?_)
      simp only [List.mem_singleton] at hc
      subst hc
      refine ⟨_, rfl, ?_⟩
      refine wpl_store (v := .slice B2 k2 cB2) rfl rfl rfl size_slI hs (Wr.blk (by simp [cfC])) ?_
      clear hs; intro w hs; replace hs : St w0 (blk g2 (cfC n top A2 m cA2 B2 k2 cB2).toArray 27 :: _) w := hs
      refine wpList_nil ⟨rfl, ?_⟩
      refine mix_quiet [] [] (stN hs) (by kernel_rfl) (by kernel_rfl) fun hne => ?_
      simp only [opsAt]
      refine wpQuiet_nil ?_
      clear hne
      refine wpMix_end ?_
      go_wp2
      go_meet
      exact ⟨A2, cA2, B2, cB2, hs.ent (Ent.cons _ (Ent.swap _ _ _))⟩
  case rest =>
    clear hs
    obtain ⟨A2, cA2, B2, cB2, hs⟩ := hcut
    have c2 : World.cell? _ ⟨g2, 2, none⟩ = some (.slice A2 m cA2) := Rd.blk (by rfl) _ hs
    have hmx : m ≤ 9223372036854775807 := by omega
    have hqx : q ≤ 9223372036854775807 := by omega
    have hjx : (j : Int) ≤ (cC : Int) := by omega
    have hj0 : (0 : Int) ≤ (j : Int) := by omega
    go_wp2
    clear c2
    go_loopw [25] (fun cv wr => ∃ k : Nat, k ≤ j ∧ cv = .int .i64 (k : Nat) ∧ St w0 (blk g2 (cfC n top A2 m cA2 B2 k2 cB2).toArray 27 :: own A2 m cA2 120 3 (cs3 (turnK ds zs k)) :: own B2 k2 cB2 2 1 (i8v rs) :: blk g4 (cfC 0 0 none 0 0 none 0 0).toArray 27 :: L) wr) (fun cv _ => j - (intOf cv).toNat)
    case atStart => exact ⟨0, Nat.zero_le _, rfl, by rw [turnK_zero]; exact hs⟩
    case round =>
      clear hs
      obtain ⟨k, hkj, rfl, hs⟩ := hrel
      by_cases hlt : k < j
      · obtain ⟨v, hv⟩ : ∃ v, zs[k]? = some v := ⟨_, List.getElem?_eq_getElem (by rw [hq.out]; omega)⟩
        obtain ⟨d, hdk⟩ : ∃ d, ds[k]? = some d := ⟨_, List.getElem?_eq_getElem (by rw [hm.out]; omega)⟩
        have htk : (turnK ds zs k)[k]? = some d := by rw [turnK_at _ _ k k (Nat.le_refl _)]; exact hdk
        have HNX := Lib.hid (turnK_next hdk hv)
        have HTK := Lib.hid htk
        obtain ⟨gA, rfl⟩ := (hs.rot).own_at (by omega)
        have ck : World.cell? wr ⟨gA, k * 3, none⟩ = some (.int .i64 d.k) := Rd.own (cs3_get htk 0 _ rfl) _ hs.rot
        have cf : World.cell? wr ⟨g2, 2, none⟩ = some (.slice (some ⟨gA, 0, none⟩) m cA2) := Rd.blk (by rfl) _ hs
        have hvz : (vI zs)[k]? = some (.int .i64 v) := by unfold vI; rw [List.getElem?_map, hv]; rfl
        obtain ⟨gb, off, rfl, h1⟩ := HZ.out.tail.tail.tail.tail.get hvz
        have cz : World.cell? wr ⟨gb, off + k, none⟩ = some (.int .i64 v) := h1 _ hs
        have hkm : k < m := by omega
        have hkm2 : (k : Int) < (m : Int) := by omega
        clear h1 hvz htk hv hdk
        obtain ⟨k3, HK3⟩ : ∃ b, Hid ((d.k == 3) = b) := ⟨_, rfl⟩
        cases k3
        · have dk : (d.k == 3) = false := HK3.out
          have hk3 : ¬ d.k = 3 := by simpa using dk
          have HV0 : Hid (turnV d.k v = 1 + v % 3) := by rw [Hid]; unfold turnV; rw [if_neg hk3]
          obtain ⟨r1, r2, hr1, hr2, hb1, hb2, hb3, hb4, hb5⟩ := turn_rem 3 v (by simp)
          have HV : Hid (1 + r2 = turnV d.k v) := by rw [Hid, hb5, HV0.out]
          clear hb5 hk3 HV0
          go_upto_region 8 with (fail)
          have hsN := hs.only
          refine wp_region_plain [false, false, false, false, false, false, false, false, false, false, false, true, true, true] hsN (by kernel_rfl) (by kernel_rfl) fun hne => ?_
          have q0 := (Rd.blk (w0 := w0) (g := g2) (k := 2) (cs := (cfC n top (some ⟨gA, 0, none⟩) m cA2 B2 k2 cB2).toArray) (v := .slice (some ⟨gA, 0, none⟩) m cA2) (t := 27) (L := []) (by rfl)).alln
          simp only [pickOps]
          repeat (go_big_quiet_step (fail))
          refine wpQuiet_nil ?_
          clear hne q0 hsN cf ck cz
          simp only [chainIx]
          replace hs := hs.drew
          refine wpChainP_next rfl ?_
          go_wp2
          refine ⟨hs.only, ?_⟩
          refine wpChainP_next rfl ?_
          go_wp2
          refine ⟨hs.only, ?_⟩
          refine wpChain_last rfl ?_
          have HLL : Hid ((cs3 (turnK ds zs k)).length = m * 3) := by rw [Hid, cs3_len, turnK_len, hm.out]
          refine wpl_store (v := .int .i64 (1 + r2)) rfl rfl rfl size_in9 hs (Wr.tail (Wr.own (k := k * 3 + 1) (by rw [HLL.out]; omega))) ?_
          clear hs
          intro w hs
          rw [HV.out, cs3_set1 HTK.out, ← HNX.out] at hs
          refine wpList_nil ⟨rfl, ?_⟩
          go_wp2
          go_roundw
          case rel => exact ⟨k + 1, by omega, by simp, hs⟩
          case measure => simp [intOf]; omega
        · have dk : (d.k == 3) = true := HK3.out
          have hk3 : d.k = 3 := by simpa using dk
          have HV0 : Hid (turnV d.k v = 1 + v % 4) := by rw [Hid]; unfold turnV; rw [if_pos hk3]
          obtain ⟨r1, r2, hr1, hr2, hb1, hb2, hb3, hb4, hb5⟩ := turn_rem 4 v (by simp)
          have HV : Hid (1 + r2 = turnV d.k v) := by rw [Hid, hb5, HV0.out]
          clear hb5 hk3 HV0
          go_upto_region 8 with (fail)
          have hsN := hs.only
          refine wp_region_plain [false, false, false, false, false, false, false, false, false, false, false, true, true, true] hsN (by kernel_rfl) (by kernel_rfl) fun hne => ?_
          have q0 := (Rd.blk (w0 := w0) (g := g2) (k := 2) (cs := (cfC n top (some ⟨gA, 0, none⟩) m cA2 B2 k2 cB2).toArray) (v := .slice (some ⟨gA, 0, none⟩) m cA2) (t := 27) (L := []) (by rfl)).alln
          simp only [pickOps]
          repeat (go_big_quiet_step (fail))
          refine wpQuiet_nil ?_
          clear hne q0 hsN cf ck cz
          simp only [chainIx]
          replace hs := hs.drew
          refine wpChainP_next rfl ?_
          go_wp2
          refine ⟨hs.only, ?_⟩
          refine wpChainP_next rfl ?_
          go_wp2
          refine ⟨hs.only, ?_⟩
          refine wpChain_last rfl ?_
          have HLL : Hid ((cs3 (turnK ds zs k)).length = m * 3) := by rw [Hid, cs3_len, turnK_len, hm.out]
          refine wpl_store (v := .int .i64 (1 + r2)) rfl rfl rfl size_in9 hs (Wr.tail (Wr.own (k := k * 3 + 1) (by rw [HLL.out]; omega))) ?_
          clear hs
          intro w hs
          rw [HV.out, cs3_set1 HTK.out, ← HNX.out] at hs
          refine wpList_nil ⟨rfl, ?_⟩
          go_wp2
          go_roundw
          case rel => exact ⟨k + 1, by omega, by simp, hs⟩
          case measure => simp [intOf]; omega
      · obtain rfl : k = j := by omega
        rw [hd.out] at hs
        go_wp2_with (first
          | (refine wpl_load_agg (cs := cfC n top A2 m cA2 B2 k2 cB2) rfl aggCf (sizeCf _ _ _ _ _ _ _ _) hs (fun i u hu => by simpa using Rd.blk (k := i) (by simpa using hu)) ?_)
          | (refine wpl_store_agg (v := .agg (cfC n top A2 m cA2 B2 k2 cB2).toArray) rfl rfl (sizeCfv _ _ _ _ _ _ _ _) (hs.up3) WrA.slotCf ?_; clear hs; intro w5 hs))
        simp only [Act.put, List.setIfInBounds_toArray, List.set_cons_succ, List.set_cons_zero]
        refine bodyPost_at (results_cell1 Tryz.results34 rfl (hs.slot_run aggCf (sizeCf _ _ _ _ _ _ _ _))) rfl ?_
        exact ⟨A2, cA2, B2, cB2, rfl, hs.drop.drop⟩
end Go.Proofs.YtcnbmfaicbkhcaaGreatDoor
