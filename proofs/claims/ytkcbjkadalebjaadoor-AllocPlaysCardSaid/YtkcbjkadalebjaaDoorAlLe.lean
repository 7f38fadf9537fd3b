/-
  AllocLeast.
-/
import Derived.Test.YtkcbjkadalebjaaDoorAlLw
set_option maxRecDepth 100000
namespace Go.Proofs.YtkcbjkadalebjaaDoor
open Go Go.RowKit
attribute [local irreducible] wpList Calls Code.wp

/-- The least index of a state. -/
theorem idx_first {s i : Nat} {cs : List ACell} (hi : i < cs.length) (hs : stA cs i = s) (hm : ∀ j, j < i → stA cs j ≠ s) : ∃ l, idxS s cs = i :: l := by
  have hmem : i ∈ idxS s cs := mem_idxS.2 ⟨hi, hs⟩
  cases h : idxS s cs with
  | nil => rw [h] at hmem; cases hmem
  | cons a l =>
    have ha : a ∈ idxS s cs := by rw [h]; exact List.mem_cons_self
    have h1 := hm a
    have h2 := (mem_idxS.1 ha).2
    have h3 := sorted_idxS s cs
    rw [h] at h3 hmem
    rcases List.mem_cons.1 hmem with e | e
    · exact ⟨l, by rw [e]⟩
    · have := (List.pairwise_cons.1 h3).1 i e
      exact absurd h2 (h1 this)
theorem giveV_at {s i : Nat} {cs : List ACell} (hi : i < cs.length) (hs : stA cs i = 0) (hm : ∀ j, j < i → stA cs j ≠ 0) {g : Int} (hg : gnA cs i + 1 = g) : giveV s cs = (((i : Int), g), 0, cs.set i (s, g)) := by
  obtain ⟨l, hl⟩ := idx_first hi hs hm
  rw [giveV_some hl, hg]
theorem delA_live {top : Int} {cs : List ACell} {k : Nat} {g : Int} (hk : k < cs.length) (hs : stA cs k = 1) (hg : gnA cs k = g) : delA top cs ((k : Int), g) = (0, cs.set k (if top ≤ g then 9 else 0, g)) := by
  have : stV cs ((k : Int), g) = 1 := by rw [stV_in hk hg, if_pos hs]
  unfold delA
  rw [this]
  rfl
theorem delA_none {top : Int} {cs : List ACell} {h : Hdl} (hs : stV cs h = 0) : delA top cs h = (4, cs) := by
  unfold delA
  rw [if_pos hs]
/-- The first forty are made. -/
structure LeC (k : Nat) (cs : List ACell) : Prop where
  len : cs.length = 60
  st : ∀ i, i < 60 → stA cs i = if i < k then 1 else 0
  gn : ∀ i, i < 60 → gnA cs i = if i < k then 1 else 0
theorem LeC.start : LeC 0 (newA 60) := ⟨by simp [newA], fun i hi => by rw [stA_new hi]; rfl, fun i _ => by rw [gnA_new]; rfl⟩
theorem LeC.step {k : Nat} {cs : List ACell} (h : LeC k cs) (hk : k < 60) : giveV 1 cs = (((k : Int), 1), 0, cs.set k (1, 1)) ∧ LeC (k + 1) (cs.set k (1, 1)) := by
  have hl : k < cs.length := by rw [h.len]; exact hk
  refine ⟨giveV_at hl (by rw [h.st k hk]; simp) (fun j hj => by rw [h.st j (by omega), if_pos hj]; decide) (by rw [h.gn k hk]; simp), by rw [List.length_set]; exact h.len, fun i hi => ?_, fun i hi => ?_⟩
  · rw [stA_set hl, h.st i hi]
    by_cases e : i = k
    · rw [if_pos e, if_pos (by omega)]
    · rw [if_neg e]
      by_cases e2 : i < k
      · rw [if_pos e2, if_pos (by omega)]
      · rw [if_neg e2, if_neg (by omega)]
  · rw [gnA_set hl, h.gn i hi]
    by_cases e : i = k
    · rw [if_pos e, if_pos (by omega)]
    · rw [if_neg e]
      by_cases e2 : i < k
      · rw [if_pos e2, if_pos (by omega)]
      · rw [if_neg e2, if_neg (by omega)]
/-- Some are deleted, and the first of them made anew. -/
structure LeI (G : List Nat) (i : Nat) (cs : List ACell) : Prop where
  len : cs.length = 60
  sorted : G.Pairwise (· < ·)
  few : ∀ a ∈ G, a < 40
  st : ∀ j, j < 60 → stA cs j = if j < 40 ∧ j ∉ G.drop i then 1 else 0
  gn : ∀ j, j < 60 → gnA cs j = if j < 40 then (if j ∈ G.take i then 2 else 1) else 0
theorem LeI.start {cs : List ACell} (h : LeC 40 cs) : LeI [] 0 cs := ⟨h.len, List.Pairwise.nil, fun _ h => (nomatch h), fun j hj => by rw [h.st j hj]; simp, fun j hj => by rw [h.gn j hj]; simp⟩
theorem LeI.del_new {G : List Nat} {cs : List ACell} (h : LeI G 0 cs) {k : Nat} (hk : k < 40) (hm : memS G (k : Int) = false) : delA 100 cs ((k : Int), 1) = (0, cs.set k (0, 1)) ∧ LeI (insS k G) 0 (cs.set k (0, 1)) := by
  have hn : k ∉ G := fun hq => by rw [memS_nat.2 hq] at hm; cases hm
  have hl : k < cs.length := by rw [h.len]; omega
  refine ⟨?_, by rw [List.length_set]; exact h.len, sorted_insS h.sorted, fun a ha => ?_, fun j hj => ?_, fun j hj => ?_⟩
  · have := delA_live (top := 100) (g := 1) hl (by rw [h.st k (by omega)]; simp [hk, hn]) (by rw [h.gn k (by omega)]; simp [hk])
    simpa using this
  · rcases mem_insS.1 ha with rfl | ha
    · exact hk
    · exact h.few a ha
  · rw [stA_set hl, h.st j hj]
    simp only [List.drop_zero, mem_insS]
    by_cases e : j = k
    · simp [e]
    · simp [e]
  · rw [gnA_set hl, h.gn j hj]
    by_cases e : j = k
    · subst e; simp [hk]
    · simp [e]
theorem LeI.del_old {G : List Nat} {cs : List ACell} (h : LeI G 0 cs) {k : Nat} (hk : k < 40) (hm : memS G (k : Int) = true) : delA 100 cs ((k : Int), 1) = (4, cs) ∧ LeI (insS k G) 0 cs := by
  have hin := memS_nat.1 hm
  have hl : k < cs.length := by rw [h.len]; omega
  refine ⟨delA_none ?_, by rw [ins_id h.sorted hin]; exact h⟩
  rw [stV_in hl (by rw [h.gn k (by omega)]; simp [hk]), h.st k (by omega)]
  simp [hin]
theorem LeI.make {G : List Nat} {i a : Nat} {cs : List ACell} (h : LeI G i cs) (ha : G[i]? = some a) : giveV 1 cs = (((a : Int), 2), 0, cs.set a (1, 2)) ∧ LeI G (i + 1) (cs.set a (1, 2)) := by
  obtain ⟨hil, hie⟩ := List.getElem?_eq_some_iff.1 ha
  have ha40 := h.few a (List.mem_of_getElem? ha)
  have hl : a < cs.length := by rw [h.len]; omega
  have hd : G.drop i = a :: G.drop (i + 1) := by rw [List.drop_eq_getElem_cons hil, hie]
  have hsrt : (a :: G.drop (i + 1)).Pairwise (· < ·) := hd ▸ h.sorted.sublist (List.drop_sublist i G)
  have hnt : a ∉ G.take i := fun hq => by
    have hp := h.sorted
    rw [← List.take_append_drop i G, List.pairwise_append] at hp
    have := hp.2.2 a hq a (by rw [hd]; exact List.mem_cons_self)
    omega
  have hnd : a ∉ G.drop (i + 1) := fun hq => by have := (List.pairwise_cons.1 hsrt).1 a hq; omega
  refine ⟨giveV_at hl ?_ (fun j hj => ?_) (by rw [h.gn a (by omega)]; simp [ha40, hnt]), by rw [List.length_set]; exact h.len, h.sorted, h.few, fun j hj => ?_, fun j hj => ?_⟩
  · rw [h.st a (by omega), hd]; simp
  · rw [h.st j (by omega), hd]
    have : j ∉ a :: G.drop (i + 1) := fun hq => by
      rcases List.mem_cons.1 hq with e | e
      · omega
      · have := (List.pairwise_cons.1 hsrt).1 j e; omega
    rw [if_pos ⟨by omega, this⟩]
    decide
  · rw [stA_set hl, h.st j hj, hd]
    by_cases e : j = a
    · subst e; simp [ha40, hnd]
    · simp [e]
  · rw [gnA_set hl, h.gn j hj, List.take_succ_eq_append_getElem hil, hie]
    by_cases e : j = a
    · subst e; simp [ha40]
    · simp [e]
theorem LeI.last {G : List Nat} {i : Nat} {cs : List ACell} (h : LeI G i cs) (hi : G.length ≤ i) : giveV 1 cs = ((40, 1), 0, cs.set 40 (1, 1)) := by
  have := giveV_at (s := 1) (i := 40) (cs := cs) (g := 1) (by rw [h.len]; decide) (by rw [h.st 40 (by decide)]; simp) (fun j hj => by rw [h.st j (by omega), List.drop_of_length_le hi]; simp [hj]) (by rw [h.gn 40 (by decide)]; simp)
  exact this
def hl1 (k : Nat) : List Hdl := (List.range k).map fun i : Nat => ((i : Int), (1 : Int))
theorem hl1_get {k n : Nat} (h : k < n) : (hl1 n)[k]? = some ((k : Int), 1) := by simp [hl1, h]
theorem hl1_snoc (k : Nat) : hl1 k ++ [((k : Int), (1 : Int))] = hl1 (k + 1) := by simp [hl1, List.range_succ]
theorem rin_v {w0 w : World} {L : List As} {S : List Nat} (hP : Hid (S.Pairwise (· < ·))) {B : Option Addr} {n cap : Nat} (hn : Hid (S.length = n)) (hn2 : n ≤ 1000) (hs : St w0 (own B n cap 3 1 (intv S) :: L) w) {f : Int} {b : Bool} (h : Hid (memS S f = b)) :
    Calls Tryd.prog 13 #[.slice B n cap, .int .i64 f] w fun e w' => e = .returned (.bool b) ∧ Grew w w' := rin_c hP.out hn.out (by omega) hs (RdS.own hs) h
theorem rwith_v {w0 w : World} {L : List As} {S S' : List Nat} {B : Option Addr} {n n' cap : Nat} (hP : Hid (S.Pairwise (· < ·))) (hn : Hid (S.length = n)) (hn2 : n ≤ 1000) (hs : St w0 (own B n cap 3 1 (intv S) :: L) w) {q : Nat} (h : Hid (insS q S = S')) (h' : Hid (S'.length = n')) :
    Calls Tryd.prog 14 #[.slice B n cap, .int .i64 (q : Nat)] w fun e w' => ∃ B cap', e = .returned (.slice B n' cap') ∧ St w0 (own B n' cap' 3 1 (intv S') :: L) w' := by
  rw [← h'.out, ← h.out]; exact rwith_c hP.out hn.out (by omega) hs q
attribute [local irreducible] idxS addS okN memS remS errN insS delS nextS stA gnA stV atA hsV mergeA giveV delA newA hl1
set_option maxHeartbeats 1000000 in
theorem aleast_c {w0 : World} (hT : Tab w0) {va : Value} {za : List Int} (hva : IntArg w0 va za) : Calls Tryd.prog 4 #[va] w0 (LawPost w0) := by
  obtain ⟨A, na, ca, rfl, hlen, hnc, hcm, hra, hba⟩ := hva
  subst hlen
  unfold maxLen at hcm
  have hs := St.start w0
  clear hba
  go_enter Tryd.func4, Tryd.ntmps4
  go_wp2_with (first
    | (go_at_call 8; refine (anew_c hs (n := 60) (top := 100) (by decide) (by decide) (by decide) (by decide)).mono ?_; clear hs; rintro e w' ⟨D, rfl, hs⟩))
  have hz : hsV (hl1 0) = [] := by unfold hsV hl1; rfl
  replace hs := (hs.own_nil 30 2).rot
  rw [← hz] at hs
  go_loopw [5, 6] (fun ov cv wr => ∃ (k : Nat) (B : Option Addr) (cap : Nat) (cs : List ACell), k ≤ 40 ∧ ov = .slice B k cap ∧ cv = .int .i64 (k : Nat) ∧ LeC k cs ∧ St w0 [AlB D 100 cs, own B k cap 30 2 (hsV (hl1 k))] wr) (fun _ cv _ => 40 - (intOf cv).toNat)
  case atStart => exact ⟨0, none, 0, newA 60, Nat.zero_le _, rfl, rfl, LeC.start, hs⟩
  case round =>
    clear hs hz
    obtain ⟨k, B, cap, cs, hk, rfl, rfl, HC, hs⟩ := hrel
    by_cases hlt : k < 40
    · obtain ⟨hgv, HC2⟩ := HC.step (by omega)
      have HG := Lib.hid hgv
      have HX : Hid (hsV (hl1 k) ++ h2 ((k : Int), 1) = hsV (hl1 (k + 1))) := by rw [Hid, hsV_append, hl1_snoc]
      clear hgv HC
      have tk : True := trivial
      go_wp2_with (first
        | (go_at_call 9; refine (create_c hT hs HG).mono ?_; clear hs; rintro e w' ⟨rfl, hs⟩)
        | (refine wpl_alloc zeroH hs ?_; clear hs; intro g7 w3 hs; replace hs : St w0 (blk g7 (h2 (0, 0)).toArray 30 :: _) w3 := hs)
        | (refine wpl_store_agg (ad := ⟨g7, 0, none⟩) (v := hv ((k : Int), 1)) rfl rfl (sizeH _) hs WrA.slotH ?_; clear hs; intro w4 hs)
        | (refine wpl_load_agg (cs := h2 ((k : Int), 1)) (b := g7) (o := 0) rfl aggH (sizeH _) hs ?hh ?_; case hh => exact fun j x hx => Rd.blk (by simpa using hx))
        | (refine wpl_build1 (v := hv ((k : Int), 1)) elemH (by decide) rfl rfl hs ?_; clear hs; intro gb w2 hs; replace hs : St w0 (blk gb (h2 ((k : Int), 1)).toArray 30 :: _) w2 := hs)
        | (refine wpl_append (B := some ⟨gb, 0, none⟩) (m := 1) (news := h2 ((k : Int), 1)) elemH rfl rfl hs (Ent.skip (Ent.skip (Ent.skip (Ent.refl _)))) RdS.blk rfl (h2_one _) (by unfold maxLen; omega) (by omega) ?_; clear hs; intro B' cap' w3 hs; rw [HX.out] at hs; replace hs := hs.rot.drop.rot.drop.rot))
      go_roundw
      case rel => exact ⟨k + 1, B', cap', _, by omega, rfl, by go_num, HC2, hs⟩
      case measure => simp [intOf] <;> omega
    · obtain rfl : k = 40 := by omega
      have HI := LeI.start HC
      clear HC hlt hk
      obtain ⟨gH, rfl⟩ := hs.rot.own_at (by decide)
      go_wp2
      replace hs := (hs.own_nil 3 1).dn2
      go_loopw [9, 10] (fun gv cv wr => ∃ (k n : Nat) (B : Option Addr) (capg : Nat) (G : List Nat) (cs : List ACell), k ≤ za.length ∧ k ≤ 30 ∧ gv = .slice B n capg ∧ cv = .int .i64 (k : Nat) ∧ LeI G 0 cs ∧ G.length = n ∧ n ≤ k ∧ St w0 [AlB D 100 cs, own (some ⟨gH, 0, none⟩) 40 cap 30 2 (hsV (hl1 40)), own B n capg 3 1 (intv G)] wr) (fun _ cv _ => za.length - (intOf cv).toNat)
      case atStart => exact ⟨0, 0, none, 0, [], cs, Nat.zero_le _, Nat.zero_le _, rfl, rfl, HI, rfl, Nat.le_refl _, hs⟩
      case round =>
        clear hs HI
        obtain ⟨k, n, B, capg, G, cs, hk, hk2, rfl, rfl, HI, hGn, hnk, hs⟩ := hrel
        have hN := Lib.hid hGn
        have hP := Lib.hid HI.sorted
        have hn2 : n ≤ 1000 := by omega
        clear hGn
        by_cases hlt : k < za.length ∧ k < 30
        · obtain ⟨hkx, hk30⟩ := hlt
          obtain ⟨b, o, z, rfl, hc, hz⟩ := hra.int hkx
          have hc := (hc.tail.tail.tail : Rd w0 [_, _, _] _ _) _ hs
          clear hz
          have hand := and_ff z
          have hr : (z % 256).toNat < 256 := by omega
          generalize (z % 256).toNat = r at hand hr
          have hrm : (r : Int) % 40 = ((r % 40 : Nat) : Int) := by omega
          have hq : r % 40 < 40 := by omega
          generalize r % 40 = q at hrm hq
          have hld : ∀ X Y, ∀ j x, (h2 ((q : Int), 1))[j]? = some x → Rd w0 [X, own (some ⟨gH, 0, none⟩) 40 cap 30 2 (hsV (hl1 40)), Y] ⟨gH, q * 2 + j, none⟩ x := fun X Y j x hx => (hsV_at (hl1_get hq) j x hx).tail
          obtain ⟨S', HS'⟩ : ∃ S', Hid (insS q G = S') := ⟨_, rfl⟩
          obtain ⟨n', HN'⟩ : ∃ n', Hid (S'.length = n') := ⟨_, rfl⟩
          have hn' : n' ≤ n + 1 := by have := insS_len q G; rw [HS'.out, HN'.out, hN.out] at this; exact this
          cases hm : memS G (q : Int) with
          | true =>
            have HM := Lib.hid hm
            obtain ⟨hd, HI2⟩ := HI.del_old hq hm
            rw [HS'.out] at HI2
            have HDel := Lib.hid hd
            clear hd hm HI
            go_wp2_with (first
              | (refine wpl_load_agg (cs := h2 ((q : Int), 1)) (b := gH) (o := q * 2) rfl aggH (sizeH _) hs ?hh ?_; case hh => exact hld _ _)
              | (go_at_call 10; refine (delete_c hs HDel).mono ?_; clear hs; rintro e w' ⟨rfl, hs⟩)
              | (go_at_call 13; refine (rin_v hP hN hn2 hs.up2 HM).mono ?_; rintro e w5 ⟨rfl, hg⟩; replace hs := hs.grew hg; clear hg)
              | (go_at_call 14; refine (rwith_v hP hN hn2 hs.up2 HS' HN').mono ?_; clear hs; rintro e w8 ⟨B', cap', rfl, hs⟩; replace hs := hs.dn2))
            go_roundw
            case rel =>
              (repeat apply Exists.intro)
              refine ⟨?_, rfl⟩
              exact ⟨k + 1, n', B', cap', S', _, by omega, by omega, rfl, by go_num, HI2, HN'.out, by omega, hs⟩
            case measure => simp [intOf] <;> omega
          | false =>
            have HM := Lib.hid hm
            obtain ⟨hd, HI2⟩ := HI.del_new hq hm
            rw [HS'.out] at HI2
            have HDel := Lib.hid hd
            clear hd hm HI
            go_wp2_with (first
              | (refine wpl_load_agg (cs := h2 ((q : Int), 1)) (b := gH) (o := q * 2) rfl aggH (sizeH _) hs ?hh ?_; case hh => exact hld _ _)
              | (go_at_call 10; refine (delete_c hs HDel).mono ?_; clear hs; rintro e w' ⟨rfl, hs⟩)
              | (go_at_call 13; refine (rin_v hP hN hn2 hs.up2 HM).mono ?_; rintro e w5 ⟨rfl, hg⟩; replace hs := hs.grew hg; clear hg)
              | (go_at_call 14; refine (rwith_v hP hN hn2 hs.up2 HS' HN').mono ?_; clear hs; rintro e w8 ⟨B', cap', rfl, hs⟩; replace hs := hs.dn2))
            go_roundw
            case rel =>
              (repeat apply Exists.intro)
              refine ⟨?_, rfl⟩
              exact ⟨k + 1, n', B', cap', S', _, by omega, by omega, rfl, by go_num, HI2, HN'.out, by omega, hs⟩
            case measure => simp [intOf] <;> omega
        · have hs2 := hs
          by_cases h3 : k < za.length
          · have h4 : ¬ k < 30 := fun h => hlt ⟨h3, h⟩
            clear hlt hs2
            go_wp2
            try clear h3
            try clear h4
            go_loopw [13] (fun cv wr => ∃ (i : Nat) (cs : List ACell), i ≤ n ∧ cv = .int .i64 (i : Nat) ∧ LeI G i cs ∧ St w0 [AlB D 100 cs, own (some ⟨gH, 0, none⟩) 40 cap 30 2 (hsV (hl1 40)), own B n capg 3 1 (intv G)] wr) (fun cv _ => n - (intOf cv).toNat)
            case atStart => exact ⟨0, cs, Nat.zero_le _, rfl, HI, hs⟩
            case round =>
              clear hs HI
              obtain ⟨i, cs, hi, rfl, HI, hs⟩ := hrel
              by_cases hlt : i < n
              · obtain ⟨gG, rfl⟩ := hs.up2.own_at (by omega)
                obtain ⟨a, ha⟩ : ∃ a, G[i]? = some a := ⟨_, List.getElem?_eq_getElem (by rw [hN.out]; exact hlt)⟩
                obtain ⟨hgv, HI2⟩ := HI.make ha
                have HG := Lib.hid hgv
                have HA := Lib.hid ha
                clear hgv ha HI
                go_upto_region 25 with (first
                  | (go_at_call 9; refine (create_c hT hs HG).mono ?_; clear hs; rintro e w' ⟨rfl, hs⟩)
                  | (refine wpl_alloc zeroH hs ?_; clear hs; intro g7 w3 hs; replace hs : St w0 (blk g7 (h2 (0, 0)).toArray 30 :: _) w3 := hs)
                  | (refine wpl_store_agg (ad := ⟨g7, 0, none⟩) (v := hv ((a : Int), 2)) rfl rfl (sizeH _) hs WrA.slotH ?_; clear hs; intro w4 hs))
                have f2 : World.cell? _ ⟨gG, i, none⟩ = some (.int .i64 (a : Nat)) := Rd.own (intv_get HA.out) _ hs.up3
                obtain ⟨f0, f1⟩ := hRd hs
                refine wp_region_grow (by kernel_rfl) (by kernel_rfl) fun hne => ?_
                have g0 := fun p : GW _ => p.grew.cell f0
                have g1 := fun p : GW _ => p.grew.cell f1
                have g2 := fun p : GW _ => p.grew.cell f2
                repeat (go_big_quiet_step (fail))
                refine wpQuiet_nil ?_
                clear hne g0 g1 g2 f0 f1 f2
                intro u hu
                replace hs := hs.grew hu
                clear hu
                go_wp2
                go_roundw
                case rel =>
                  (repeat apply Exists.intro)
                  refine ⟨?_, rfl⟩
                  exact ⟨i + 1, _, by omega, by go_num, HI2, hs.drop⟩
                case measure => simp [intOf] <;> omega
              · have hgv := HI.last (by rw [hN.out]; omega)
                have HG := Lib.hid hgv
                clear hgv HI
                go_upto_region 28 with (first
                  | (go_at_call 9; refine (create_c hT hs HG).mono ?_; clear hs; rintro e w' ⟨rfl, hs⟩)
                  | (refine wpl_alloc zeroH hs ?_; clear hs; intro g7 w3 hs; replace hs : St w0 (blk g7 (h2 (0, 0)).toArray 30 :: _) w3 := hs)
                  | (refine wpl_store_agg (ad := ⟨g7, 0, none⟩) (v := hv (40, 1)) rfl rfl (sizeH _) hs WrA.slotH ?_; clear hs; intro w4 hs))
                obtain ⟨f0, f1⟩ := hRd hs
                go_wp2_with (first
                  | (go_at_call 12; refine (awake5 (hT.grew hs.below)).mono ?_; rintro e w' ⟨rfl, hg⟩; replace hs := hs.grew hg; clear hg))
                go_ret
                exact ⟨rfl, hs.drop.drop.drop.drop⟩
          · clear hlt hs2
            go_wp2
            try clear h3
            try clear h4
            go_loopw [13] (fun cv wr => ∃ (i : Nat) (cs : List ACell), i ≤ n ∧ cv = .int .i64 (i : Nat) ∧ LeI G i cs ∧ St w0 [AlB D 100 cs, own (some ⟨gH, 0, none⟩) 40 cap 30 2 (hsV (hl1 40)), own B n capg 3 1 (intv G)] wr) (fun cv _ => n - (intOf cv).toNat)
            case atStart => exact ⟨0, cs, Nat.zero_le _, rfl, HI, hs⟩
            case round =>
              clear hs HI
              obtain ⟨i, cs, hi, rfl, HI, hs⟩ := hrel
              by_cases hlt : i < n
              · obtain ⟨gG, rfl⟩ := hs.up2.own_at (by omega)
                obtain ⟨a, ha⟩ : ∃ a, G[i]? = some a := ⟨_, List.getElem?_eq_getElem (by rw [hN.out]; exact hlt)⟩
                obtain ⟨hgv, HI2⟩ := HI.make ha
                have HG := Lib.hid hgv
                have HA := Lib.hid ha
                clear hgv ha HI
                go_upto_region 25 with (first
                  | (go_at_call 9; refine (create_c hT hs HG).mono ?_; clear hs; rintro e w' ⟨rfl, hs⟩)
                  | (refine wpl_alloc zeroH hs ?_; clear hs; intro g7 w3 hs; replace hs : St w0 (blk g7 (h2 (0, 0)).toArray 30 :: _) w3 := hs)
                  | (refine wpl_store_agg (ad := ⟨g7, 0, none⟩) (v := hv ((a : Int), 2)) rfl rfl (sizeH _) hs WrA.slotH ?_; clear hs; intro w4 hs))
                have f2 : World.cell? _ ⟨gG, i, none⟩ = some (.int .i64 (a : Nat)) := Rd.own (intv_get HA.out) _ hs.up3
                obtain ⟨f0, f1⟩ := hRd hs
                refine wp_region_grow (by kernel_rfl) (by kernel_rfl) fun hne => ?_
                have g0 := fun p : GW _ => p.grew.cell f0
                have g1 := fun p : GW _ => p.grew.cell f1
                have g2 := fun p : GW _ => p.grew.cell f2
                repeat (go_big_quiet_step (fail))
                refine wpQuiet_nil ?_
                clear hne g0 g1 g2 f0 f1 f2
                intro u hu
                replace hs := hs.grew hu
                clear hu
                go_wp2
                go_roundw
                case rel =>
                  (repeat apply Exists.intro)
                  refine ⟨?_, rfl⟩
                  exact ⟨i + 1, _, by omega, by go_num, HI2, hs.drop⟩
                case measure => simp [intOf] <;> omega
              · have hgv := HI.last (by rw [hN.out]; omega)
                have HG := Lib.hid hgv
                clear hgv HI
                go_upto_region 28 with (first
                  | (go_at_call 9; refine (create_c hT hs HG).mono ?_; clear hs; rintro e w' ⟨rfl, hs⟩)
                  | (refine wpl_alloc zeroH hs ?_; clear hs; intro g7 w3 hs; replace hs : St w0 (blk g7 (h2 (0, 0)).toArray 30 :: _) w3 := hs)
                  | (refine wpl_store_agg (ad := ⟨g7, 0, none⟩) (v := hv (40, 1)) rfl rfl (sizeH _) hs WrA.slotH ?_; clear hs; intro w4 hs))
                obtain ⟨f0, f1⟩ := hRd hs
                go_wp2_with (first
                  | (go_at_call 12; refine (awake5 (hT.grew hs.below)).mono ?_; rintro e w' ⟨rfl, hg⟩; replace hs := hs.grew hg; clear hg))
                go_ret
                exact ⟨rfl, hs.drop.drop.drop.drop⟩
end Go.Proofs.YtkcbjkadalebjaaDoor
