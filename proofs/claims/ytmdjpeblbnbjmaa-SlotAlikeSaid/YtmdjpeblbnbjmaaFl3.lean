/-
  What befell (flag.Flag), 3: Behind, Read.
-/
import Derived.Test.YtmdjpeblbnbjmaaFl2
set_option maxRecDepth 100000
namespace Go.Proofs.Ytmdjpeblbnbjmaa
open Go Go.RowKit
attribute [local irreducible] wpList Calls Code.wp

theorem i8s_get {l : List Nat} {i k : Nat} (h : l[i]? = some k) : (i8s l)[i]? = some (.int .i64 (k : Nat)) := by simp [i8s, h]
theorem fl_behind {w0 w : World} {L : List As} {F bd : Nat} {evs : List Ev} {rds : List Nat} (hs : St w0 (FlB F bd evs rds :: L) w) {r k : Nat} (hr : rds[r]? = some k) (hl : evs.length < 4611686018427387904) :
    Calls Try.prog 45 #[.pointer (some ⟨F, 0, none⟩), .int .i64 (r : Nat)] w fun e w' => e = .returned (.tuple #[.int .i64 ((evs.length - k : Nat) : Int), .int .i64 0]) ∧ Grew w w' := by
  obtain ⟨A, cap, B, cap2, hok, hs⟩ := hs.flopen
  have hk := hok.back k (List.mem_of_getElem? hr)
  have hrl := (List.getElem?_eq_some_iff.1 hr).1
  have hfew := hok.few
  have hrd := i8s_get hr
  obtain ⟨m, hm⟩ : ∃ m, Hid (rds.length = m) := ⟨_, rfl⟩
  obtain ⟨nt, hnt⟩ : ∃ nt, Hid (evs.length = nt) := ⟨_, rfl⟩
  obtain ⟨n, hn⟩ : ∃ n, Hid ((lastE bd evs).length = n) := ⟨_, rfl⟩
  rw [hm.out, hnt.out, hn.out] at hs
  rw [hm.out] at hrl hfew
  rw [hnt.out] at hl hk ⊢
  clear hok hr
  obtain ⟨gB, rfl⟩ := hs.up2.own_at (by omega)
  have hr1 := Rd.fl1 (w0 := w0) (F := F) (bd := bd) (nt := nt) (A := A) (n := n) (cap := cap) (B := some ⟨gB, 0, none⟩) (m := m) (cap2 := cap2) (L := own A n cap 80 2 (es2 (lastE bd evs)) :: own (some ⟨gB, 0, none⟩) m cap2 2 1 (i8s rds) :: L) (t := 101)
  have hr3 := Rd.fl3 (w0 := w0) (F := F) (bd := bd) (nt := nt) (A := A) (n := n) (cap := cap) (B := some ⟨gB, 0, none⟩) (m := m) (cap2 := cap2) (L := own A n cap 80 2 (es2 (lastE bd evs)) :: own (some ⟨gB, 0, none⟩) m cap2 2 1 (i8s rds) :: L) (t := 101)
  have hrb := (((Rd.own (w0 := w0) (g := gB) (n := m) (cap := cap2) (e := 2) (size := 1) (L := L) hrd).tail (p := own A n cap 80 2 (es2 (lastE bd evs)))).tail (p := blk F (flC bd nt A n cap (some ⟨gB, 0, none⟩) m cap2) 101))
  have hc3 := hr3 _ hs
  clear hrd
  have hx : ((nt : Int) - (k : Nat)) = ((nt - k : Nat) : Int) := by omega
  obtain ⟨x, hx2⟩ : ∃ x, x = nt - k := ⟨_, rfl⟩
  rw [← hx2] at hx ⊢
  have hxl : x < 4611686018427387904 := by omega
  clear hx2
  go_enter Try.func45, Try.ntmps45
  go_upto_region 3 with (fail)
  clear hc3
  refine wp_region_grow (by kernel_rfl) (by kernel_rfl) fun hne => ?_
  have c1 := hr1.gall hs
  have c3 := hr3.gall hs
  have cb := hrb.gall hs
  repeat (go_big_quiet_step (fail))
  refine wpQuiet_nil ?_
  intro u hu
  go_wp2
  go_ret2
  exact ⟨rfl, hu⟩
theorem fl_behind_no {w0 w : World} {L : List As} {F bd : Nat} {evs : List Ev} {rds : List Nat} (hs : St w0 (FlB F bd evs rds :: L) w) {r : Int} (hr : r < 0 ∨ (rds.length : Int) ≤ r) :
    Calls Try.prog 45 #[.pointer (some ⟨F, 0, none⟩), .int .i64 r] w fun e w' => e = .returned (.tuple #[.int .i64 0, .int .i64 8]) ∧ w = w' := by
  obtain ⟨A, cap, B, cap2, hok, hs⟩ := hs.flopen
  have hc3 := Rd.fl3 _ hs
  clear hok
  generalize rds.length = m at *
  rcases hr with hr | hr
  · go_enter Try.func45, Try.ntmps45
    go_wp2
    go_ret2
    exact ⟨rfl, rfl⟩
  · have hr0 : ¬ r < 0 := by omega
    go_enter Try.func45, Try.ntmps45
    go_wp2
    go_ret2
    exact ⟨rfl, rfl⟩
/-- What a reader that had read so many is told; whether it lagged. -/
def lagE (bd : Nat) (evs : List Ev) (k : Nat) : Bool := decide (bd < evs.length - k)
def newE (bd : Nat) (evs : List Ev) (k : Nat) : List Ev := if lagE bd evs k then [] else evs.drop k
theorem i8s_set (l : List Nat) (i k : Nat) : (i8s l).set i (.int .i64 (k : Nat)) = i8s (l.set i k) := by simp [i8s, List.map_set]
theorem fl_read_no {w0 w : World} {L : List As} {F bd : Nat} {evs : List Ev} {rds : List Nat} (hs : St w0 (FlB F bd evs rds :: L) w) {r : Int} (hr : r < 0 ∨ (rds.length : Int) ≤ r) :
    Calls Try.prog 33 #[.pointer (some ⟨F, 0, none⟩), .int .i64 r] w fun e w' => e = .returned (.tuple #[.slice none 0 0, .bool false, .int .i64 8]) ∧ w = w' := by
  have HB := Lib.hid (fl_behind_no hs hr)
  clear hr
  go_enter Try.func33, Try.ntmps33
  go_wp2_with (first
    | (go_at_call 45; refine HB.out.mono ?_; rintro e w' ⟨rfl, rfl⟩))
  refine bodyPost_ret (results_tmp3 rfl _ _ _) rfl ?_
  exact ⟨rfl, rfl⟩
theorem fl_read {w0 w : World} {L : List As} {F bd : Nat} {evs : List Ev} {rds : List Nat} (hs : St w0 (FlB F bd evs rds :: L) w) {r k : Nat} (hr : rds[r]? = some k) (hl : evs.length < 4611686018427387904) {b : Bool} {l : List Ev} (hb : Hid (lagE bd evs k = b)) (hnl : Hid (newE bd evs k = l)) :
    Calls Try.prog 33 #[.pointer (some ⟨F, 0, none⟩), .int .i64 (r : Nat)] w fun e w' => ∃ A cap n, Hid (l.length = n) ∧ e = .returned (.tuple #[.slice A n cap, .bool b, .int .i64 0]) ∧ St w0 (own A n cap 80 2 (es2 l) :: FlB F bd evs (rds.set r evs.length) :: L) w' := by
  have HB := Lib.hid (fl_behind hs hr hl)
  obtain ⟨A, cap, B, cap2, hok, hs⟩ := hs.flopen
  have hk := hok.back k (List.mem_of_getElem? hr)
  have hrl := (List.getElem?_eq_some_iff.1 hr).1
  have hll := lastE_len bd evs
  have hbd := hok.b2
  have hbd1 := hok.b1
  have hfew := hok.few
  have HL : Hid (evs.length - k ≤ bd → (lastE bd evs).drop ((lastE bd evs).length - (evs.length - k)) = evs.drop k) := fun h => by
    unfold lastE
    rw [List.drop_drop, List.length_drop]
    congr 1
    omega
  have HBK : Hid (FlOk bd evs (rds.set r evs.length)) := ⟨hok.b1, hok.b2, by rw [List.length_set]; exact hok.few, fun x hx => by
    rcases List.mem_or_eq_of_mem_set hx with hx | rfl
    · exact hok.back x hx
    · exact Nat.le_refl _⟩
  obtain ⟨m, hm⟩ : ∃ m, Hid (rds.length = m) := ⟨_, rfl⟩
  obtain ⟨nt, hnt⟩ : ∃ nt, Hid (evs.length = nt) := ⟨_, rfl⟩
  obtain ⟨n, hn⟩ : ∃ n, Hid ((lastE bd evs).length = n) := ⟨_, rfl⟩
  unfold lagE at hb
  unfold newE lagE at hnl
  rw [hm.out, hnt.out, hn.out] at hs
  rw [hm.out] at hrl hfew
  rw [hnt.out] at hl hk hll HB hb hnl HL
  rw [hnt.out]
  rw [hn.out] at hll HL
  clear hok hr
  obtain ⟨gB, rfl⟩ := hs.up2.own_at (by omega)
  have hr1 := Rd.fl1 (w0 := w0) (F := F) (bd := bd) (nt := nt) (A := A) (n := n) (cap := cap) (B := some ⟨gB, 0, none⟩) (m := m) (cap2 := cap2) (L := []) (t := 101)
  have hr3 := Rd.fl3 (w0 := w0) (F := F) (bd := bd) (nt := nt) (A := A) (n := n) (cap := cap) (B := some ⟨gB, 0, none⟩) (m := m) (cap2 := cap2) (L := []) (t := 101)
  obtain ⟨x, hx2⟩ : ∃ x, x = nt - k := ⟨_, rfl⟩
  rw [← hx2] at HB hb hnl HL
  have hxl : x < 4611686018427387904 := by omega
  have hxn : x ≤ bd → x ≤ n := by omega
  have hn1000 : n ≤ 1000 := by omega
  clear hx2 hll
  go_enter Try.func33, Try.ntmps33
  go_upto_region 4 with (first
    | (go_at_call 45; refine HB.out.mono ?_; rintro e w' ⟨rfl, hg⟩; replace hs := hs.grew hg; clear hg))
  refine wp_region_plain [false, false, false, false, false, false, false, false, false, false, true] hs.only (by kernel_rfl) (by kernel_rfl) fun hne => ?_
  have c1 := hr1.alln
  have c3 := hr3.alln
  simp only [pickOps]
  repeat (go_big_quiet_step (fail))
  refine wpQuiet_nil ?_
  clear hne c1 c3
  simp only [chainIx]
  refine wpChain_last rfl ?_
  refine wpl_store (v := .int .i64 (nt : Nat)) rfl rfl rfl size8 hs.up2.drew (Wr.own (by rw [i8s_len, hm.out]; exact hrl)) ?_
  clear hs
  intro w hs
  refine wpList_nil ⟨rfl, ?_⟩
  rw [i8s_set] at hs
  replace hs := hs.dn2
  have hm2 : Hid (m = (rds.set r nt).length) := by rw [Hid, List.length_set, hm.out]
  have hr0 := Rd.fl0 (w0 := w0) (F := F) (bd := bd) (nt := nt) (A := A) (n := n) (cap := cap) (B := some ⟨gB, 0, none⟩) (m := m) (cap2 := cap2) (L := []) (t := 101)
  have hr2 := Rd.fl2 (w0 := w0) (F := F) (bd := bd) (nt := nt) (A := A) (n := n) (cap := cap) (B := some ⟨gB, 0, none⟩) (m := m) (cap2 := cap2) (L := []) (t := 101)
  have hc0 := hr0 _ hs.only
  rw [hnt.out] at HBK
  clear hr1 hr3
  by_cases hbx : bd < x
  · obtain rfl : b = true := by rw [← hb.out]; exact decide_eq_true hbx
    obtain rfl : l = [] := by rw [← hnl.out, decide_eq_true hbx]; rfl
    go_wp2
    go_ret3
    refine ⟨none, 0, 0, rfl, rfl, ?_⟩
    exact (hs.flshut HBK.out hnt.out.symm hn.out.symm hm2.out rfl rfl).own_nil _ _
  · obtain rfl : b = false := by rw [← hb.out]; exact decide_eq_false hbx
    have hxn2 := hxn (by omega)
    have HL2 : Hid ((lastE bd evs).drop (n - x) = l) := by rw [Hid, HL.out (by omega), ← hnl.out, decide_eq_false hbx]; rfl
    have hxo : ((n : Int) - (x : Nat)) = ((n - x : Nat) : Int) := by omega
    have hLL : Hid (l.length = x) := by rw [Hid, ← HL2.out, List.length_drop, hn.out]; omega
    have HFIN : Hid (∀ (L : List As) (w : World), St w0 (blk F (flC bd nt A n cap (some ⟨gB, 0, none⟩) m cap2) 101 :: own A n cap 80 2 (es2 (lastE bd evs)) :: own (some ⟨gB, 0, none⟩) m cap2 2 1 (i8s (rds.set r nt)) :: L) w → St w0 (FlB F bd evs (rds.set r nt) :: L) w) := fun L w h => h.flshut HBK.out hnt.out.symm hn.out.symm hm2.out rfl rfl
    obtain ⟨y, hy⟩ : ∃ y, y = n - x := ⟨_, rfl⟩
    rw [← hy] at hxo HL2
    have hyx : y + x = n := by omega
    clear hy
    have hcapn := (hs.rot.own_len).2.1
    clear HB HL HBK hxn hb hnl hl hxl hk
    go_upto_region 7 with (fail)
    cases A with
    | none =>
      have h0 : n = 0 ∧ cap = 0 := by
        obtain ⟨_, ⟨_, h⟩, _⟩ := hs.rot.heap
        rcases h with ⟨_, h1, h2, _⟩ | ⟨g, cur, h0, _⟩
        · exact ⟨h1, h2⟩
        · cases h0
      obtain ⟨rfl, rfl⟩ := h0
      obtain rfl : x = 0 := by omega
      obtain rfl : y = 0 := by omega
      obtain rfl : l = [] := List.eq_nil_of_length_eq_zero hLL.out
      clear hxo hcapn hxn2 hbx hn1000 HL2 hyx
      refine wp_region_plain [false, false, false, false, false, false, false, false, false, false, false, false, true, true, true, true] hs.only (by kernel_rfl) (by kernel_rfl) fun hne => ?_
      have c2 := hr2.alln
      simp only [pickOps]
      repeat (go_big_quiet_step (fail))
      refine wpQuiet_nil ?_
      clear hne c2
      simp only [chainIx]
      refine wpChainP_next rfl ?_
      replace hs := hs.drew
      go_wp2_with (first
        | (go_at_call 46; refine (cloneE_c (A := none) (n := 0) (cap := 0) (l := []) (fun _ => ⟨rfl, rfl⟩) rfl (by omega) hs RdS.nil).mono ?_; clear hs; rintro r w ⟨D, cD, rfl, hs⟩))
      refine ⟨hs.drop.only, ?_⟩
      refine wpChainP_next rfl ?_
      go_wp2
      refine ⟨hs.drop.only, ?_⟩
      refine wpChainP_next rfl ?_
      go_wp2
      refine ⟨hs.drop.only, ?_⟩
      refine wpChain_last rfl ?_
      go_wp2
      go_ret3
      exact ⟨D, cD, _, hLL, rfl, (HFIN.out _ _ (hs.ent (Ent.push _ [_, _, _] _))).rot⟩
    | some a =>
      obtain ⟨gA, ha⟩ : ∃ g, a = ⟨g, 0, none⟩ := by
        obtain ⟨_, ⟨_, h⟩, _⟩ := hs.rot.heap
        rcases h with ⟨h0, _⟩ | ⟨g, cur, h0, _⟩
        · cases h0
        · injection h0 with h0; exact ⟨g, h0⟩
      subst ha
      by_cases hcy : cap = y
      · have HL0 : Hid (l = []) := List.eq_nil_of_length_eq_zero (by rw [hLL.out]; omega)
        subst hcy
        refine wp_region_plain [false, false, false, false, false, false, false, false, false, false, false, false, true, true, true, true] hs.only (by kernel_rfl) (by kernel_rfl) fun hne => ?_
        have c2 := hr2.alln
        simp only [pickOps]
        repeat (go_big_quiet_step (fail))
        refine wpQuiet_nil ?_
        clear hne c2
        simp only [chainIx]
        refine wpChainP_next rfl ?_
        replace hs := hs.drew
        go_wp2_with (first
          | (go_at_call 46; refine (cloneE_c (A := some ⟨gA, 0, none⟩) (l := l) (fun h => nomatch h) (by rw [hLL.out]; omega) (by omega) hs (by rw [HL0.out]; exact RdS.nil)).mono ?_; clear hs; rintro r w ⟨D, cD, rfl, hs⟩))
        refine ⟨hs.drop.only, ?_⟩
        refine wpChainP_next rfl ?_
        go_wp2
        refine ⟨hs.drop.only, ?_⟩
        refine wpChainP_next rfl ?_
        go_wp2
        refine ⟨hs.drop.only, ?_⟩
        refine wpChain_last rfl ?_
        go_wp2
        go_ret3
        exact ⟨D, cD, 0, by rw [Hid, HL0.out]; rfl, rfl, (HFIN.out _ _ (hs.ent (Ent.push _ [_, _, _] _))).rot⟩
      · refine wp_region_plain [false, false, false, false, false, false, false, false, false, false, false, false, true, true, true, true] hs.only (by kernel_rfl) (by kernel_rfl) fun hne => ?_
        have c2 := hr2.alln
        simp only [pickOps]
        repeat (go_big_quiet_step (fail))
        refine wpQuiet_nil ?_
        clear hne c2
        simp only [chainIx]
        refine wpChainP_next rfl ?_
        replace hs := hs.drew
        go_wp2_with (first
          | (go_at_call 46; refine (cloneE_c (A := some ⟨gA, y * 2, none⟩) (l := (lastE bd evs).drop y) (fun h => nomatch h) (by rw [HL2.out, hLL.out]; omega) (by omega) hs (by rw [← es2_drop]; exact RdS.own_at.tail)).mono ?_; clear hs; rintro r w ⟨D, cD, rfl, hs⟩))
        refine ⟨hs.drop.only, ?_⟩
        refine wpChainP_next rfl ?_
        go_wp2
        refine ⟨hs.drop.only, ?_⟩
        refine wpChainP_next rfl ?_
        go_wp2
        refine ⟨hs.drop.only, ?_⟩
        refine wpChain_last rfl ?_
        go_wp2
        go_ret3
        rw [HL2.out] at hs
        have e2 : n - y = x := by omega
        rw [e2] at hs ⊢
        exact ⟨D, cD, _, hLL, rfl, (HFIN.out _ _ (hs.ent (Ent.push _ [_, _, _] _))).rot⟩
end Go.Proofs.Ytmdjpeblbnbjmaa
