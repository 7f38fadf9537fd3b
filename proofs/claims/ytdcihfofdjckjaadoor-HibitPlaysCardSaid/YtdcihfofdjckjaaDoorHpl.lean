/-
  HibitPlays.
-/
import Derived.Test.YtdcihfofdjckjaaDoorHsam
import Derived.Test.YtdcihfofdjckjaaDoorArgs
import Derived.Deep.DeepCutAuto
import Derived.Deep.CutBlock
set_option maxRecDepth 100000
namespace Go.Proofs.YtdcihfofdjckjaaDoor
open Go Go.RowKit
attribute [local irreducible] wpList Calls Code.wp

theorem listS_all {S : List Nat} {n : Nat} (hn : S.length = n) (h : n ≤ 1000) : listS S 0 ((n : Int) + 1) = S := by
  unfold listS
  rw [fromS_zero, List.take_of_length_le (by omega)]
theorem lsame_c {w0 w : World} {L : List As} {T : Nat} {S : List Nat} {B : Option Addr} {n cap : Nat} (hT : Tab w) (hn : Hid (S.length = n)) (hn2 : n ≤ 1000) (hs : St w0 (HSet T S :: own B n cap 3 1 (intv S) :: L) w) :
    Calls Tryd.prog 30 #[.pointer (some ⟨T, 0, none⟩), .slice B n cap] w fun e w' => e = .returned (.bool true) ∧ Grew w w' := by
  have HL := Lib.hid (listS_all hn.out hn2)
  have h0 := St.newly (w := w)
  go_enter Tryd.func30, Tryd.ntmps30
  go_wp2_with (first
    | (go_at_call 14; refine (hlen_v hs hn).mono ?_; rintro e w' ⟨rfl, rfl⟩)
    | (go_at_call 13; refine (hlist_n hs hT HL hn).mono ?_; rintro e w' ⟨B4, cap4, rfl, hm⟩; replace hs := hs.made hm; replace h0 := h0.made hm; clear hm)
    | (go_at_call 21; refine (rsame_c (b := true) hn.out hn.out (by omega) hs (RdS.own hs) (RdS.own hs.drop.drop).tail.tail ⟨fun _ => rfl, fun _ => rfl⟩).mono ?_; rintro e w5 ⟨rfl, hg⟩; replace h0 := h0.grew hg))
  go_ret
  exact ⟨rfl, h0.below⟩
theorem rin_w {w0 w : World} {L : List As} {T : Nat} {S : List Nat} {B : Option Addr} {n cap : Nat} (hP : Hid (S.Pairwise (· < ·))) (hn : Hid (S.length = n)) (hn2 : n ≤ 1000) (hs : St w0 (HSet T S :: own B n cap 3 1 (intv S) :: L) w) {f : Int} {b : Bool} (h : Hid (memS S f = b)) :
    Calls Tryd.prog 24 #[.slice B n cap, .int .i64 f] w fun e w' => e = .returned (.bool b) ∧ Grew w w' := rin_c hP.out hn.out (by omega) hs.drop (RdS.own hs.drop) h
theorem rnext_w {w0 w : World} {L : List As} {S : List Nat} {B : Option Addr} {n cap : Nat} (hP : Hid (S.Pairwise (· < ·))) (hn : Hid (S.length = n)) (hn2 : n ≤ 1000) (hs : St w0 (own B n cap 3 1 (intv S) :: L) w) {f v : Int} (h : Hid (nextS S f = v)) :
    Calls Tryd.prog 27 #[.slice B n cap, .int .i64 f] w fun e w' => e = .returned (.int .i64 v) ∧ Grew w w' := rnext_c hP.out hn.out (by omega) hs (RdS.own hs) h
theorem rword_w {w0 w : World} {L : List As} {S : List Nat} {B : Option Addr} {n cap : Nat} (hP : Hid (S.Pairwise (· < ·))) (hQ : Hid (∀ a ∈ S, a < 16777216)) (hn : Hid (S.length = n)) (hn2 : n ≤ 1000) (hs : St w0 (own B n cap 3 1 (intv S) :: L) w) {level at_ : Int} {x : Nat} (h : Hid (wordS S level at_ = x)) :
    Calls Tryd.prog 29 #[.slice B n cap, .int .i64 level, .int .i64 at_] w fun e w' => e = .returned (.int .u64 (x : Nat)) ∧ Grew w w' := rword_c hP.out hQ.out hn.out (by omega) hs (RdS.own hs) h
theorem rwith_w {w0 w : World} {L : List As} {S S' : List Nat} {B : Option Addr} {n n' cap : Nat} (hP : Hid (S.Pairwise (· < ·))) (hn : Hid (S.length = n)) (hn2 : n ≤ 1000) (hs : St w0 (own B n cap 3 1 (intv S) :: L) w) {q : Nat} (h : Hid (insS q S = S')) (h' : Hid (S'.length = n')) :
    Calls Tryd.prog 25 #[.slice B n cap, .int .i64 (q : Nat)] w fun e w' => ∃ B cap', e = .returned (.slice B n' cap') ∧ St w0 (own B n' cap' 3 1 (intv S') :: L) w' := by
  rw [← h'.out, ← h.out]; exact rwith_c hP.out hn.out (by omega) hs q
theorem rwith_z {w0 w : World} {L : List As} {S S' : List Nat} {B : Option Addr} {n n' cap : Nat} (hP : Hid (S.Pairwise (· < ·))) (hn : Hid (S.length = n)) (hn2 : n ≤ 1000) (hs : St w0 (own B n cap 3 1 (intv S) :: L) w) {z : Int} {q : Nat} (hz : Hid (z = (q : Int))) (h : Hid (insS q S = S')) (h' : Hid (S'.length = n')) :
    Calls Tryd.prog 25 #[.slice B n cap, .int .i64 z] w fun e w' => ∃ B cap', e = .returned (.slice B n' cap') ∧ St w0 (own B n' cap' 3 1 (intv S') :: L) w' := by
  rw [hz.out]; exact rwith_w hP hn hn2 hs h h'
theorem rwithout_w {w0 w : World} {L : List As} {S S' : List Nat} {B : Option Addr} {n n' cap : Nat} (hP : Hid (S.Pairwise (· < ·))) (hQ : Hid (∀ a ∈ S, a < 16777216)) (hn : Hid (S.length = n)) (hn2 : n ≤ 1000) (hs : St w0 (own B n cap 3 1 (intv S) :: L) w) {i : Int} (h : Hid (remS S i = S')) (h' : Hid (S'.length = n')) :
    Calls Tryd.prog 26 #[.slice B n cap, .int .i64 i] w fun e w' => ∃ B cap', e = .returned (.slice B n' cap') ∧ St w0 (own B n' cap' 3 1 (intv S') :: L) w' := by
  rw [← h'.out]; exact rwithout_c hP.out hQ.out hn.out (by omega) hs h
abbrev OpH := Int × Int
def c2 (o : OpH) : List Value := [.int .i64 o.1, .int .i64 o.2]
theorem agg2 : aggB Tryd.prog 46 = true := by kernel_rfl
theorem size2 (o : OpH) : (Tryd.prog.info? 46).map (·.size) = some (c2 o).length := by kernel_rfl
theorem zero2 : (Tryd.prog.info? 46).bind (·.zero) = some (.agg (c2 (0, 0)).toArray) := by kernel_rfl
theorem list2 {α : Type} {l : List α} (h : l.length = 2) : ∃ a b, l = [a, b] := by
  match l, h with
  | [a, b], _ => exact ⟨a, b, rfl⟩
theorem good2 {H : Type} {enc : TypeId × Value → H} {w : World} (n : Nat) (cs : List Value) (y : DataW H × List MemPlace) (h : DataW.trod enc Tryd.prog w 0 (fun _ => true) true n 46 cs = some y) : ∃ x, cs = c2 x ∧ True := by
  obtain ⟨y0, y1, m, _, hl, h0, h1⟩ := Go.ChangeShapes.trod_struct2 Tryd.underlying46 h
  obtain ⟨a, b, rfl⟩ := list2 (hl.trans (by kernel_rfl))
  obtain ⟨n0, e0, _⟩ := DataW.trod_int Tryd.underlying3 h0
  obtain ⟨n1, e1, _⟩ := DataW.trod_int Tryd.underlying3 h1
  rw [show Tryd.prog.cellsOf 3 = 1 by kernel_rfl] at e0 e1
  simp at e0 e1
  subst e0; subst e1
  exact ⟨⟨n0, n1⟩, rfl, trivial⟩
theorem c2_one (o : OpH) : ∀ v ∈ c2 o, v.oneCell' = true := by
  intro v hv
  simp [c2] at hv
  rcases hv with rfl | rfl <;> rfl
theorem WrA.slot2 {w0 : World} {g : Nat} {u v : OpH} {t : TypeId} {L : List As} : WrA w0 (YtdcihfofdjckjaaDoor.blk g (c2 u).toArray t :: L) ⟨g, 0, none⟩ (Value.agg (c2 v).toArray).cells.toList (YtdcihfofdjckjaaDoor.blk g (c2 v).toArray t :: L) := by
  have := WrA.blk (w0 := w0) (g := g) (o := 0) (cs := c2 u) (t := t) (vs := c2 v) (L := L) (by simp [c2]) (c2_one v)
  rwa [splice_all (by simp [c2])] at this
/-- Where the play stands. -/
structure HPl (S : List Nat) (n k : Nat) : Prop where
  sorted : S.Pairwise (· < ·)
  small : ∀ a ∈ S, a < 16777216
  len : S.length = n
  few : n ≤ 60 + k
theorem delS_len (i : Nat) (S : List Nat) : (delS i S).length ≤ S.length := List.length_filter_le _ _
theorem HPl.ins {S : List Nat} {n k q : Nat} (h : HPl S n k) (hq : q < 16777216) : HPl (insS q S) (insS q S).length (k + 1) :=
  ⟨sorted_insS h.sorted, fun a ha => by rcases mem_insS.1 ha with rfl | ha; exact hq; exact h.small a ha, rfl, by have := insS_len q S; have := h.len; have := h.few; omega⟩
theorem HPl.del {S : List Nat} {n k q : Nat} (h : HPl S n k) : HPl (delS q S) (delS q S).length (k + 1) :=
  ⟨sorted_delS h.sorted, fun a ha => h.small a (mem_delS.1 ha).1, rfl, by have := delS_len q S; have := h.len; have := h.few; omega⟩
theorem HPl.same {S : List Nat} {n k : Nat} (h : HPl S n k) : HPl S n (k + 1) := ⟨h.sorted, h.small, h.len, by have := h.few; omega⟩
theorem HPl.nil (k : Nat) : HPl [] 0 k := ⟨List.Pairwise.nil, fun _ h => (nomatch h), rfl, Nat.zero_le _⟩
attribute [local irreducible] setS addS okN memS remS errN insS delS nextS listS wordS fromS
set_option maxHeartbeats 4000000 in
theorem hplays_c {w0 : World} (hT : Tab w0) {va vb : Value} {za : List Int} {xs : List OpH} (hva : IntArg w0 va za) (hvb : RowsArg c2 (fun _ => True) w0 vb xs) (z1 z2 z3 z4 : Int) :
    Calls Tryd.prog 8 #[va, vb, .int .i64 z1, .int .i64 z2, .int .i64 z3, .int .i64 z4] w0 (LawPost w0) := by
  obtain ⟨A, na, ca, rfl, hlen, hnc, hcm, hra, hba⟩ := hva
  obtain ⟨C, cb, rfl, hncb, hcmb, hrb, _⟩ := hvb
  subst hlen
  have hlm : za.length ≤ maxLen := by omega
  unfold maxLen at hcm hcmb
  have hs := St.start w0
  clear hba
  by_cases h51 : 60 < za.length
  · go_enter Tryd.func8, Tryd.ntmps8
    go_wp2_with (first
      | (go_at_call 9; refine (awake2 (hT.grew hs.below)).mono ?_; rintro e w' ⟨rfl, hg⟩; replace hs := hs.grew hg; clear hg))
    go_ret
    exact ⟨rfl, hs⟩
  obtain ⟨S1, HS1⟩ : ∃ S, Hid (setS za = S) := ⟨_, rfl⟩
  obtain ⟨n1, HN1⟩ : ∃ n, Hid (S1.length = n) := ⟨_, rfl⟩
  have hn1 : n1 ≤ 60 := by have := setS_len za; rw [HS1.out, HN1.out] at this; omega
  have hP1 : S1.Pairwise (· < ·) := HS1.out ▸ setS_sorted za
  have hQ1 : ∀ a ∈ S1, a < 16777216 := HS1.out ▸ setS_lt za
  have HP : HPl S1 n1 0 := ⟨hP1, hQ1, HN1.out, hn1⟩
  clear hP1 hQ1
  go_enter Tryd.func8, Tryd.ntmps8
  go_wp2_with (first
    | (go_at_call 9; refine (awake2 (hT.grew hs.below)).mono ?_; rintro e w' ⟨rfl, hg⟩; replace hs := hs.grew hg; clear hg)
    | (go_at_call 10; refine (new_v hs (hra.any _) hlm rfl HS1).mono ?_; clear hs; rintro e w1 ⟨T, rfl, hs⟩)
    | (go_at_call 22; refine (rset_n hs (hra.any _) rfl (by omega) HS1 HN1).mono ?_; clear hs; rintro e w3 ⟨A3, cap3, rfl, hs⟩; replace hs := hs.rot))
  go_loopw [14, 15] (fun sv cv wr => ∃ (k n cap : Nat) (B : Option Addr) (S : List Nat), k ≤ xs.length ∧ k ≤ 60 ∧ sv = .slice B n cap ∧ cv = .int .i64 (k : Nat) ∧ HPl S n k ∧ St w0 [HSet T S, own B n cap 3 1 (intv S)] wr) (fun _ cv _ => xs.length - (intOf cv).toNat)
  case atStart => exact ⟨0, n1, cap3, A3, S1, Nat.zero_le _, Nat.zero_le _, rfl, rfl, HP, hs⟩
  case round =>
    clear hs HP hn1 HS1 HN1
    obtain ⟨k, n, cap, B, S, hk, hk2, rfl, rfl, HP, hs⟩ := hrel
    have hP := Lib.hid HP.sorted
    have hQ := Lib.hid HP.small
    have hN := Lib.hid HP.len
    have hn2 : n ≤ 1000 := by have := HP.few; omega
    by_cases hlt : k < xs.length ∧ k < 60
    · obtain ⟨hkx, hk60⟩ := hlt
      obtain ⟨o, ho⟩ : ∃ o, xs[k]? = some o := ⟨_, List.getElem?_eq_getElem hkx⟩
      have hcell := fun j x hx => hrb.get (rows_get (C := 2) (encX := c2) (fun _ => rfl) ho j x hx)
      obtain ⟨b, off, rfl, _⟩ := hcell 0 _ rfl
      have hld : ∀ j x, (c2 o)[j]? = some x → Rd w0 [] ⟨b, off + k * 2 + j, none⟩ x := fun j x hx => by
        obtain ⟨b', o', he, hr⟩ := hcell j x hx
        injection he with he
        injection he with e1 e2
        subst e1; subst e2
        rw [Nat.add_assoc]; exact hr
      clear hcell ho
      obtain ⟨ok, z⟩ := o
      go_upto_region 11 with (first
        | (refine wpl_load_agg (cs := c2 (ok, z)) (b := b) (o := off + k * 2) rfl agg2 (size2 _) hs ?hh ?_; case hh => exact fun j x hx => (hld j x hx).tail.tail)
        | (refine wpl_alloc zero2 hs ?_; clear hs; intro g w hs; replace hs : St w0 [blk g (c2 (0, 0)).toArray 46, HSet T S, own B n cap 3 1 (intv S)] w := hs)
        | (refine wpl_store_agg (v := .agg (c2 (ok, z)).toArray) rfl rfl (size2 _) hs WrA.slot2 ?_; clear hs; intro w hs))
      replace hs := hs.rot.ent (Ent.cons _ (Ent.swap _ _ _))
      have hr0 : ∀ X Y : As, Rd w0 [X, Y, blk g (c2 (ok, z)).toArray 46] ⟨g, 0, none⟩ (.int .i64 ok) := fun X Y => (Rd.blk (by rfl)).tail.tail
      have hr1 : ∀ X Y : As, Rd w0 [X, Y, blk g (c2 (ok, z)).toArray 46] ⟨g, 1, none⟩ (.int .i64 z) := fun X Y => (Rd.blk (by rfl)).tail.tail
      have f0 := hr0 _ _ _ hs
      have f1 := hr1 _ _ _ hs
      clear hld
      have hk0 : ok = 0 ∨ ok = 1 ∨ ok = 2 ∨ (ok ≠ 0 ∧ ok ≠ 1 ∧ ok ≠ 2) := by omega
      simp only [Act.put, List.setIfInBounds_toArray, List.set_cons_succ, List.set_cons_zero]
      go_cut [17] (fun v wx => v = .bool (okN z) ∧ w = wx)
      case first =>
        clear HP hk0
        rcases okN_cases z with ⟨ho, h1, h2⟩ | ⟨ho, h1⟩ | ⟨ho, h1⟩
        all_goals
          go_wp2
          go_meet
          exact ⟨by first | exact congrArg Value.bool ho.symm | exact congrArg Value.bool ((decide_eq_false (by omega)).trans ho.symm), rfl⟩
      case rest =>
      obtain ⟨rfl, rfl⟩ := hcut
      obtain ⟨oz, HOZ⟩ : ∃ x, Hid (okN z = x) := ⟨_, rfl⟩
      rw [HOZ.out]
      go_upto_block 2 with (fail)
      go_cut [14] (fun sv wx => ∃ (n' cap' : Nat) (B' : Option Addr) (S' : List Nat), sv = .slice B' n' cap' ∧ HPl S' n' (k + 1) ∧ St w0 [HSet T S', own B' n' cap' 3 1 (intv S'), blk g (c2 (ok, z)).toArray 46] wx)
      case first =>
        cases oz with
        | true =>
          obtain ⟨hz1, hz2⟩ : 0 ≤ z ∧ z < 16777216 := by
            have h := HOZ.out
            unfold okN at h
            exact of_decide_eq_true h
          obtain ⟨q, hq⟩ := Int.eq_ofNat_of_zero_le hz1
          have HE : Hid (errN z = 0) := by rw [Hid]; unfold errN; rw [HOZ.out]; rfl
          obtain ⟨b0, HM⟩ : ∃ b0, Hid (memS S z = b0) := ⟨_, rfl⟩
          have HD : Hid ((okN z && !memS S z) = !b0) := by rw [Hid, HOZ.out, HM.out]; rfl
          have HQ : Hid (z = (q : Int)) := hq
          have h2n : q < 16777216 := by omega
          clear hz1 hz2 HOZ hq
          rcases hk0 with rfl | rfl | rfl | ⟨hk0, hk1, hk2⟩
          · obtain ⟨S', HS'⟩ : ∃ S', Hid (insS q S = S') := ⟨_, rfl⟩
            obtain ⟨n', HN'⟩ : ∃ n', Hid (S'.length = n') := ⟨_, rfl⟩
            have HP2 := HP.ins (q := q) h2n
            rw [HS'.out, HN'.out] at HP2
            have HA : Hid (addS S z = S') := by rw [Hid, HQ.out, addS_in (by omega) (by omega), Int.toNat_natCast]; exact HS'.out
            clear HP h2n
            go_wp2_with (first
              | (go_at_call 24; refine (rin_w hP hN hn2 hs HM).mono ?_; clear f0 f1; rintro e w5 ⟨rfl, hg⟩; replace hs := hs.grew hg; clear hg; have f0 := hr0 _ _ _ hs; have f1 := hr1 _ _ _ hs)
              | (go_at_call 17; refine (add_v hs HD HE HA).mono ?_; clear hs f0 f1; rintro e w8 ⟨rfl, hs⟩; have f0 := hr0 _ _ _ hs; have f1 := hr1 _ _ _ hs)
              | (go_at_call 18; refine (remove_v hs HM HE HA).mono ?_; clear hs f0 f1; rintro e w8 ⟨rfl, hs⟩; have f0 := hr0 _ _ _ hs; have f1 := hr1 _ _ _ hs)
              | (go_at_call 25; refine (rwith_z hP hN hn2 hs.rot HQ HS' HN').mono ?_; clear hs f0 f1; rintro e w8 ⟨B', cap', rfl, hs⟩; replace hs := hs.rot; have f0 := hr0 _ _ _ hs; have f1 := hr1 _ _ _ hs)
              | (go_at_call 26; refine (rwithout_w hP hQ hN hn2 hs.rot HA HN').mono ?_; clear hs f0 f1; rintro e w8 ⟨B', cap', rfl, hs⟩; replace hs := hs.rot; have f0 := hr0 _ _ _ hs; have f1 := hr1 _ _ _ hs))
            go_meet
            exact ⟨n', cap', B', S', rfl, HP2, hs⟩
          · obtain ⟨S', HS'⟩ : ∃ S', Hid (delS q S = S') := ⟨_, rfl⟩
            obtain ⟨n', HN'⟩ : ∃ n', Hid (S'.length = n') := ⟨_, rfl⟩
            have HP2 := HP.del (q := q)
            rw [HS'.out, HN'.out] at HP2
            have HA : Hid (remS S z = S') := by rw [Hid, HQ.out, remS_in h2n]; exact HS'.out
            clear HP h2n
            go_wp2_with (first
              | (go_at_call 24; refine (rin_w hP hN hn2 hs HM).mono ?_; clear f0 f1; rintro e w5 ⟨rfl, hg⟩; replace hs := hs.grew hg; clear hg; have f0 := hr0 _ _ _ hs; have f1 := hr1 _ _ _ hs)
              | (go_at_call 17; refine (add_v hs HD HE HA).mono ?_; clear hs f0 f1; rintro e w8 ⟨rfl, hs⟩; have f0 := hr0 _ _ _ hs; have f1 := hr1 _ _ _ hs)
              | (go_at_call 18; refine (remove_v hs HM HE HA).mono ?_; clear hs f0 f1; rintro e w8 ⟨rfl, hs⟩; have f0 := hr0 _ _ _ hs; have f1 := hr1 _ _ _ hs)
              | (go_at_call 25; refine (rwith_z hP hN hn2 hs.rot HQ HS' HN').mono ?_; clear hs f0 f1; rintro e w8 ⟨B', cap', rfl, hs⟩; replace hs := hs.rot; have f0 := hr0 _ _ _ hs; have f1 := hr1 _ _ _ hs)
              | (go_at_call 26; refine (rwithout_w hP hQ hN hn2 hs.rot HA HN').mono ?_; clear hs f0 f1; rintro e w8 ⟨B', cap', rfl, hs⟩; replace hs := hs.rot; have f0 := hr0 _ _ _ hs; have f1 := hr1 _ _ _ hs))
            go_meet
            exact ⟨n', cap', B', S', rfl, HP2, hs⟩
          · skip
            have HP2 := HPl.nil (k + 1)
            clear HP
            go_wp2_with (first
              | (go_at_call 20; refine (clear_h hs).mono ?_; clear hs f0 f1; rintro e w8 ⟨rfl, hs⟩; replace hs : St w0 [HSet T [], own none 0 0 3 1 (intv []), blk g (c2 (2, z)).toArray 46] w8 := ((hs.rot.drop).own_nil 3 1).rot; have f0 := hr0 _ _ _ hs; have f1 := hr1 _ _ _ hs))
            go_meet
            exact ⟨0, 0, none, [], rfl, HP2, hs⟩
          · skip
            have hr0' : ∀ X Y Z : As, Rd w0 [X, Y, Z, blk g (c2 (ok, z)).toArray 46] ⟨g, 0, none⟩ (.int .i64 ok) := fun X Y Z => (Rd.blk (by rfl)).tail.tail.tail
            have hr1' : ∀ X Y Z : As, Rd w0 [X, Y, Z, blk g (c2 (ok, z)).toArray 46] ⟨g, 1, none⟩ (.int .i64 z) := fun X Y Z => (Rd.blk (by rfl)).tail.tail.tail
            have HP2 := HP.same
            obtain ⟨d3, HD3⟩ : ∃ d, Hid ((okN z && !memS S z) = d) := ⟨_, rfl⟩
            obtain ⟨e3, HE3⟩ : ∃ d, Hid (errN z = d) := ⟨_, rfl⟩
            obtain ⟨S3, HA3⟩ : ∃ d, Hid (addS S z = d) := ⟨_, rfl⟩
            obtain ⟨v3, HV3⟩ : ∃ d, Hid (nextS S 0 = d) := ⟨_, rfl⟩
            obtain ⟨d4, HM4⟩ : ∃ d, Hid (memS S3 v3 = d) := ⟨_, rfl⟩
            obtain ⟨e4, HE4⟩ : ∃ d, Hid (errN v3 = d) := ⟨_, rfl⟩
            obtain ⟨S4, HR4⟩ : ∃ d, Hid (remS S3 v3 = d) := ⟨_, rfl⟩
            clear HP
            go_wp2_with (first
              | (go_at_call 23; refine (copy_h hs).mono ?_; clear f0 f1; rintro e w7 ⟨T3, rfl, hm⟩; replace hs := hs.made hm; clear hm; have f0 := hr0' _ _ _ _ hs; have f1 := hr1' _ _ _ _ hs)
              | (go_at_call 19; refine (hsame_g (b := true) (SetV.of hs) (SetV.of hs.rot) hP.out hQ.out hP.out hQ.out ⟨fun _ => rfl, fun _ => rfl⟩).mono ?_; clear f0 f1; rintro e w6 ⟨rfl, hg⟩; replace hs := hs.grew hg; clear hg; have f0 := hr0' _ _ _ _ hs; have f1 := hr1' _ _ _ _ hs)
              | (go_at_call 17; refine (add_v hs HD3 HE3 HA3).mono ?_; clear hs f0 f1; rintro e w8 ⟨rfl, hs⟩; have f0 := hr0' _ _ _ _ hs; have f1 := hr1' _ _ _ _ hs)
              | (go_at_call 27; refine (rnext_w hP hN hn2 hs.drop.drop HV3).mono ?_; clear f0 f1; rintro e w5 ⟨rfl, hg⟩; replace hs := hs.grew hg; clear hg; have f0 := hr0' _ _ _ _ hs; have f1 := hr1' _ _ _ _ hs)
              | (go_at_call 18; refine (remove_v hs HM4 HE4 HR4).mono ?_; clear hs f0 f1; rintro e w8 ⟨rfl, hs⟩; have f0 := hr0' _ _ _ _ hs; have f1 := hr1' _ _ _ _ hs))
            replace hs := hs.drop
            go_meet
            exact ⟨n, cap, B, S, rfl, HP2, hs⟩
        | false =>
          have hzo : ¬ (0 ≤ z ∧ z < 16777216) := by
            have h := HOZ.out
            unfold okN at h
            exact of_decide_eq_false h
          have HM : Hid (memS S z = false) := memS_out HP.small hzo
          have HE : Hid (errN z = 1) := by rw [Hid]; unfold errN; rw [HOZ.out]; rfl
          have HD : Hid ((okN z && !memS S z) = false) := by rw [Hid, HOZ.out]; rfl
          have HS' : True := trivial
          have HQ : True := trivial
          have HN' := hN
          rcases hk0 with rfl | rfl | rfl | ⟨hk0, hk1, hk2⟩
          · have HA : Hid (addS S z = S) := by rw [Hid]; unfold addS; rw [HOZ.out]; rfl
            have HP2 := HP.same
            clear HP HOZ hzo
            go_wp2_with (first
              | (go_at_call 24; refine (rin_w hP hN hn2 hs HM).mono ?_; clear f0 f1; rintro e w5 ⟨rfl, hg⟩; replace hs := hs.grew hg; clear hg; have f0 := hr0 _ _ _ hs; have f1 := hr1 _ _ _ hs)
              | (go_at_call 17; refine (add_v hs HD HE HA).mono ?_; clear hs f0 f1; rintro e w8 ⟨rfl, hs⟩; have f0 := hr0 _ _ _ hs; have f1 := hr1 _ _ _ hs)
              | (go_at_call 18; refine (remove_v hs HM HE HA).mono ?_; clear hs f0 f1; rintro e w8 ⟨rfl, hs⟩; have f0 := hr0 _ _ _ hs; have f1 := hr1 _ _ _ hs)
              | (go_at_call 25; refine (rwith_z hP hN hn2 hs.rot HQ HS' HN').mono ?_; clear hs f0 f1; rintro e w8 ⟨B', cap', rfl, hs⟩; replace hs := hs.rot; have f0 := hr0 _ _ _ hs; have f1 := hr1 _ _ _ hs)
              | (go_at_call 26; refine (rwithout_w hP hQ hN hn2 hs.rot HA HN').mono ?_; clear hs f0 f1; rintro e w8 ⟨B', cap', rfl, hs⟩; replace hs := hs.rot; have f0 := hr0 _ _ _ hs; have f1 := hr1 _ _ _ hs))
            go_meet
            exact ⟨n, cap, B, S, rfl, HP2, hs⟩
          · have HA : Hid (remS S z = S) := by rw [Hid]; unfold remS; rw [HOZ.out]; rfl
            have HP2 := HP.same
            clear HP HOZ hzo
            go_wp2_with (first
              | (go_at_call 24; refine (rin_w hP hN hn2 hs HM).mono ?_; clear f0 f1; rintro e w5 ⟨rfl, hg⟩; replace hs := hs.grew hg; clear hg; have f0 := hr0 _ _ _ hs; have f1 := hr1 _ _ _ hs)
              | (go_at_call 17; refine (add_v hs HD HE HA).mono ?_; clear hs f0 f1; rintro e w8 ⟨rfl, hs⟩; have f0 := hr0 _ _ _ hs; have f1 := hr1 _ _ _ hs)
              | (go_at_call 18; refine (remove_v hs HM HE HA).mono ?_; clear hs f0 f1; rintro e w8 ⟨rfl, hs⟩; have f0 := hr0 _ _ _ hs; have f1 := hr1 _ _ _ hs)
              | (go_at_call 25; refine (rwith_z hP hN hn2 hs.rot HQ HS' HN').mono ?_; clear hs f0 f1; rintro e w8 ⟨B', cap', rfl, hs⟩; replace hs := hs.rot; have f0 := hr0 _ _ _ hs; have f1 := hr1 _ _ _ hs)
              | (go_at_call 26; refine (rwithout_w hP hQ hN hn2 hs.rot HA HN').mono ?_; clear hs f0 f1; rintro e w8 ⟨B', cap', rfl, hs⟩; replace hs := hs.rot; have f0 := hr0 _ _ _ hs; have f1 := hr1 _ _ _ hs))
            go_meet
            exact ⟨n, cap', B', S, rfl, HP2, hs⟩
          · skip
            have HP2 := HPl.nil (k + 1)
            clear HP
            go_wp2_with (first
              | (go_at_call 20; refine (clear_h hs).mono ?_; clear hs f0 f1; rintro e w8 ⟨rfl, hs⟩; replace hs : St w0 [HSet T [], own none 0 0 3 1 (intv []), blk g (c2 (2, z)).toArray 46] w8 := ((hs.rot.drop).own_nil 3 1).rot; have f0 := hr0 _ _ _ hs; have f1 := hr1 _ _ _ hs))
            go_meet
            exact ⟨0, 0, none, [], rfl, HP2, hs⟩
          · skip
            have hr0' : ∀ X Y Z : As, Rd w0 [X, Y, Z, blk g (c2 (ok, z)).toArray 46] ⟨g, 0, none⟩ (.int .i64 ok) := fun X Y Z => (Rd.blk (by rfl)).tail.tail.tail
            have hr1' : ∀ X Y Z : As, Rd w0 [X, Y, Z, blk g (c2 (ok, z)).toArray 46] ⟨g, 1, none⟩ (.int .i64 z) := fun X Y Z => (Rd.blk (by rfl)).tail.tail.tail
            have HP2 := HP.same
            obtain ⟨d3, HD3⟩ : ∃ d, Hid ((okN z && !memS S z) = d) := ⟨_, rfl⟩
            obtain ⟨e3, HE3⟩ : ∃ d, Hid (errN z = d) := ⟨_, rfl⟩
            obtain ⟨S3, HA3⟩ : ∃ d, Hid (addS S z = d) := ⟨_, rfl⟩
            obtain ⟨v3, HV3⟩ : ∃ d, Hid (nextS S 0 = d) := ⟨_, rfl⟩
            obtain ⟨d4, HM4⟩ : ∃ d, Hid (memS S3 v3 = d) := ⟨_, rfl⟩
            obtain ⟨e4, HE4⟩ : ∃ d, Hid (errN v3 = d) := ⟨_, rfl⟩
            obtain ⟨S4, HR4⟩ : ∃ d, Hid (remS S3 v3 = d) := ⟨_, rfl⟩
            clear HP
            go_wp2_with (first
              | (go_at_call 23; refine (copy_h hs).mono ?_; clear f0 f1; rintro e w7 ⟨T3, rfl, hm⟩; replace hs := hs.made hm; clear hm; have f0 := hr0' _ _ _ _ hs; have f1 := hr1' _ _ _ _ hs)
              | (go_at_call 19; refine (hsame_g (b := true) (SetV.of hs) (SetV.of hs.rot) hP.out hQ.out hP.out hQ.out ⟨fun _ => rfl, fun _ => rfl⟩).mono ?_; clear f0 f1; rintro e w6 ⟨rfl, hg⟩; replace hs := hs.grew hg; clear hg; have f0 := hr0' _ _ _ _ hs; have f1 := hr1' _ _ _ _ hs)
              | (go_at_call 17; refine (add_v hs HD3 HE3 HA3).mono ?_; clear hs f0 f1; rintro e w8 ⟨rfl, hs⟩; have f0 := hr0' _ _ _ _ hs; have f1 := hr1' _ _ _ _ hs)
              | (go_at_call 27; refine (rnext_w hP hN hn2 hs.drop.drop HV3).mono ?_; clear f0 f1; rintro e w5 ⟨rfl, hg⟩; replace hs := hs.grew hg; clear hg; have f0 := hr0' _ _ _ _ hs; have f1 := hr1' _ _ _ _ hs)
              | (go_at_call 18; refine (remove_v hs HM4 HE4 HR4).mono ?_; clear hs f0 f1; rintro e w8 ⟨rfl, hs⟩; have f0 := hr0' _ _ _ _ hs; have f1 := hr1' _ _ _ _ hs))
            replace hs := hs.drop
            go_meet
            exact ⟨n, cap, B, S, rfl, HP2, hs⟩
      case rest =>
        clear hs f0 f1
        obtain ⟨n', cap', B', S', rfl, HP2, hs⟩ := hcut
        clear hk0 HP
        have hP2 := Lib.hid HP2.sorted
        have hQ2 := Lib.hid HP2.small
        have hN2 := Lib.hid HP2.len
        have hn3 : n' ≤ 1000 := by have := HP2.few; omega
        obtain ⟨c, HC⟩ : ∃ c, Hid (memS S' z = c) := ⟨_, rfl⟩
        have f1 := hr1 _ _ _ hs
        go_upto_region 35 with (fail)
        refine wp_region_grow (by kernel_rfl) (by kernel_rfl) fun hne => ?_
        have g1 := fun p : GW _ => p.grew.cell f1
        repeat (go_big_quiet_step ((first
          | (go_at_call 14; exact in_gsame (hlen_v (hs.grew (GW.grew _)) hN2))
          | (go_at_call 28; exact in_grew (has_gv (hs.grew (GW.grew _)) HC))
          | (go_at_call 24; exact in_grew (rin_w hP2 hN2 hn3 (hs.grew (GW.grew _)) HC)))))
        refine wpQuiet_nil ?_
        clear hne g1 f1
        intro u hu
        replace hs := hs.grew hu
        clear hu
        go_wp2
        go_loopw [22] (fun jv wr => ∃ j : Int, 0 ≤ j ∧ j ≤ 4 ∧ jv = .int .i64 j ∧ St w0 [HSet T S', own B' n' cap' 3 1 (intv S'), blk g (c2 (ok, z)).toArray 46] wr) (fun jv _ => 4 - (intOf jv).toNat)
        case atStart => exact ⟨0, by decide, by decide, rfl, hs⟩
        case round =>
          clear hs
          obtain ⟨j, hj1, hj4, rfl, hs⟩ := hrel
          have h4 : j = 0 ∨ j = 1 ∨ j = 2 ∨ j = 3 ∨ j = 4 := by omega
          clear hj1 hj4
          have f1 := hr1 _ _ _ hs
          rcases h4 with rfl | rfl | rfl | rfl | rfl
          · skip
            obtain ⟨x, HX⟩ : ∃ x, Hid (wordS S' 0 (z / 64) = x) := ⟨_, rfl⟩
            go_wp2
            refine wp_region_grow (by kernel_rfl) (by kernel_rfl) fun hne => ?_
            have g1 := fun p : GW _ => p.grew.cell f1
            repeat (go_big_quiet_step ((first
              | (go_at_call 11; exact in_grew (hword_v (hs.grew (GW.grew _)) HX))
              | (go_at_call 29; exact in_grew (rword_w hP2 hQ2 hN2 hn3 (hs.drop.grew (GW.grew _)) HX)))))
            refine wpQuiet_nil ?_
            clear hne g1 f1
            intro u hu
            replace hs := hs.grew hu
            clear hu
            go_wp2
            go_roundw
            case rel => exact ⟨0 + 1, by decide, by decide, rfl, hs⟩
            case measure => simp [intOf] <;> omega
          · skip
            obtain ⟨x, HX⟩ : ∃ x, Hid (wordS S' 1 (z / 4096) = x) := ⟨_, rfl⟩
            go_wp2
            refine wp_region_grow (by kernel_rfl) (by kernel_rfl) fun hne => ?_
            have g1 := fun p : GW _ => p.grew.cell f1
            repeat (go_big_quiet_step ((first
              | (go_at_call 11; exact in_grew (hword_v (hs.grew (GW.grew _)) HX))
              | (go_at_call 29; exact in_grew (rword_w hP2 hQ2 hN2 hn3 (hs.drop.grew (GW.grew _)) HX)))))
            refine wpQuiet_nil ?_
            clear hne g1 f1
            intro u hu
            replace hs := hs.grew hu
            clear hu
            go_wp2
            go_roundw
            case rel => exact ⟨1 + 1, by decide, by decide, rfl, hs⟩
            case measure => simp [intOf] <;> omega
          · skip
            obtain ⟨x, HX⟩ : ∃ x, Hid (wordS S' 2 (z / 262144) = x) := ⟨_, rfl⟩
            go_wp2
            refine wp_region_grow (by kernel_rfl) (by kernel_rfl) fun hne => ?_
            have g1 := fun p : GW _ => p.grew.cell f1
            repeat (go_big_quiet_step ((first
              | (go_at_call 11; exact in_grew (hword_v (hs.grew (GW.grew _)) HX))
              | (go_at_call 29; exact in_grew (rword_w hP2 hQ2 hN2 hn3 (hs.drop.grew (GW.grew _)) HX)))))
            refine wpQuiet_nil ?_
            clear hne g1 f1
            intro u hu
            replace hs := hs.grew hu
            clear hu
            go_wp2
            go_roundw
            case rel => exact ⟨2 + 1, by decide, by decide, rfl, hs⟩
            case measure => simp [intOf] <;> omega
          · skip
            obtain ⟨x, HX⟩ : ∃ x, Hid (wordS S' 3 (z / 16777216) = x) := ⟨_, rfl⟩
            go_wp2
            refine wp_region_grow (by kernel_rfl) (by kernel_rfl) fun hne => ?_
            have g1 := fun p : GW _ => p.grew.cell f1
            repeat (go_big_quiet_step ((first
              | (go_at_call 11; exact in_grew (hword_v (hs.grew (GW.grew _)) HX))
              | (go_at_call 29; exact in_grew (rword_w hP2 hQ2 hN2 hn3 (hs.drop.grew (GW.grew _)) HX)))))
            refine wpQuiet_nil ?_
            clear hne g1 f1
            intro u hu
            replace hs := hs.grew hu
            clear hu
            go_wp2
            go_roundw
            case rel => exact ⟨3 + 1, by decide, by decide, rfl, hs⟩
            case measure => simp [intOf] <;> omega
          · go_wp2
            go_roundw
            case rel =>
              exact ⟨k + 1, n', cap', B', S', by omega, by omega, rfl, by go_num, HP2, (hs.ent (Ent.skip (Ent.skip (Ent.refl _)))).drop⟩
            case measure => simp [intOf] <;> omega
    · have hs0 := hs
      obtain ⟨v, HV⟩ : ∃ d, Hid (nextS S z1 = d) := ⟨_, rfl⟩
      obtain ⟨l, HLi⟩ : ∃ d, Hid (listS S z1 z2 = d) := ⟨_, rfl⟩
      obtain ⟨m, HLn⟩ : ∃ d, Hid (l.length = d) := ⟨_, rfl⟩
      obtain ⟨x, HX⟩ : ∃ d, Hid (wordS S z3 z4 = d) := ⟨_, rfl⟩
      have hm4 : m ≤ 1000 := by
        have h1 : l.length ≤ S.length := by
          have h2 := HLi.out
          rw [← h2]
          unfold listS fromS
          exact Nat.le_trans (List.length_take_le' _ _) (List.length_filter_le _ _)
        rw [HLn.out, hN.out] at h1
        omega
      clear HP hs0
      by_cases h3 : k < xs.length
      · have h4 : ¬ k < 60 := fun h => hlt ⟨h3, h⟩
        clear hlt
        go_wp2_with (first
          | (go_at_call 30; refine (lsame_c (hT.grew hs.below) hN hn2 hs).mono ?_; rintro e w6 ⟨rfl, hg⟩; replace hs := hs.grew hg; clear hg)
          | (go_at_call 15; refine (next_v hs (hT.grew hs.below) HV).mono ?_; rintro e w' ⟨rfl, hg⟩; replace hs := hs.grew hg; clear hg)
          | (go_at_call 27; refine (rnext_w hP hN hn2 hs.drop HV).mono ?_; rintro e w5 ⟨rfl, hg⟩; replace hs := hs.grew hg; clear hg)
          | (go_at_call 13; refine (hlist_n hs (hT.grew hs.below) HLi HLn).mono ?_; rintro e w' ⟨B4, cap4, rfl, hm⟩; replace hs := (hs.made hm).ent (Ent.skip (Ent.skip (Ent.refl _))); clear hm)
          | (go_at_call 31; refine (rlist_c hP.out hN.out (by omega) hs HLi HLn).mono ?_; clear hs; rintro e w' ⟨B5, cap5, rfl, hs⟩)
          | (go_at_call 21; refine (rsame_c (b := true) HLn.out HLn.out (by omega) hs (RdS.own hs.drop.drop).tail.tail (RdS.own hs) ⟨fun _ => rfl, fun _ => rfl⟩).mono ?_; rintro e w5 ⟨rfl, hg⟩; replace hs := (hs.grew hg).drop.rot.drop.rot; clear hg)
          | (go_at_call 11; refine (hword_v hs HX).mono ?_; rintro e w' ⟨rfl, hg⟩; replace hs := hs.grew hg; clear hg)
          | (go_at_call 29; refine (rword_w hP hQ hN hn2 hs.drop HX).mono ?_; rintro e w' ⟨rfl, hg⟩; replace hs := hs.grew hg; clear hg))
        go_ret
        exact ⟨rfl, hs.drop.drop⟩
      · clear hlt
        go_wp2_with (first
          | (go_at_call 30; refine (lsame_c (hT.grew hs.below) hN hn2 hs).mono ?_; rintro e w6 ⟨rfl, hg⟩; replace hs := hs.grew hg; clear hg)
          | (go_at_call 15; refine (next_v hs (hT.grew hs.below) HV).mono ?_; rintro e w' ⟨rfl, hg⟩; replace hs := hs.grew hg; clear hg)
          | (go_at_call 27; refine (rnext_w hP hN hn2 hs.drop HV).mono ?_; rintro e w5 ⟨rfl, hg⟩; replace hs := hs.grew hg; clear hg)
          | (go_at_call 13; refine (hlist_n hs (hT.grew hs.below) HLi HLn).mono ?_; rintro e w' ⟨B4, cap4, rfl, hm⟩; replace hs := (hs.made hm).ent (Ent.skip (Ent.skip (Ent.refl _))); clear hm)
          | (go_at_call 31; refine (rlist_c hP.out hN.out (by omega) hs HLi HLn).mono ?_; clear hs; rintro e w' ⟨B5, cap5, rfl, hs⟩)
          | (go_at_call 21; refine (rsame_c (b := true) HLn.out HLn.out (by omega) hs (RdS.own hs.drop.drop).tail.tail (RdS.own hs) ⟨fun _ => rfl, fun _ => rfl⟩).mono ?_; rintro e w5 ⟨rfl, hg⟩; replace hs := (hs.grew hg).drop.rot.drop.rot; clear hg)
          | (go_at_call 11; refine (hword_v hs HX).mono ?_; rintro e w' ⟨rfl, hg⟩; replace hs := hs.grew hg; clear hg)
          | (go_at_call 29; refine (rword_w hP hQ hN hn2 hs.drop HX).mono ?_; rintro e w' ⟨rfl, hg⟩; replace hs := hs.grew hg; clear hg))
        go_ret
        exact ⟨rfl, hs.drop.drop⟩
end Go.Proofs.YtdcihfofdjckjaaDoor
