/-
  The contracts of a set's Add and New.
-/
import Derived.Test.YtkcbjkadalebjaaHib
import Derived.Deep.DeepCutAuto
import Derived.Deep.RegionWith
set_option maxRecDepth 100000
namespace Go.Proofs.Ytkcbjkadalebjaa
open Go Go.RowKit
attribute [local irreducible] wpList Calls Code.wp

theorem wpl_build0 {P : Program} {ops : Array Oper} {Q : Exit → Act → World → Prop} {a : Act} {w : World} {rest : List Oper} {dst : Option Tmp} {ty : TypeId} {pos : String} {after : Array Edge} {t : TypeId} {z : Value}
    (hz : ∀ w, (Instr.build t #[]).run P w = .ok z w) (next : wpList P ops Q rest (a.put dst z) w) : wpList P ops Q (⟨dst, .build t #[], ty, pos, after, none⟩ :: rest) a w :=
  wpList_plain rfl fun K hK => by
    unfold Oper.wp execOp
    simp only [List.map_toArray, List.map_nil, Sem.run_bind, hz w, Result.andThen_ok, Sem.run_pure]
    exact hK _ _ next
theorem cell_alloc_some (w : World) (a : Addr) (o : Obj) (h : (w.cell? a).isSome = true) : (w.alloc o).cell? a = w.cell? a := by
  obtain ⟨u, hu⟩ := Option.isSome_iff_exists.1 h
  exact World.cell?_alloc_lt _ _ _ (World.block_lt_of_cell? w a hu)
theorem frozen_alloc_some (w : World) (a : Addr) (o : Obj) (h : (w.cell? a).isSome = true) : (w.alloc o).frozen? a = w.frozen? a := by
  obtain ⟨u, hu⟩ := Option.isSome_iff_exists.1 h
  have := World.block_lt_of_cell? w a hu
  exact World.frozen?_alloc_old _ _ _ (by omega)
def nodeZ : Value := .agg zeroCells.toArray
def setZ : Value := .agg (zeroCells ++ [Value.int .i64 0]).toArray
theorem build_node (w : World) : (Instr.build 67 #[]).run Try.prog w = .ok nodeZ w := by kernel_rfl
theorem build_set (w : World) : (Instr.build 69 #[]).run Try.prog w = .ok setZ w := by kernel_rfl
theorem size_word : (Try.prog.info? 63).map (·.size) = some 1 := by kernel_rfl
theorem size_int : (Try.prog.info? 3).map (·.size) = some 1 := by kernel_rfl
theorem size_kid : (Try.prog.info? 64).map (·.size) = some 1 := by kernel_rfl
theorem one_word : one1 Try.prog 63 = true := by kernel_rfl
theorem one_kid : one1 Try.prog 64 = true := by kernel_rfl
theorem one_int : one1 Try.prog 3 = true := by kernel_rfl

/-- How far Add has come: the levels above m have the number's digit, its way is laid down to level m. -/
structure AddInv (T : Nat) (S : List Nat) (i m : Nat) (ks : List Key) (G : Key → Option Nat) (W : Key → Nat) (g : Nat) : Prop where
  nodup : ks.Nodup
  mem : ∀ k, k ∈ ks ↔ G k ≠ none
  top : G (3, 0) = some T
  lev : ∀ k ∈ ks, k.1 ≤ 3 ∧ (k.1 = 3 → k.2 = 0)
  there : ∀ k : Key, k.1 < 3 → (G k ≠ none ↔ wordOf S k ≠ 0 ∨ (m ≤ k.1 ∧ k.2 = plc i k.1))
  word : ∀ k : Key, k.1 ≤ 3 → W k = if m < k.1 then wordOf (insS i S) k else wordOf S k
  here : G (m, plc i m) = some g
  low : m ≤ 3
section
variable {T : Nat} {S : List Nat} {i m g : Nat} {ks : List Key} {G : Key → Option Nat} {W : Key → Nat}
theorem Fits.add (hf : Fits T S ks G W) (hi : i < 16777216) : AddInv T S i 3 ks G W T where
  nodup := hf.nodup
  mem := hf.mem
  top := hf.top
  lev := hf.lev
  there k hk := by rw [hf.there k hk]; exact ⟨.inl, fun h => h.resolve_right fun ⟨h, _⟩ => by omega⟩
  word k hk := by rw [hf.word k hk, if_neg (by omega)]
  here := by rw [plc_3 hi, hf.top]
  low := Nat.le_refl _
theorem AddInv.in_ks (h : AddInv T S i m ks G W g) : (m, plc i m) ∈ ks := (h.mem _).2 (by rw [h.here]; exact Option.some_ne_none g)
theorem AddInv.word_here (h : AddInv T S i m ks G W g) : W (m, plc i m) = wordOf S (m, plc i m) := by rw [h.word _ h.low, if_neg (Nat.lt_irrefl _)]
/-- The words, the digit put. -/
theorem AddInv.words (h : AddInv T S i m ks G W g) {x : Nat} (hx : x = wordOf S (m, plc i m) ||| oneW (dig i m : Nat)) (k : Key) (hk : k.1 ≤ 3) : upd W (m, plc i m) x k = if m ≤ k.1 then wordOf (insS i S) k else wordOf S k := by
  obtain ⟨l, p⟩ := k
  by_cases e : (l, p) = (m, plc i m)
  · rw [e, upd_same, if_pos (Nat.le_refl _), hx, wordOf_ins]
    exact (if_pos rfl).symm
  · rw [upd_other _ _ e, h.word _ hk]
    by_cases h1 : m < l
    · rw [if_pos h1, if_pos (Nat.le_of_lt h1)]
    · rw [if_neg h1]
      by_cases h2 : m ≤ l
      · have hml : l = m := Nat.le_antisymm (Nat.not_lt.1 h1) h2
        subst hml
        have hp : p ≠ plc i l := fun hp => e (by rw [hp])
        rw [if_pos h2, wordOf_ins]
        exact (if_neg hp).symm
      · rw [if_neg h2]
theorem AddInv.old (h : AddInv T S i (m + 1) ks G W g) {x g' : Nat} (hx : x = wordOf S (m + 1, plc i (m + 1)) ||| oneW (dig i (m + 1) : Nat)) (hg : G (m, plc i m) = some g') : AddInv T S i m ks G (upd W (m + 1, plc i (m + 1)) x) g' where
  nodup := h.nodup
  mem := h.mem
  top := h.top
  lev := h.lev
  there k hk := by
    rw [h.there k hk]
    constructor
    · rintro (h1 | ⟨h1, h2⟩)
      · exact .inl h1
      · exact .inr ⟨by omega, h2⟩
    · rintro (h1 | ⟨h1, h2⟩)
      · exact .inl h1
      · by_cases e : m + 1 ≤ k.1
        · exact .inr ⟨e, h2⟩
        · have e1 : k.1 = m := by omega
          have e2 : k = (m, plc i m) := Prod.ext e1 (by rw [h2, e1])
          refine (h.there k hk).1 ?_
          rw [e2, hg]
          exact Option.some_ne_none g'
  word k hk := by rw [h.words hx k hk]; rfl
  here := hg
  low := Nat.le_of_succ_le h.low
theorem AddInv.no_word (h : AddInv T S i (m + 1) ks G W g) (hg : G (m, plc i m) = none) : wordOf S (m, plc i m) = 0 :=
  Classical.byContradiction fun hw => (h.there (m, plc i m) (by have := h.low; simp only; omega)).2 (.inl hw) hg
theorem AddInv.no_kids (h : AddInv T S i (m + 1) ks G W g) (hg : G (m, plc i m) = none) (hm : m ≠ 0) (e : Nat) (he : e < 64) : G (m - 1, 64 * plc i m + e) = none := by
  refine Classical.byContradiction fun hno => ?_
  have hl := h.low
  rcases (h.there (m - 1, 64 * plc i m + e) (by simp only; omega)).1 hno with h1 | ⟨h1, _⟩
  · obtain ⟨k, rfl⟩ : ∃ k, m = k + 1 := ⟨m - 1, by omega⟩
    have h2 := (wordOf_below (S := S) (l := k) (p := plc i (k + 1)) he).2 h1
    rw [h.no_word hg] at h2
    simp at h2
  · simp only at h1; omega
theorem AddInv.new (h : AddInv T S i (m + 1) ks G W g) {x g' : Nat} (hx : x = wordOf S (m + 1, plc i (m + 1)) ||| oneW (dig i (m + 1) : Nat)) (hg : G (m, plc i m) = none) :
    AddInv T S i m ((m, plc i m) :: ks) (upd G (m, plc i m) (some g')) (upd W (m + 1, plc i (m + 1)) x) g' where
  nodup := List.nodup_cons.2 ⟨fun hm => (h.mem _).1 hm hg, h.nodup⟩
  mem k := by
    by_cases e : k = (m, plc i m)
    · rw [e, upd_same]; simp
    · rw [upd_other _ _ e, ← h.mem, List.mem_cons]; exact ⟨fun h => h.resolve_left e, .inr⟩
  top := by rw [upd_other _ _ (by have := h.low; intro e; injection e; omega)]; exact h.top
  lev k hk := by
    rcases List.mem_cons.1 hk with e | hk
    · subst e; have := h.low; simp only; exact ⟨by omega, by omega⟩
    · exact h.lev k hk
  there k hk := by
    by_cases e : k = (m, plc i m)
    · rw [e, upd_same]; simp
    · rw [upd_other _ _ e, h.there k hk]
      constructor
      · rintro (h1 | ⟨h1, h2⟩)
        · exact .inl h1
        · exact .inr ⟨by omega, h2⟩
      · rintro (h1 | ⟨h1, h2⟩)
        · exact .inl h1
        · refine .inr ⟨?_, h2⟩
          rcases Nat.eq_or_lt_of_le h1 with h3 | h3
          · exact absurd (Prod.ext h3.symm (by rw [h2, ← h3])) e
          · exact h3
  word k hk := by rw [h.words hx k hk]; rfl
  here := upd_same _ _ _
  low := Nat.le_of_succ_le h.low
theorem AddInv.done (h : AddInv T S i 0 ks G W g) {x : Nat} (hx : x = wordOf S (0, plc i 0) ||| oneW (dig i 0 : Nat)) (hS : S.Pairwise (· < ·)) (hs : ∀ a ∈ S, a < 16777216) (hi : i < 16777216) : Fits T (insS i S) ks G (upd W (0, plc i 0) x) where
  nodup := h.nodup
  mem := h.mem
  top := h.top
  lev := h.lev
  there := fun ⟨l, p⟩ hk => by
    rw [h.there _ hk, wordOf_ne, wordOf_ne]
    constructor
    · rintro (⟨j, hj, h1⟩ | ⟨_, h2⟩)
      · exact ⟨j, mem_insS.2 (.inr hj), h1⟩
      · exact ⟨i, mem_insS.2 (.inl rfl), h2.symm⟩
    · rintro ⟨j, hj, h1⟩
      rcases mem_insS.1 hj with rfl | hj
      · exact .inr ⟨Nat.zero_le _, h1.symm⟩
      · exact .inl ⟨j, hj, h1⟩
  word k hk := by rw [h.words hx k hk, if_pos (Nat.zero_le _)]
  sorted := sorted_insS hS
  small a ha := by
    rcases mem_insS.1 ha with rfl | ha
    · exact hi
    · exact hs a ha
end
theorem sorted_len {N : Nat} : ∀ {l : List Nat} {a : Nat}, l.Pairwise (· < ·) → (∀ i ∈ l, a ≤ i ∧ i < N) → l.length ≤ N - a
  | [], _, _, _ => Nat.zero_le _
  | b :: l, a, hs, h => by
    rw [List.pairwise_cons] at hs
    have hb := h b (by simp)
    have := sorted_len (l := l) (a := b + 1) hs.2 fun i hi => ⟨hs.1 i hi, (h i (by simp [hi])).2⟩
    simp only [List.length_cons]
    omega
/-- What Add answers, and what it leaves. -/
def okN (i : Int) : Bool := decide (0 ≤ i ∧ i < 16777216)
def addS (S : List Nat) (i : Int) : List Nat := if okN i then insS i.toNat S else S
def errN (i : Int) : Int := if okN i then 0 else 1
set_option maxHeartbeats 1000000 in
theorem add_in {w0 w : World} {L : List As} {T : Nat} {S : List Nat} (hs : St w0 (HSet T S :: L) w) (i : Nat) (hi : i < 16777216) (hno : i ∉ S) :
    Calls Try.prog 24 #[.pointer (some ⟨T, 0, none⟩), .int .i64 i] w fun e w' => e = .returned (.tuple #[.bool true, .int .i64 0]) ∧ St w0 (HSet T (insS i S) :: L) w' := by
  have HOK : Hid (decide ((0 : Int) ≤ (i : Int) ∧ (i : Int) < 16777216) = true) := by rw [Hid]; simp; omega
  have HM : Hid (memS S (i : Int) = false) := by
    rw [Hid, ← Bool.not_eq_true, memS_nat]; exact hno
  go_enter Try.func24, Try.ntmps24
  go_wp2_with (first
    | (go_at_call 37; refine (ok_c _ _).mono ?_; rw [HOK.out]; rintro e w' ⟨rfl, rfl⟩)
    | (go_at_call 18; refine (has_s hs HM).mono ?_; clear hs; rintro e w ⟨rfl, hs⟩))
  obtain ⟨ks, G, W, hf, hs⟩ := hs.hopen
  have HA := hf.add hi
  have HF := Lib.hid (show S.Pairwise (· < ·) ∧ (∀ a ∈ S, a < 16777216) from ⟨hf.sorted, hf.small⟩)
  clear hf
  go_loopw [6, 7] (fun nd lv wr => ∃ m ks G W g, AddInv T S i m ks G W g ∧ lv = .int .i64 (m : Nat) ∧ nd = .pointer (some ⟨g, 0, none⟩) ∧ St w0 (tbl ks G W S.length :: L) wr) (fun _ lv _ => (intOf lv).toNat)
  case atStart => exact ⟨3, ks, G, W, T, HA, rfl, rfl, hs⟩
  case round =>
    clear hs HA
    obtain ⟨m, ks, G, W, g, HA, rfl, rfl, hs⟩ := hrel
    cases m with
    | zero =>
      have hd := dig_lt i 0
      have HD := Lib.hid fun w => digit_c i 0 (by omega) (by omega) w
      obtain ⟨d, hdd⟩ : ∃ d, d = dig i 0 := ⟨_, rfl⟩
      have hrw := Rd.tbl_word (w0 := w0) (L := L) (W := W) (n := S.length) HA.in_ks HA.here
      rw [HA.word_here] at hrw
      have hxl := wordOf_lt S (0, plc i 0)
      obtain ⟨y, hy⟩ : ∃ y, y = wordOf S (0, plc i 0) ||| oneW (dig i 0 : Nat) := ⟨_, rfl⟩
      have HY : Hid (wordOf S (0, plc i 0) ||| allW [(d : Int)] = y) := by rw [Hid, hy, hdd]; simp [allW]
      have hww := Wr.tbl_word (w0 := w0) (L := L) (W := W) (n := S.length) HA.nodup HA.in_ks HA.here y
      have HDN := Lib.hid (HA.done hy HF.out.1 HF.out.2 hi)
      have HL := Lib.hid (len_insS hno)
      have hln := sorted_len (N := 16777216) (a := 0) HF.out.1 fun a ha => ⟨Nat.zero_le _, HF.out.2 a ha⟩
      have hln2 : (S.length : Int) ≤ 16777216 := by omega
      clear hln
      have hk3 : (3, 0) ∈ ks := (HA.mem _).2 (by rw [HA.top]; exact Option.some_ne_none T)
      have hrn := Rd.tbl_n (w0 := w0) (L := L) (W := upd W (0, plc i 0) y) (n := S.length) hk3 HA.top
      have hwn := Wr.tbl_n (w0 := w0) (L := L) (W := upd W (0, plc i 0) y) (n := S.length) HA.nodup hk3 HA.top (fun j hj => (HA.lev j hj).2) (S.length + 1)
      rw [← hdd] at hd HD
      generalize wordOf S (0, plc i 0) = x at hrw hxl HY
      clear hy hdd HA hk3
      rw [show ((S.length + 1 : Nat) : Int) = (S.length : Int) + 1 by push_cast; rfl] at hwn
      have hc := hrw _ hs
      have hfz := (hww.use hs).2.1
      go_wp2
      have hca : ∀ o, (wr.alloc o).cell? ⟨g, 0, none⟩ = some (.int .u64 (x : Nat)) := fun o => by rw [cell_alloc_some _ _ _ (by rw [hc]; rfl)]; exact hc
      have hfa : ∀ o, (wr.alloc o).frozen? ⟨g, 0, none⟩ = false := fun o => by rw [frozen_alloc_some _ _ _ (by rw [hc]; rfl)]; exact hfz
      go_cut [61] (fun _ w => St w0 (tbl ks G (upd W (0, plc i 0) y) S.length :: L) w)
      case first =>
        clear hrn hwn HDN HL hln2
        go_region_with (first
            | (go_at_call 39; refine (HD.out _).mono ?_; rintro e w' ⟨rfl, rfl⟩)
            | (go_at_call 42; refine (with_1 hxl HY (hs.alloc _ _).drew).mono ?_; rintro e w' ⟨rfl, rfl⟩))
        all_goals
          go_wp2
          go_meet
          exact ((hww.tail (p := blk wr.heap.size #[.int .i64 (d : Nat)] 3)).use (hs.alloc #[.int .i64 (d : Nat)] 3)).2.2.drop.drew
      case rest =>
        clear hs hc hfz hca hfa hww hrw HD HY
        have hs := hcut
        have hc2 := hrn _ hs
        go_wp2_with (first | (refine wpl_store rfl rfl rfl size_int hs hwn ?_; clear hs hc2 hwn; intro w3 hs3))
        go_ret2
        exact ⟨rfl, by rw [← HL.out] at hs3; exact hs3.hshut HDN.out⟩
    | succ m =>
      have hm3 := HA.low
      have hd := dig_lt i (m + 1)
      have HD := Lib.hid fun w => digit_c i (m + 1) (by omega) hm3 w
      obtain ⟨d, hdd⟩ : ∃ d, d = dig i (m + 1) := ⟨_, rfl⟩
      have hrw : ∀ L, Rd w0 (tbl ks G W S.length :: L) ⟨g, 0, none⟩ _ := fun L => Rd.tbl_word (w0 := w0) (L := L) (W := W) (n := S.length) HA.in_ks HA.here
      rw [HA.word_here] at hrw
      have hxl := wordOf_lt S (m + 1, plc i (m + 1))
      obtain ⟨y, hy⟩ : ∃ y, y = wordOf S (m + 1, plc i (m + 1)) ||| oneW (dig i (m + 1) : Nat) := ⟨_, rfl⟩
      have HY : Hid (wordOf S (m + 1, plc i (m + 1)) ||| allW [(d : Int)] = y) := by rw [Hid, hy, hdd]; simp [allW]
      have hww := Wr.tbl_word (w0 := w0) (L := L) (W := W) (n := S.length) HA.nodup HA.in_ks HA.here y
      have hrk := Rd.tbl_kid (w0 := w0) (L := L) (W := upd W (m + 1, plc i (m + 1)) y) (n := S.length) HA.in_ks HA.here hd
      rw [kid_next] at hrk
      rw [← hdd] at hd HD hrk
      generalize wordOf S (m + 1, plc i (m + 1)) = x at hrw hxl HY
      cases hg : G (m, plc i m) with
      | some g' =>
        have HA2 := HA.old hy hg
        have e : ptrV (G (m, plc i m)) = .pointer (some ⟨g', 0, none⟩) := by rw [hg]; rfl
        rw [e] at hrk
        clear HA hg e hy hdd
        have hc := hrw _ _ hs
        go_wp2_with (first
          | (go_at_call 39; refine (HD.out _).mono ?_; rintro e w' ⟨rfl, rfl⟩)
          | (refine wpl_build1 (v := .int .i64 (d : Nat)) elem24 (by decide) rfl rfl hs ?_; clear hs hc; intro g2 w hs)
          | (go_at_call 42; refine (with_1 hxl HY hs).mono ?_; rintro e w' ⟨rfl, rfl⟩; replace hs := hs.drop)
          | (refine wpl_store rfl rfl rfl size_word hs hww ?_; clear hs; intro w hs; have hc2 := hrk _ hs))
        go_roundw
        case rel => exact ⟨m, ks, G, _, g', HA2, by go_num, rfl, hs⟩
        case measure => simp [intOf] <;> omega
      | none =>
        have hno : (m, plc i m) ∉ ks := fun h => (HA.mem _).1 h hg
        have e : ptrV (G (m, plc i m)) = .pointer none := by rw [hg]; rfl
        rw [e] at hrk
        have hpn : 64 * plc i (m + 1) + d = plc i m := by rw [hdd]; exact plc_next i m
        have hw0 : upd W (m + 1, plc i (m + 1)) y (m, plc i m) = 0 := by
          rw [upd_other _ _ (by intro e; injection e; omega), HA.word _ (by simp only; omega), if_neg (by simp only; omega)]
          exact HA.no_word hg
        have hwk : ∀ g', Wr w0 (blk g' zeroCells.toArray 67 :: tbl ks G (upd W (m + 1, plc i (m + 1)) y) S.length :: L) ⟨g, 1 + d, none⟩ (.pointer (some ⟨g', 0, none⟩)) (tbl ((m, plc i m) :: ks) (upd G (m, plc i m) (some g')) (upd W (m + 1, plc i (m + 1)) y) S.length :: L) := fun g' => by
          have := Wr.tbl_new (w0 := w0) (L := L) (W := upd W (m + 1, plc i (m + 1)) y) (n := S.length) (g' := g') HA.nodup HA.in_ks HA.here (Nat.succ_ne_zero m) hm3 hd
            (by rw [Nat.add_sub_cancel, hpn]; exact hno) (by rw [Nat.add_sub_cancel, hpn]; exact hw0) (by rw [Nat.add_sub_cancel, hpn]; exact fun h e he => HA.no_kids hg h e he)
          rw [Nat.add_sub_cancel, hpn] at this
          exact this
        have HA2 := Lib.hid fun g' => HA.new (g' := g') hy hg
        have hrk2 : ∀ g', Rd w0 (tbl ((m, plc i m) :: ks) (upd G (m, plc i m) (some g')) (upd W (m + 1, plc i (m + 1)) y) S.length :: L) ⟨g, 1 + d, none⟩ (.pointer (some ⟨g', 0, none⟩)) := fun g' => by
          have := Rd.tbl_kid (w0 := w0) (L := L) (k := (m + 1, plc i (m + 1))) (g := g) (ks := (m, plc i m) :: ks) (G := upd G (m, plc i m) (some g')) (W := upd W (m + 1, plc i (m + 1)) y) (n := S.length) (List.mem_cons_of_mem _ HA.in_ks)
            (by rw [upd_other _ _ (by intro e; injection e; omega)]; exact HA.here) hd
          rw [hdd, kid_next, upd_same, ← hdd] at this
          exact this
        clear HA hg e hy hdd hno hpn hw0
        have hc := hrw _ _ hs
        go_wp2_with (first
          | (go_at_call 39; refine (HD.out _).mono ?_; rintro e w' ⟨rfl, rfl⟩)
          | (refine wpl_build1 (v := .int .i64 (d : Nat)) elem24 (by decide) rfl rfl hs ?_; clear hs hc; intro g2 w hs)
          | (go_at_call 42; refine (with_1 hxl HY hs).mono ?_; rintro e w' ⟨rfl, rfl⟩; replace hs := hs.drop)
          | (refine wpl_store rfl rfl rfl size_word hs hww ?_; clear hs; intro w hs; have hc2 := hrk _ hs)
          | (refine wpl_build0 build_node ?_)
          | (refine wpl_box hs ?_; clear hs hc2; intro g3 w hs)
          | (refine wpl_store rfl rfl rfl size_kid hs (hwk g3) ?_; clear hs; intro w hs; have hc3 := hrk2 g3 _ hs))
        go_roundw
        case rel => exact ⟨m, _, _, _, g3, HA2.out g3, by go_num, rfl, hs⟩
        case measure => simp [intOf] <;> omega
end Go.Proofs.Ytkcbjkadalebjaa
