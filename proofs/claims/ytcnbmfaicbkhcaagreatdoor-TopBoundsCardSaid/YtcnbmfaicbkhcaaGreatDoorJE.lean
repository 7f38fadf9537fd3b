/-
  XJE: joined of XExLaw XEx XEx2 XEx3 XEx4 XEx5 XEx6 XEx7 XEx8 XExS.
-/
import Derived.Test.YtcnbmfaicbkhcaaGreatDoorJA
import Derived.Test.YtcnbmfaicbkhcaaGreatDoorJC
import Derived.Deep.DeepCutAuto
import Derived.Deep.CutBlock
import Derived.Test.YtcnbmfaicbkhcaaGreatDoorJU
import Derived.Test.YtcnbmfaicbkhcaaGreatDoorJW
/-
  Expressions, plain law: nodes, what numbers a node has, words of nodes. No program stands here.
-/
set_option maxRecDepth 100000
namespace Go.Proofs.YtcnbmfaicbkhcaaGreatDoor
open Go

/-- A node of an arena: its kind (1 a set, 2 and, 3 or, 4 xor, 5 not), its kids. -/
structure NodeE where
  k : Nat
  kids : List Nat
def notW (x : Nat) : Nat := 18446744073709551615 - x
/-- What kids' words come to. -/
def joinW (k : Nat) (l : List Nat) : Nat := l.foldl (fun w v => if k = 2 then w &&& v else if k = 3 then w ||| v else w ^^^ v) (if k = 2 then 18446744073709551615 else 0)
def joinB (k : Nat) (l : List Bool) : Bool := l.foldl (fun w v => if k = 2 then w && v else if k = 3 then w || v else w ^^ v) (decide (k = 2))
/-- A node's word, of the words ahead of it; sets' words by their numbers. -/
def wordE (sw : Nat → Nat) (x : NodeE) (ws : List Nat) : Nat :=
  if x.k = 1 then sw (x.kids.headD 0) else if x.k = 5 then notW (ws.getD (x.kids.headD 0) 0) else joinW x.k (x.kids.map fun i => ws.getD i 0)
def wordsE (sw : Nat → Nat) (l : List NodeE) : List Nat := l.foldl (fun ws x => ws ++ [wordE sw x ws]) []
/-- Has a node a number? -/
def tellE (sb : Nat → Bool) (x : NodeE) (bs : List Bool) : Bool :=
  if x.k = 1 then sb (x.kids.headD 0) else if x.k = 5 then !bs.getD (x.kids.headD 0) false else joinB x.k (x.kids.map fun i => bs.getD i false)
def tellsE (sb : Nat → Bool) (l : List NodeE) : List Bool := l.foldl (fun bs x => bs ++ [tellE sb x bs]) []
theorem notW_lt (x : Nat) : notW x < 2 ^ 64 := by unfold notW; omega
theorem notW_bit {x d : Nat} (hx : x < 2 ^ 64) (hd : d < 64) : (notW x).testBit d = !x.testBit d := by
  have e : notW x = 2 ^ 64 - (x + 1) := by unfold notW; omega
  rw [e, Nat.testBit_two_pow_sub_succ hx, decide_eq_true hd, Bool.true_and]
theorem full_bit {d : Nat} (hd : d < 64) : (18446744073709551615 : Nat).testBit d = true := by
  have : (18446744073709551615 : Nat) = 2 ^ 64 - 1 := by decide
  rw [this, Nat.testBit_two_pow_sub_one, decide_eq_true hd]
theorem joinW_bit_aux {k d : Nat} : ∀ (l : List Nat) (w : Nat) (b : Bool), w.testBit d = b →
    (l.foldl (fun w v => if k = 2 then w &&& v else if k = 3 then w ||| v else w ^^^ v) w).testBit d = (l.map fun v => v.testBit d).foldl (fun w v => if k = 2 then w && v else if k = 3 then w || v else w ^^ v) b
  | [], _, _, h => h
  | v :: l, w, b, h => by
    simp only [List.foldl_cons, List.map_cons]
    refine joinW_bit_aux l _ _ ?_
    split
    · rw [Nat.testBit_and, h]
    · split
      · rw [Nat.testBit_or, h]
      · rw [Nat.testBit_xor, h]
theorem joinW_bit {k d : Nat} (hd : d < 64) (l : List Nat) : (joinW k l).testBit d = joinB k (l.map fun v => v.testBit d) := by
  unfold joinW joinB
  refine joinW_bit_aux l _ _ ?_
  split
  · rename_i h; rw [full_bit hd, decide_eq_true h]
  · rename_i h; rw [decide_eq_false h]; exact Nat.zero_testBit d
theorem joinW_lt_aux {k : Nat} : ∀ (l : List Nat) (w : Nat), w < 2 ^ 64 → (∀ v ∈ l, v < 2 ^ 64) →
    l.foldl (fun w v => if k = 2 then w &&& v else if k = 3 then w ||| v else w ^^^ v) w < 2 ^ 64
  | [], _, h, _ => h
  | v :: l, w, h, hl => by
    rw [List.foldl_cons]
    have hv := hl v List.mem_cons_self
    refine joinW_lt_aux l _ ?_ fun u hu => hl u (List.mem_cons_of_mem _ hu)
    split
    · exact Nat.and_lt_two_pow _ hv
    · split
      · exact Nat.or_lt_two_pow h hv
      · exact Nat.xor_lt_two_pow h hv
theorem joinW_lt {k : Nat} {l : List Nat} (h : ∀ v ∈ l, v < 2 ^ 64) : joinW k l < 2 ^ 64 := joinW_lt_aux l _ (by split <;> decide) h
theorem getD_bit (ws : List Nat) (i d : Nat) : (ws.getD i 0).testBit d = (ws.map fun v => v.testBit d).getD i false := by
  rw [List.getD_eq_getElem?_getD, List.getD_eq_getElem?_getD, List.getElem?_map]
  cases ws[i]? with
  | none => exact Nat.zero_testBit d
  | some v => rfl
theorem getD_lt {ws : List Nat} (h : ∀ v ∈ ws, v < 2 ^ 64) (i : Nat) : ws.getD i 0 < 2 ^ 64 := by
  rw [List.getD_eq_getElem?_getD]
  cases he : ws[i]? with
  | none => decide
  | some v => exact h v (List.mem_of_getElem? he)
theorem wordE_lt {sw : Nat → Nat} (hs : ∀ s, sw s < 2 ^ 64) (x : NodeE) {ws : List Nat} (h : ∀ v ∈ ws, v < 2 ^ 64) : wordE sw x ws < 2 ^ 64 := by
  unfold wordE
  split
  · exact hs _
  · split
    · exact notW_lt _
    · exact joinW_lt fun v hv => by
        obtain ⟨i, _, rfl⟩ := List.mem_map.1 hv
        exact getD_lt h i
theorem wordE_bit {sw : Nat → Nat} {d : Nat} (hd : d < 64) (x : NodeE) {ws : List Nat} (h : ∀ v ∈ ws, v < 2 ^ 64) : (wordE sw x ws).testBit d = tellE (fun s => (sw s).testBit d) x (ws.map fun v => v.testBit d) := by
  unfold wordE tellE
  split
  · rfl
  · split
    · rw [notW_bit (getD_lt h _) hd, getD_bit]
    · rw [joinW_bit hd, List.map_map]
      congr 1
      refine List.map_congr_left fun i _ => ?_
      exact getD_bit ws i d
theorem wordsE_aux {sw : Nat → Nat} (hs : ∀ s, sw s < 2 ^ 64) {d : Nat} (hd : d < 64) : ∀ (l : List NodeE) (ws : List Nat), (∀ v ∈ ws, v < 2 ^ 64) →
    (∀ v ∈ l.foldl (fun ws x => ws ++ [wordE sw x ws]) ws, v < 2 ^ 64) ∧
    (l.foldl (fun ws x => ws ++ [wordE sw x ws]) ws).map (fun v => v.testBit d) = l.foldl (fun bs x => bs ++ [tellE (fun s => (sw s).testBit d) x bs]) (ws.map fun v => v.testBit d)
  | [], _, h => ⟨h, rfl⟩
  | x :: l, ws, h => by
    rw [List.foldl_cons, List.foldl_cons]
    have := wordsE_aux hs hd l (ws ++ [wordE sw x ws]) fun v hv => by
      rcases List.mem_append.1 hv with h1 | h1
      · exact h v h1
      · rw [List.mem_singleton.1 h1]; exact wordE_lt hs x h
    refine ⟨this.1, ?_⟩
    rw [this.2, List.map_append, List.map_cons, List.map_nil, wordE_bit hd x h]
/-- Words of nodes, number by number. -/
theorem wordsE_bit {sw : Nat → Nat} (hs : ∀ s, sw s < 2 ^ 64) {d : Nat} (hd : d < 64) (l : List NodeE) (n : Nat) : ((wordsE sw l).getD n 0).testBit d = (tellsE (fun s => (sw s).testBit d) l).getD n false := by
  rw [getD_bit]
  congr 1
  exact (wordsE_aux hs hd l [] fun _ h => nomatch h).2
end Go.Proofs.YtcnbmfaicbkhcaaGreatDoor

/-
  Expressions (expr.Arena): the memory of an Arena; Clone; the test of kids.
-/
set_option maxRecDepth 100000
namespace Go.Proofs.YtcnbmfaicbkhcaaGreatDoor
open Go Go.RowKit
attribute [local irreducible] wpList Calls Code.wp

def ints (l : List Int) : List Value := l.map (Value.int .i64)
theorem ints_len (l : List Int) : (ints l).length = l.length := by simp [ints]
theorem ints_one' (l : List Int) : ∀ u ∈ ints l, u.oneCell' = true := by
  intro u hu
  obtain ⟨i, _, rfl⟩ := List.mem_map.1 hu
  rfl
theorem eql_sl_nil (w : World) : (binOp .eql 22 (.slice none 0 0) (.slice none 0 0)).run Tryz.prog w = .ok (.bool true) w := by kernel_rfl
theorem eql_sl_some (a : Addr) (n cap : Nat) (w : World) : (binOp .eql 22 (.slice (some a) n cap) (.slice none 0 0)).run Tryz.prog w = .ok (.bool false) w := by kernel_rfl
/-- slices.Clone: another slice with the same (nil for nil). -/
theorem clone_c {w0 w : World} {L : List As} {A : Option Addr} {n cap : Nat} {l : List Int} (hA : A = none → n = 0 ∧ cap = 0) (hn : l.length = n) (hm : n ≤ 4000000000) (hs : St w0 L w) (hr : RdS w0 L A (ints l)) :
    Calls Tryz.prog 76 #[.slice A n cap] w fun e w' => ∃ B cap', e = .returned (.slice B n cap') ∧ St w0 (own B n cap' 3 1 (ints l) :: L) w' := by
  have HN := Lib.hid hn
  clear hn
  cases A with
  | none =>
    obtain ⟨rfl, rfl⟩ := hA rfl
    have he := eql_sl_nil
    have hl : l = [] := List.eq_nil_of_length_eq_zero HN.out
    subst hl
    have hs2 := Lib.hid (hs.own_nil 3 1)
    clear hA hr
    go_enter Tryz.func76, Tryz.ntmps76
    go_wp2
    go_ret
    exact ⟨none, 0, rfl, hs2.out⟩
  | some a =>
    have he := eql_sl_some a n cap
    clear hA
    go_enter Tryz.func76, Tryz.ntmps76
    go_wp2_with (first
      | (refine wpl_build_none elem24 hs ?_; clear hs; intro B w hs)
      | (refine wpl_append (n := 0) (m := n) (news := ints l) elem24 rfl rfl hs (Ent.refl _) hr.tail (by rw [ints_len, HN.out, Nat.mul_one]) (ints_one' _) (by unfold maxLen; omega) (by omega) ?_; clear hs; intro B2 cap2 w hs))
    go_ret
    rw [Nat.zero_add, List.nil_append] at hs
    exact ⟨B2, cap2, by first | rfl | (rw [Nat.zero_add]; rfl), hs⟩
end Go.Proofs.YtcnbmfaicbkhcaaGreatDoor

/-
  Expressions (expr.Arena), 2: the memory of an Arena; the test of kids.
-/
set_option maxRecDepth 100000
namespace Go.Proofs.YtcnbmfaicbkhcaaGreatDoor
open Go Go.RowKit
attribute [local irreducible] wpList Calls Code.wp

abbrev ptr (g : Nat) : Value := .pointer (some ⟨g, 0, none⟩)

/-! ### The test of kids -/
def bad (n : Nat) (x : Int) : Bool := decide (x < 0) || decide ((n : Int) ≤ x)
def clo (g : Nat) : Value := .func (Fn.func 306) #[] #[ptr g]
theorem any_takeE {n : Nat} {l : List Int} {k : Nat} {x : Int} (hk : l[k]? = some x) : (l.take (k + 1)).any (bad n) = ((l.take k).any (bad n) || bad n x) := by
  obtain ⟨hl, he⟩ := List.getElem?_eq_some_iff.1 hk
  rw [List.take_succ_eq_append_getElem hl, he, List.any_append]
  simp
theorem indexf_c {w : World} {g D : Nat} {A N : Option Addr} {m cap n cap2 : Nat} {l : List Int} (hm : Hid (l.length = m)) (hm2 : m ≤ 4000000000) (hr : ∀ k x, l[k]? = some x → ∃ b o, A = some ⟨b, o, none⟩ ∧ w.cell? ⟨b, o + k, none⟩ = some (.int .i64 x))
    (hg : w.cell? ⟨g, 0, none⟩ = some (ptr D)) (hD : w.cell? ⟨D, 0, none⟩ = some (.slice N n cap2)) :
    Calls Tryz.prog 286 #[.slice A m cap, clo g] w fun e w' => ∃ z, e = .returned (.int .i64 z) ∧ decide (0 ≤ z) = l.any (bad n) ∧ w' = w := by
  unfold clo ptr at *
  go_enter Tryz.func286, Tryz.ntmps286
  go_wp2
  go_loopw [8] (fun cv wr => ∃ k : Nat, k ≤ m ∧ cv = .int .i64 (k : Nat) ∧ Hid ((l.take k).any (bad n) = false) ∧ w = wr) (fun cv _ => m - (intOf cv).toNat)
  case atStart => exact ⟨0, Nat.zero_le _, rfl, rfl, rfl⟩
  case round =>
    obtain ⟨k, hk, rfl, HT, rfl⟩ := hrel
    by_cases hlt : k < m
    · obtain ⟨x, hx⟩ : ∃ x, l[k]? = some x := ⟨_, List.getElem?_eq_getElem (by rw [hm.out]; exact hlt)⟩
      obtain ⟨b, o, rfl, hc⟩ := hr k x hx
      have HN := Lib.hid (any_takeE (n := n) hx)
      clear hr hx
      have hb1 : ∀ y : Int, bad n x = true → decide (0 ≤ ((k : Nat) : Int)) = l.any (bad n) := fun _ hb => by
        rw [decide_eq_true (Int.natCast_nonneg k)]
        symm
        have h3 := HN.out
        rw [hb, Bool.or_true] at h3
        rw [← List.take_append_drop (k + 1) l, List.any_append, h3, Bool.true_or]
      by_cases h1 : x < 0
      · have hb := hb1 0 (by unfold bad; rw [decide_eq_true h1, Bool.true_or])
        clear hb1
        go_wp2
        go_ret
        exact ⟨_, rfl, hb, rfl⟩
      · by_cases h3 : (n : Int) ≤ x
        · have hb := hb1 0 (by unfold bad; rw [decide_eq_true h3, Bool.or_true])
          clear hb1
          go_wp2
          go_ret
          exact ⟨_, rfl, hb, rfl⟩
        · have HT2 : Hid ((l.take (k + 1)).any (bad n) = false) := by
            rw [Hid, HN.out, HT.out]
            unfold bad
            rw [decide_eq_false h1, decide_eq_false h3]
            rfl
          clear hb1
          go_wp2
          go_roundw
          case rel => exact ⟨k + 1, by omega, rfl, HT2, trivial⟩
          case measure => simp [intOf] <;> omega
    · have hkm : k = m := by omega
      subst hkm
      go_wp2
      go_ret
      have h3 := HT.out
      rw [List.take_of_length_le (by rw [hm.out]; exact Nat.le_refl _)] at h3
      exact ⟨_, rfl, h3.symm, rfl⟩
theorem containsf_c {w : World} {g D : Nat} {A N : Option Addr} {m cap n cap2 : Nat} {l : List Int} (hm : Hid (l.length = m)) (hm2 : m ≤ 4000000000) (hr : ∀ k x, l[k]? = some x → ∃ b o, A = some ⟨b, o, none⟩ ∧ w.cell? ⟨b, o + k, none⟩ = some (.int .i64 x))
    (hg : w.cell? ⟨g, 0, none⟩ = some (ptr D)) (hD : w.cell? ⟨D, 0, none⟩ = some (.slice N n cap2)) :
    Calls Tryz.prog 229 #[.slice A m cap, clo g] w fun e w' => e = .returned (.bool (l.any (bad n))) ∧ w' = w := by
  generalize hcl : clo g = cl
  go_enter Tryz.func229, Tryz.ntmps229
  go_wp2_with (first
    | (go_at_call 286; subst hcl; refine (indexf_c hm hm2 hr hg hD).mono ?_; rintro e w' ⟨z, rfl, hz, rfl⟩))
  go_ret
  exact ⟨rfl, rfl⟩
end Go.Proofs.YtcnbmfaicbkhcaaGreatDoor

/-
  Expressions (expr.Arena), 3: the memory of an Arena; add.
-/
set_option maxRecDepth 100000
namespace Go.Proofs.YtcnbmfaicbkhcaaGreatDoor
open Go Go.RowKit
attribute [local irreducible] wpList Calls Code.wp

/-- A node as it lies in memory: with the place of its kids. -/
structure KR where
  e : NodeE
  B : Option Addr
  cap : Nat
def kI (e : NodeE) : List Int := e.kids.map Int.ofNat
def krV (r : KR) : List Value := [.int .i64 (r.e.k : Nat), .slice r.B r.e.kids.length r.cap]
theorem krV_len (r : KR) : (krV r).length = 2 := rfl
def krA (r : KR) : As := own r.B r.e.kids.length r.cap 3 1 (ints (kI r.e))
def exC (N P : Option Addr) (n cap m cap2 : Nat) : List Value := [.slice N n cap, .slice P m cap2]
def ExB (D : Nat) (l : List NodeE) (ss : List Value) : As := fun h => ∃ (rs : List KR) (N : Option Addr) (cap : Nat) (P : Option Addr) (cap2 : Nat), rs.map KR.e = l ∧
  big (YtcnbmfaicbkhcaaGreatDoor.blk D (exC N P l.length cap ss.length cap2).toArray 377 :: YtcnbmfaicbkhcaaGreatDoor.own N l.length cap 413 2 (rs.flatMap krV) :: YtcnbmfaicbkhcaaGreatDoor.own P ss.length cap2 187 1 ss :: rs.map krA) h
theorem St.exopen {w0 w : World} {D : Nat} {l : List NodeE} {ss : List Value} {L : List As} (hs : St w0 (ExB D l ss :: L) w) : ∃ (rs : List KR) (N : Option Addr) (cap : Nat) (P : Option Addr) (cap2 : Nat), rs.map KR.e = l ∧
    St w0 (YtcnbmfaicbkhcaaGreatDoor.blk D (exC N P l.length cap ss.length cap2).toArray 377 :: YtcnbmfaicbkhcaaGreatDoor.own N l.length cap 413 2 (rs.flatMap krV) :: YtcnbmfaicbkhcaaGreatDoor.own P ss.length cap2 187 1 ss :: (rs.map krA ++ L)) w := by
  obtain ⟨hb, x, r, hd, hx, y, z, hyz, e, ⟨rs, N, cap, P, cap2, hrs, hh⟩, hz⟩ := hs
  refine ⟨rs, N, cap, P, cap2, hrs, ?_⟩
  have h1 : St w0 (big (YtcnbmfaicbkhcaaGreatDoor.blk D (exC N P l.length cap ss.length cap2).toArray 377 :: YtcnbmfaicbkhcaaGreatDoor.own N l.length cap 413 2 (rs.flatMap krV) :: YtcnbmfaicbkhcaaGreatDoor.own P ss.length cap2 187 1 ss :: rs.map krA) :: L) w := ⟨hb, x, r, hd, hx, y, z, hyz, e, hh, hz⟩
  exact h1.ent (Ent.flat _ L)
theorem Ent.exshut {D n m cap cap2 : Nat} {N P : Option Addr} {rs : List KR} {l : List NodeE} {ss : List Value} {L : List As} (hrs : rs.map KR.e = l) (hn : n = l.length) (hm : m = ss.length) :
    Ent (YtcnbmfaicbkhcaaGreatDoor.blk D (exC N P n cap m cap2).toArray 377 :: YtcnbmfaicbkhcaaGreatDoor.own N n cap 413 2 (rs.flatMap krV) :: YtcnbmfaicbkhcaaGreatDoor.own P m cap2 187 1 ss :: (rs.map krA ++ L)) (ExB D l ss :: L) := by
  subst hn hm
  exact (Ent.unflat (YtcnbmfaicbkhcaaGreatDoor.blk D (exC N P l.length cap ss.length cap2).toArray 377 :: YtcnbmfaicbkhcaaGreatDoor.own N l.length cap 413 2 (rs.flatMap krV) :: YtcnbmfaicbkhcaaGreatDoor.own P ss.length cap2 187 1 ss :: rs.map krA) L).trans (Ent.head fun _ h => ⟨rs, N, cap, P, cap2, hrs, h⟩)
theorem exRd {w0 w : World} {D n m cap cap2 : Nat} {N P : Option Addr} {t : TypeId} {L : List As} (hs : St w0 (YtcnbmfaicbkhcaaGreatDoor.blk D (exC N P n cap m cap2).toArray t :: L) w) : w.cell? ⟨D, 0, none⟩ = some (.slice N n cap) ∧ w.cell? ⟨D, 1, none⟩ = some (.slice P m cap2) := ⟨Rd.blk (by rfl) w hs, Rd.blk (by rfl) w hs⟩
theorem elemNd : ElemOk Tryz.prog 374 413 2 32 := ElemOk.of Tryz.underlying374 (z := .agg #[.int .i64 0, .slice none 0 0]) (by kernel_rfl) rfl (by decide)
theorem elemP : ElemOk Tryz.prog 375 187 1 8 := ElemOk.of Tryz.underlying375 (z := .pointer none) (by kernel_rfl) rfl (by decide)
theorem build_nodeE (k : Int) (B : Option Addr) (n cap : Nat) (w : World) : (Instr.build 413 #[(0, .int .i64 k), (1, .slice B n cap)]).run Tryz.prog w = .ok (.agg #[.int .i64 k, .slice B n cap]) w := by kernel_rfl
/-- What add answers. -/
def addOk (l : List NodeE) (k : Nat) (kids : List Int) : Bool := decide (l.length < 1000) && decide (kids.length ≤ 64) && (decide (k = 1) || !kids.any (bad l.length))
def addN (l : List NodeE) (k : Nat) (kids : List Int) : List NodeE := if addOk l k kids then l ++ [⟨k, kids.map Int.toNat⟩] else l
def addV (l : List NodeE) (k : Nat) (kids : List Int) : Int := if addOk l k kids then (l.length : Int) else -1
theorem nat_ints {kids : List Int} (h : ∀ x ∈ kids, 0 ≤ x) : (kids.map Int.toNat).map Int.ofNat = kids := by
  rw [List.map_map]
  conv => rhs; rw [← List.map_id kids]
  exact List.map_congr_left fun x hx => Int.toNat_of_nonneg (h x hx)
theorem size_slN : (Tryz.prog.info? 374).map (·.size) = some 1 := by kernel_rfl
theorem ints_get {l : List Int} {k : Nat} {x : Int} (h : l[k]? = some x) : (ints l)[k]? = some (.int .i64 x) := by unfold ints; rw [List.getElem?_map, h]; rfl
theorem ex_grown {w0 w : World} {D capN capP capB m k : Nat} {N P B : Option Addr} {rs : List KR} {l : List NodeE} {ss : List Value} {kids : List Int} {L : List As} (hrs : rs.map KR.e = l) (hnat : (kids.map Int.toNat).map Int.ofNat = kids) (hm : Hid (kids.length = m))
    (hs : St w0 (YtcnbmfaicbkhcaaGreatDoor.blk D (exC N P (l.length + 1) capN ss.length capP).toArray 377 :: YtcnbmfaicbkhcaaGreatDoor.own B m capB 3 1 (ints kids) :: YtcnbmfaicbkhcaaGreatDoor.own N (l.length + 1) capN 413 2 (rs.flatMap krV ++ [.int .i64 (k : Nat), .slice B m capB]) :: YtcnbmfaicbkhcaaGreatDoor.own P ss.length capP 187 1 ss :: (rs.map krA ++ L)) w) :
    St w0 (ExB D (l ++ [⟨k, kids.map Int.toNat⟩]) ss :: L) w := by
  have e1 : YtcnbmfaicbkhcaaGreatDoor.own B m capB 3 1 (ints kids) = krA ⟨⟨k, kids.map Int.toNat⟩, B, capB⟩ := by
    unfold krA kI
    simp only [hnat, List.length_map, hm.out]
  have e2 : rs.flatMap krV ++ [.int .i64 (k : Nat), .slice B m capB] = (rs ++ [(⟨⟨k, kids.map Int.toNat⟩, B, capB⟩ : KR)]).flatMap krV := by
    simp [krV, hm.out]
  rw [e1, e2] at hs
  refine (hs.ent (Ent.cons _ (Ent.push _ (_ :: _ :: rs.map krA) L))).ent ?_
  have := Ent.exshut (D := D) (n := l.length + 1) (m := ss.length) (cap := capN) (cap2 := capP) (N := N) (P := P) (rs := rs ++ [⟨⟨k, kids.map Int.toNat⟩, B, capB⟩]) (l := l ++ [⟨k, kids.map Int.toNat⟩]) (ss := ss) (L := L) (by simp [hrs]) (by simp) rfl
  simpa using this
set_option maxHeartbeats 1000000 in
theorem add_c {w0 w : World} {L : List As} {D : Nat} {l : List NodeE} {ss : List Value} (hs : St w0 (ExB D l ss :: L) w) {A : Option Addr} {m cap : Nat} {kids : List Int} (hA : A = none → m = 0 ∧ cap = 0) (hm : Hid (kids.length = m)) (hm2 : m ≤ 4000000000) (hr : RdS w0 (ExB D l ss :: L) A (ints kids)) {k : Nat} (hk : k = 1 → ∀ x ∈ kids, 0 ≤ x)
    {v : Int} {l' : List NodeE} (hv1 : Hid (addV l k kids = v)) (hl' : Hid (addN l k kids = l')) :
    Calls Tryz.prog 255 #[ptr D, .int .i64 (k : Nat), .slice A m cap] w fun e w' => e = .returned (.int .i64 v) ∧ St w0 (ExB D l' ss :: L) w' := by
  obtain ⟨rs, N, capN, P, capP, hrs, hs1⟩ := hs.exopen
  have HRs := Lib.hid hrs
  have hr2 := hr.ent (Ent.exshut (N := N) (P := P) (cap := capN) (cap2 := capP) (L := L) hrs rfl rfl)
  have hrd : ∀ j x, kids[j]? = some x → ∃ b o, A = some ⟨b, o, none⟩ ∧ w.cell? ⟨b, o + j, none⟩ = some (.int .i64 x) := fun j x hx => by
    obtain ⟨b, o, h3, h4⟩ := hr.get (ints_get hx)
    exact ⟨b, o, h3, h4 w hs⟩
  obtain ⟨d0, d1⟩ := exRd hs1
  clear hs hr hrs
  go_enter Tryz.func255, Tryz.ntmps255
  unfold ptr
  go_upto_region 2 with (first
    | (refine wpl_box_v (v := .pointer (some ⟨D, 0, none⟩)) rfl (St.start _) ?_; intro g3 w hw))
  have hs2 : St w0 (blk g3 #[ptr D] 232 :: _) w := hs1.made hw
  replace hr2 := hr2.tail (p := blk g3 #[ptr D] 232)
  replace d0 := hw.made_grew.cell d0
  have hrd2 : ∀ j x, kids[j]? = some x → ∃ b o, A = some ⟨b, o, none⟩ ∧ w.cell? ⟨b, o + j, none⟩ = some (.int .i64 x) := fun j x hx => by
    obtain ⟨b, o, h3, h4⟩ := hrd j x hx
    exact ⟨b, o, h3, hw.made_grew.cell h4⟩
  have g0 : w.cell? ⟨g3, 0, none⟩ = some (.pointer (some ⟨D, 0, none⟩)) := Rd.blk (by rfl) w hs2
  clear hw hrd hs1 d1
  have hno : ∀ h : addOk l k kids = false, v = -1 ∧ l' = l := fun h => by
    rw [← hv1.out, ← hl'.out]
    unfold addV addN
    rw [h]
    exact ⟨rfl, rfl⟩
  have hy : ∀ h : addOk l k kids = true, v = (l.length : Int) ∧ l' = l ++ [⟨k, kids.map Int.toNat⟩] := fun h => by
    rw [← hv1.out, ← hl'.out]
    unfold addV addN
    rw [h]
    exact ⟨rfl, rfl⟩
  clear hv1 hl'
  by_cases h1 : 1000 ≤ l.length
  · obtain ⟨rfl, rfl⟩ := hno (by unfold addOk; rw [decide_eq_false (Nat.not_lt.2 h1)]; rfl)
    clear hno hy hr2
    go_wp2
    go_ret
    exact ⟨rfl, hs2.drop.ent (Ent.exshut HRs.out rfl rfl)⟩
  · by_cases h3 : 64 < m
    · obtain ⟨rfl, rfl⟩ := hno (by unfold addOk; rw [decide_eq_false (p := kids.length ≤ 64) (by rw [hm.out]; omega), Bool.and_false]; rfl)
      clear hno hy hr2
      go_wp2
      go_ret
      exact ⟨rfl, hs2.drop.ent (Ent.exshut HRs.out rfl rfl)⟩
    · by_cases h4 : k = 1
      · subst h4
        obtain ⟨rfl, rfl⟩ := hy (by unfold addOk; rw [decide_eq_true (Nat.lt_of_not_le h1), decide_eq_true (p := kids.length ≤ 64) (by rw [hm.out]; omega)]; rfl)
        have hnat := nat_ints (hk rfl)
        clear hno hy hk
        go_upto_region 4 with (fail)
        have hsN := hs2.only2
        refine wp_region_plain [false, false, false, false, false, false, false, true, true, true, true, false, false, true] hsN (by kernel_rfl) (by kernel_rfl) fun hne => ?_
        have e0 := (Rd.blk (w0 := w0) (g := g3) (k := 0) (cs := #[ptr D]) (v := .pointer (some ⟨D, 0, none⟩)) (t := 232) (L := [YtcnbmfaicbkhcaaGreatDoor.blk D (exC N P l.length capN ss.length capP).toArray 377]) (by rfl)).alln
        have e1 := (Rd.blk (w0 := w0) (g := D) (k := 0) (cs := (exC N P l.length capN ss.length capP).toArray) (v := .slice N l.length capN) (t := 377) (L := []) (by rfl)).tail (p := YtcnbmfaicbkhcaaGreatDoor.blk g3 #[ptr D] 232) |>.alln
        simp only [pickOps]
        repeat (go_big_quiet_step (fail))
        refine wpQuiet_nil ?_
        clear hne e0 e1
        simp only [chainIx]
        replace hs2 := hs2.drew
        clear hsN
        clear d0 hrd2 g0
        refine wpChainP_next rfl ?_
        go_wp2_with (first
          | (go_at_call 76; refine (clone_c hA hm.out (by omega) hs2 hr2).mono ?_; clear hs2 hr2; rintro e w' ⟨B, capB, rfl, hs2⟩))
        refine ⟨(hs2.ent (Ent.step (Ent.skip (Ent.refl _)) (Ent.step (Ent.skip (Ent.refl _)) (Ent.refl _)))).only2, ?_⟩
        refine wpChainP_next rfl ?_
        refine wpl_buildS (build_nodeE _ _ _ _) rfl ?_
        refine wpList_nil ⟨rfl, (hs2.ent (Ent.step (Ent.skip (Ent.refl _)) (Ent.step (Ent.skip (Ent.refl _)) (Ent.refl _)))).only2, ?_⟩
        refine wpChainP_next rfl ?_
        refine wpl_build1 (v := .agg #[.int .i64 (1 : Nat), .slice B m capB]) elemNd (by decide) rfl rfl hs2 ?_
        clear hs2
        intro gb w hs2
        replace hs2 : St w0 (YtcnbmfaicbkhcaaGreatDoor.blk gb #[.int .i64 (1 : Nat), .slice B m capB] 413 :: _) w := hs2
        refine wpList_nil ⟨rfl, (hs2.ent (Ent.step (Ent.skip (Ent.skip (Ent.refl _))) (Ent.step (Ent.skip (Ent.skip (Ent.refl _))) (Ent.refl _)))).only2, ?_⟩
        refine wpChainP_next rfl ?_
        refine wpl_append (A := N) (B := some ⟨gb, 0, none⟩) (n := l.length) (m := 1) (news := [.int .i64 (1 : Nat), .slice B m capB]) elemNd rfl rfl hs2 (Ent.skip (Ent.skip (Ent.skip (Ent.skip (Ent.refl _))))) RdS.blk rfl (by intro u hu; simp at hu; rcases hu with rfl | rfl <;> rfl) (by unfold maxLen; omega) (by omega) ?_
        clear hs2
        intro N2 capN2 w hs2
        refine wpList_nil ⟨rfl, (hs2.ent (Ent.step (Ent.skip (Ent.skip (Ent.skip (Ent.refl _)))) (Ent.step (Ent.skip (Ent.skip (Ent.skip (Ent.refl _)))) (Ent.refl _)))).only2, ?_⟩
        refine wpChain_last rfl ?_
        replace hs2 := hs2.up4
        refine wpl_store (v := .slice N2 (l.length + 1) capN2) rfl rfl rfl size_slN hs2 (Wr.blk (by simp [exC])) ?_
        clear hs2
        intro w hs2
        replace hs2 : St w0 (YtcnbmfaicbkhcaaGreatDoor.blk D (exC N2 P (l.length + 1) capN2 ss.length capP).toArray 377 :: _) w := hs2
        refine wpList_nil ⟨rfl, ?_⟩
        simp only [Act.put, List.setIfInBounds_toArray, List.set_cons_succ, List.set_cons_zero]
        have f0 : w.cell? ⟨g3, 0, none⟩ = some (.pointer (some ⟨D, 0, none⟩)) := Rd.blk (by rfl) w hs2.up4
        obtain ⟨f1, _⟩ := exRd hs2
        go_wp2
        go_ret
        refine ⟨by first | rfl | (congr 2; omega), ?_⟩
        exact ex_grown HRs.out hnat hm hs2.up2.drop.up2.rot.up3.drop
      · go_upto_region 4 with (first
          | (go_at_call 229; refine (containsf_c hm (by omega) hrd2 g0 d0).mono ?_; rintro e w' ⟨rfl, rfl⟩))
        · rename_i hq
          have hany : kids.any (bad l.length) = true := by
            rcases hq with (h | h) | h
            · omega
            · omega
            · exact h.2
          obtain ⟨rfl, rfl⟩ := hno (by unfold addOk; rw [hany, decide_eq_false h4]; simp)
          go_ret
          exact ⟨rfl, hs2.drop.ent (Ent.exshut HRs.out rfl rfl)⟩
        · have hq := ‹(_ ∧ _) ∧ (((k : Int) != 1) = false ∨ kids.any (bad l.length) = false)›
          have hany : kids.any (bad l.length) = false := by
            rcases hq.2 with h | h
            · simp at h; omega
            · exact h
          obtain ⟨rfl, rfl⟩ := hy (by unfold addOk; rw [hany, decide_eq_true (Nat.lt_of_not_le h1), decide_eq_true (p := kids.length ≤ 64) (by rw [hm.out]; omega)]; simp)
          have hnat := nat_ints (kids := kids) fun x hx => by
            have := List.any_eq_false.1 hany x hx
            simp [bad] at this
            omega
          clear hno hy hk hany hq
          go_upto_region 4 with (fail)
          have hsN := hs2.only2
          refine wp_region_plain [false, false, false, false, false, false, false, true, true, true, true, false, false, true] hsN (by kernel_rfl) (by kernel_rfl) fun hne => ?_
          have e0 := (Rd.blk (w0 := w0) (g := g3) (k := 0) (cs := #[ptr D]) (v := .pointer (some ⟨D, 0, none⟩)) (t := 232) (L := [YtcnbmfaicbkhcaaGreatDoor.blk D (exC N P l.length capN ss.length capP).toArray 377]) (by rfl)).alln
          have e1 := (Rd.blk (w0 := w0) (g := D) (k := 0) (cs := (exC N P l.length capN ss.length capP).toArray) (v := .slice N l.length capN) (t := 377) (L := []) (by rfl)).tail (p := YtcnbmfaicbkhcaaGreatDoor.blk g3 #[ptr D] 232) |>.alln
          simp only [pickOps]
          repeat (go_big_quiet_step (fail))
          refine wpQuiet_nil ?_
          clear hne e0 e1
          simp only [chainIx]
          replace hs2 := hs2.drew
          clear hsN
          clear d0 hrd2 g0
          refine wpChainP_next rfl ?_
          go_wp2_with (first
            | (go_at_call 76; refine (clone_c hA hm.out (by omega) hs2 hr2).mono ?_; clear hs2 hr2; rintro e w' ⟨B, capB, rfl, hs2⟩))
          refine ⟨(hs2.ent (Ent.step (Ent.skip (Ent.refl _)) (Ent.step (Ent.skip (Ent.refl _)) (Ent.refl _)))).only2, ?_⟩
          refine wpChainP_next rfl ?_
          refine wpl_buildS (build_nodeE _ _ _ _) rfl ?_
          refine wpList_nil ⟨rfl, (hs2.ent (Ent.step (Ent.skip (Ent.refl _)) (Ent.step (Ent.skip (Ent.refl _)) (Ent.refl _)))).only2, ?_⟩
          refine wpChainP_next rfl ?_
          refine wpl_build1 (v := .agg #[.int .i64 (k : Nat), .slice B m capB]) elemNd (by decide) rfl rfl hs2 ?_
          clear hs2
          intro gb w hs2
          replace hs2 : St w0 (YtcnbmfaicbkhcaaGreatDoor.blk gb #[.int .i64 (k : Nat), .slice B m capB] 413 :: _) w := hs2
          refine wpList_nil ⟨rfl, (hs2.ent (Ent.step (Ent.skip (Ent.skip (Ent.refl _))) (Ent.step (Ent.skip (Ent.skip (Ent.refl _))) (Ent.refl _)))).only2, ?_⟩
          refine wpChainP_next rfl ?_
          refine wpl_append (A := N) (B := some ⟨gb, 0, none⟩) (n := l.length) (m := 1) (news := [.int .i64 (k : Nat), .slice B m capB]) elemNd rfl rfl hs2 (Ent.skip (Ent.skip (Ent.skip (Ent.skip (Ent.refl _))))) RdS.blk rfl (by intro u hu; simp at hu; rcases hu with rfl | rfl <;> rfl) (by unfold maxLen; omega) (by omega) ?_
          clear hs2
          intro N2 capN2 w hs2
          refine wpList_nil ⟨rfl, (hs2.ent (Ent.step (Ent.skip (Ent.skip (Ent.skip (Ent.refl _)))) (Ent.step (Ent.skip (Ent.skip (Ent.skip (Ent.refl _)))) (Ent.refl _)))).only2, ?_⟩
          refine wpChain_last rfl ?_
          replace hs2 := hs2.up4
          refine wpl_store (v := .slice N2 (l.length + 1) capN2) rfl rfl rfl size_slN hs2 (Wr.blk (by simp [exC])) ?_
          clear hs2
          intro w hs2
          replace hs2 : St w0 (YtcnbmfaicbkhcaaGreatDoor.blk D (exC N2 P (l.length + 1) capN2 ss.length capP).toArray 377 :: _) w := hs2
          refine wpList_nil ⟨rfl, ?_⟩
          simp only [Act.put, List.setIfInBounds_toArray, List.set_cons_succ, List.set_cons_zero]
          have f0 : w.cell? ⟨g3, 0, none⟩ = some (.pointer (some ⟨D, 0, none⟩)) := Rd.blk (by rfl) w hs2.up4
          obtain ⟨f1, _⟩ := exRd hs2
          go_wp2
          go_ret
          refine ⟨by first | rfl | (congr 2; omega), ?_⟩
          exact ex_grown HRs.out hnat hm hs2.up2.drop.up2.rot.up3.drop
end Go.Proofs.YtcnbmfaicbkhcaaGreatDoor

/-
  Expressions (expr.Arena), 4: New, Len, And, Or, Xor, Not, Set.
-/
set_option maxRecDepth 100000
namespace Go.Proofs.YtcnbmfaicbkhcaaGreatDoor
open Go Go.RowKit
attribute [local irreducible] wpList Calls Code.wp addV addN

theorem and_c {w0 w : World} {L : List As} {D : Nat} {l : List NodeE} {ss : List Value} (hs : St w0 (ExB D l ss :: L) w) {A : Option Addr} {m cap : Nat} {kids : List Int} (hA : A = none → m = 0 ∧ cap = 0) (hm : Hid (kids.length = m)) (hm2 : m ≤ 4000000000) (hr : RdS w0 (ExB D l ss :: L) A (ints kids))
    {v : Int} {l' : List NodeE} (hv1 : Hid (addV l 2 kids = v)) (hl' : Hid (addN l 2 kids = l')) :
    Calls Tryz.prog 192 #[ptr D, .slice A m cap] w fun e w' => e = .returned (.int .i64 v) ∧ St w0 (ExB D l' ss :: L) w' := by
  generalize hp : ptr D = p
  go_enter Tryz.func192, Tryz.ntmps192
  go_wp2_with (first
    | (go_at_call 255; subst hp; refine (add_c (k := 2) hs hA hm hm2 hr (fun h => absurd h (by decide)) hv1 hl').mono ?_; clear hs; rintro e w' ⟨rfl, hs⟩))
  go_ret
  exact ⟨rfl, hs⟩
theorem or_c {w0 w : World} {L : List As} {D : Nat} {l : List NodeE} {ss : List Value} (hs : St w0 (ExB D l ss :: L) w) {A : Option Addr} {m cap : Nat} {kids : List Int} (hA : A = none → m = 0 ∧ cap = 0) (hm : Hid (kids.length = m)) (hm2 : m ≤ 4000000000) (hr : RdS w0 (ExB D l ss :: L) A (ints kids))
    {v : Int} {l' : List NodeE} (hv1 : Hid (addV l 3 kids = v)) (hl' : Hid (addN l 3 kids = l')) :
    Calls Tryz.prog 191 #[ptr D, .slice A m cap] w fun e w' => e = .returned (.int .i64 v) ∧ St w0 (ExB D l' ss :: L) w' := by
  generalize hp : ptr D = p
  go_enter Tryz.func191, Tryz.ntmps191
  go_wp2_with (first
    | (go_at_call 255; subst hp; refine (add_c (k := 3) hs hA hm hm2 hr (fun h => absurd h (by decide)) hv1 hl').mono ?_; clear hs; rintro e w' ⟨rfl, hs⟩))
  go_ret
  exact ⟨rfl, hs⟩
theorem build_ar0 (w : World) : (Instr.build 377 #[]).run Tryz.prog w = .ok (.agg (exC none none 0 0 0 0).toArray) w := by kernel_rfl
theorem exnew_c {w0 w : World} {L : List As} (hs : St w0 L w) : Calls Tryz.prog 184 #[] w fun e w' => ∃ D, e = .returned (ptr D) ∧ St w0 (ExB D [] [] :: L) w' := by
  go_enter Tryz.func184, Tryz.ntmps184
  go_wp2_with (first
    | (refine wpl_buildS build_ar0 rfl ?_)
    | (refine wpl_box_v (v := .agg (exC none none 0 0 0 0).toArray) rfl hs ?_; clear hs; intro D w hs))
  go_ret
  refine ⟨D, rfl, ?_⟩
  replace hs := (hs.own_nil 187 1).rot
  replace hs := (hs.own_nil 413 2).rot
  exact hs.ent (Ent.exshut (rs := []) rfl rfl rfl)
/-! ### Len -/
theorem not_c {w0 w : World} {L : List As} {D : Nat} {l : List NodeE} {ss : List Value} (hs : St w0 (ExB D l ss :: L) w) (i : Int)
    {v : Int} {l' : List NodeE} (hv1 : Hid (addV l 5 [i] = v)) (hl' : Hid (addN l 5 [i] = l')) :
    Calls Tryz.prog 190 #[ptr D, .int .i64 i] w fun e w' => e = .returned (.int .i64 v) ∧ St w0 (ExB D l' ss :: L) w' := by
  generalize hp : ptr D = p
  go_enter Tryz.func190, Tryz.ntmps190
  go_wp2_with (first
    | (refine wpl_build1 (v := .int .i64 i) elem24 (by decide) rfl rfl hs ?_; clear hs; intro g w hs; replace hs := hs.rot)
    | (go_at_call 255; subst hp; refine (add_c (k := 5) (kids := [i]) (A := some ⟨g, 0, none⟩) (m := 1) hs (fun h => nomatch h) (Lib.hid rfl) (by omega) (RdS.blk.tail) (fun h => absurd h (by decide)) hv1 hl').mono ?_; clear hs; rintro e w' ⟨rfl, hs⟩))
  go_ret
  exact ⟨rfl, hs.rot.drop⟩
theorem add_set {l : List NodeE} {i : Int} (hl : l.length < 1000) : addV l 1 [i] = (l.length : Int) ∧ addN l 1 [i] = l ++ [⟨1, [i.toNat]⟩] := by
  have h : addOk l 1 [i] = true := by unfold addOk; rw [decide_eq_true hl]; rfl
  unfold addV addN
  rw [h]
  exact ⟨rfl, rfl⟩
theorem size_slP : (Tryz.prog.info? 375).map (·.size) = some 1 := by kernel_rfl
theorem exset_c {w0 w : World} {L : List As} {D : Nat} {l : List NodeE} {ss : List Value} (hs : St w0 (ExB D l ss :: L) w) (hl : l.length < 1000) (hss : ss.length ≤ 1000000) (q : Option Addr) :
    Calls Tryz.prog 187 #[ptr D, .pointer q] w fun e w' => e = .returned (.int .i64 (l.length : Nat)) ∧ St w0 (ExB D (l ++ [⟨1, [ss.length]⟩]) (ss ++ [.pointer q]) :: L) w' := by
  obtain ⟨rs, N, capN, P, capP, hrs, hs1⟩ := hs.exopen
  obtain ⟨d0, d1⟩ := exRd hs1
  obtain ⟨ha, hb⟩ := add_set (i := (ss.length : Nat)) hl
  rw [Int.toNat_natCast] at hb
  have HA := Lib.hid ha
  have HB := Lib.hid hb
  clear hrs hs1 ha hb
  have h0 : decide ((0 : Int) ≤ (l.length : Nat)) = true := decide_eq_true (Int.natCast_nonneg _)
  generalize hn : ss.length = m at *
  unfold ptr
  go_enter Tryz.func187, Tryz.ntmps187
  go_wp2_with (first
    | (refine wpl_build1 (v := .int .i64 (m : Nat)) elem24 (by decide) rfl rfl hs ?_; clear hs; intro g w hs; replace hs := hs.rot)
    | (go_at_call 255; refine (add_c (k := 1) (kids := [(m : Int)]) (A := some ⟨g, 0, none⟩) (m := 1) hs (fun h => nomatch h) (Lib.hid rfl) (by omega) (RdS.blk.tail) (fun _ => by simp) HA HB).mono ?_; clear hs d0 d1; rintro e w' ⟨rfl, hs⟩; replace hs := hs.rot.drop; obtain ⟨rs, N, capN, P, capP, hrs, hs⟩ := hs.exopen; have HRS := Lib.hid hrs; clear hrs; rw [hn] at hs; obtain ⟨d0, d1⟩ := exRd hs)
    | (refine wpl_build1 (v := .pointer q) elemP (by decide) rfl rfl hs ?_; clear hs; intro g w hs)
    | (refine wpl_append (A := P) (B := some ⟨g, 0, none⟩) (n := m) (m := 1) (news := [.pointer q]) elemP rfl rfl hs (Ent.skip (Ent.skip (Ent.skip (Ent.refl _)))) RdS.blk rfl (by intro u hu; simp at hu; subst hu; rfl) (by unfold maxLen; omega) (by omega) ?_; clear hs; intro P2 capP2 w hs; replace hs := hs.up2)
    | (refine wpl_store (v := .slice P2 (m + 1) capP2) rfl rfl rfl size_slP hs (Wr.blk (by simp [exC])) ?_; clear hs; intro w hs))
  go_ret
  refine ⟨rfl, ?_⟩
  replace hs : St w0 (YtcnbmfaicbkhcaaGreatDoor.blk D (exC N P2 (l ++ [(⟨1, [m]⟩ : NodeE)]).length capN (m + 1) capP2).toArray 377 :: _) w := hs
  exact hs.up3.rot.up3.drop.ent (Ent.exshut HRS.out rfl (by simp [hn]))
end Go.Proofs.YtcnbmfaicbkhcaaGreatDoor

/-
  Expressions (expr.Arena), 5: what an Arena reads as; Needs.
-/
set_option maxRecDepth 100000
namespace Go.Proofs.YtcnbmfaicbkhcaaGreatDoor
open Go Go.RowKit
attribute [local irreducible] wpList Calls Code.wp

/-- Nodes that may be, of m sets. -/
structure ArOk (l : List NodeE) (m : Nat) : Prop where
  few : l.length ≤ 1000
  kind : ∀ (i : Nat) (x : NodeE), l[i]? = some x → 1 ≤ x.k ∧ x.k ≤ 5 ∧ x.kids.length ≤ 64
  set : ∀ (i : Nat) (x : NodeE), l[i]? = some x → x.k = 1 → ∃ s, x.kids = [s] ∧ s < m
  not : ∀ (i : Nat) (x : NodeE), l[i]? = some x → x.k = 5 → x.kids.length = 1
  low : ∀ (i : Nat) (x : NodeE), l[i]? = some x → x.k ≠ 1 → ∀ y ∈ x.kids, y < i
/-- What stands in memory of an Arena. -/
structure ExV (D : Nat) (l : List NodeE) (ss : List Value) (N : Option Addr) (cap : Nat) (P : Option Addr) (cap2 : Nat) (w : World) : Prop where
  d0 : w.cell? ⟨D, 0, none⟩ = some (.slice N l.length cap)
  d1 : w.cell? ⟨D, 1, none⟩ = some (.slice P ss.length cap2)
  row : ∀ (i : Nat) (x : NodeE), l[i]? = some x → ∃ g B bc, N = some ⟨g, 0, none⟩ ∧ w.cell? ⟨g, i * 2, none⟩ = some (.int .i64 (x.k : Nat)) ∧ w.cell? ⟨g, i * 2 + 1, none⟩ = some (.slice B x.kids.length bc) ∧
    (∀ (j y : Nat), x.kids[j]? = some y → ∃ b, B = some ⟨b, 0, none⟩ ∧ w.cell? ⟨b, j, none⟩ = some (.int .i64 (y : Nat)))
  set : ∀ (i : Nat) (v : Value), ss[i]? = some v → ∃ g, P = some ⟨g, 0, none⟩ ∧ w.cell? ⟨g, i, none⟩ = some v
theorem ExV.grew {D : Nat} {l : List NodeE} {ss : List Value} {N P : Option Addr} {cap cap2 : Nat} {w w' : World} (h : ExV D l ss N cap P cap2 w) (hg : Grew w w') : ExV D l ss N cap P cap2 w' :=
  ⟨hg.cell h.d0, hg.cell h.d1, fun i x hx => by
    obtain ⟨g, B, bc, h1, h2, h3, h4⟩ := h.row i x hx
    exact ⟨g, B, bc, h1, hg.cell h2, hg.cell h3, fun j y hy => let ⟨b, h5, h6⟩ := h4 j y hy; ⟨b, h5, hg.cell h6⟩⟩, fun i v hv => let ⟨g, h1, h2⟩ := h.set i v hv; ⟨g, h1, hg.cell h2⟩⟩
theorem krs_get : ∀ {rs : List KR} {i : Nat} {r : KR}, rs[i]? = some r → ∀ j u, (krV r)[j]? = some u → (rs.flatMap krV)[i * 2 + j]? = some u
  | [], i, r, h, _, _, _ => by simp at h
  | x :: rs, 0, r, h, j, u, hu => by
    simp at h
    subst h
    rw [List.flatMap_cons, Nat.zero_mul, Nat.zero_add, List.getElem?_append_left (by rw [krV_len]; have := (List.getElem?_eq_some_iff.1 hu).1; rw [krV_len] at this; exact this)]
    exact hu
  | x :: rs, i + 1, r, h, j, u, hu => by
    rw [List.flatMap_cons, List.getElem?_append_right (by rw [krV_len]; omega), krV_len, show (i + 1) * 2 + j - 2 = i * 2 + j by omega]
    exact krs_get (by simpa using h) j u hu
theorem Ent.pick {L : List As} : ∀ {M : List As} {i : Nat} {p : As}, M[i]? = some p → ∃ M', Ent (M ++ L) (p :: M')
  | [], i, p, h => by simp at h
  | q :: M, 0, p, h => by
    simp at h
    subst h
    exact ⟨_, Ent.refl _⟩
  | q :: M, i + 1, p, h => by
    obtain ⟨M', h'⟩ := Ent.pick (L := L) (M := M) (i := i) (p := p) (by simpa using h)
    exact ⟨_, Ent.skip h'⟩
theorem St.exview {w0 w : World} {D : Nat} {l : List NodeE} {ss : List Value} {L : List As} (hs : St w0 (ExB D l ss :: L) w) : ∃ N cap P cap2, ExV D l ss N cap P cap2 w := by
  obtain ⟨rs, N, cap, P, cap2, hrs, hs⟩ := hs.exopen
  obtain ⟨d0, d1⟩ := exRd hs
  refine ⟨N, cap, P, cap2, d0, d1, fun i x hx => ?_, fun i v hv => ?_⟩
  · have hN := hs.rot
    obtain ⟨r, hr, rfl⟩ : ∃ r, rs[i]? = some r ∧ r.e = x := by
      subst hrs
      rw [List.getElem?_map] at hx
      cases h : rs[i]? with
      | none => rw [h] at hx; cases hx
      | some r => rw [h] at hx; exact ⟨r, rfl, by simpa using hx⟩
    have hpos : 0 < l.length := by have := (List.getElem?_eq_some_iff.1 hx).1; omega
    obtain ⟨g, rfl⟩ := hN.own_at hpos
    refine ⟨g, r.B, r.cap, rfl, ?_, ?_, fun j y hy => ?_⟩
    · exact Rd.own (krs_get hr 0 _ rfl) _ hN
    · exact Rd.own (krs_get hr 1 _ rfl) _ hN
    · have hk : (rs.map krA)[i]? = some (krA r) := by rw [List.getElem?_map, hr]; rfl
      obtain ⟨M', hp⟩ := Ent.pick (L := L) hk
      have h3 := hs.drop.drop.drop.ent hp
      have hpos2 : 0 < r.e.kids.length := by have := (List.getElem?_eq_some_iff.1 hy).1; omega
      obtain ⟨b, hb⟩ := St.own_at h3 hpos2
      refine ⟨b, hb, ?_⟩
      unfold krA at h3
      rw [hb] at h3
      refine Rd.own (ints_get (x := (y : Int)) ?_) _ h3
      unfold kI
      rw [List.getElem?_map, hy]
      rfl
  · have hP := hs.up2
    have hpos : 0 < ss.length := by have := (List.getElem?_eq_some_iff.1 hv).1; omega
    obtain ⟨g, rfl⟩ := hP.own_at hpos
    exact ⟨g, rfl, Rd.own hv _ hP⟩

/-! ### Needs -/
/-- Rising numbers up to n, closed under kids. -/
structure NeedOk (l : List NodeE) (n : Nat) (R : List Nat) : Prop where
  sorted : R.Pairwise (· < ·)
  last : R.getLast? = some n
  low : ∀ i ∈ R, i ≤ n
  kids : ∀ i ∈ R, ∀ x, l[i]? = some x → x.k ≠ 1 → ∀ y ∈ x.kids, y ∈ R
def mkB5 (b : Bool) : Int := if b then 1 else 0
def flg (n : Nat) (mk : Nat → Bool) : List Int := (List.range (n + 1)).map fun j => mkB5 (mk j)
theorem flg_len (n : Nat) (mk : Nat → Bool) : (flg n mk).length = n + 1 := by simp [flg]
theorem flg_get {n j : Nat} {mk : Nat → Bool} (h : j ≤ n) : (flg n mk)[j]? = some (mkB5 (mk j)) := by
  unfold flg
  rw [List.getElem?_map, List.getElem?_range (by omega)]
  rfl
theorem flg_set {n j : Nat} {mk : Nat → Bool} (h : j ≤ n) : (ints (flg n mk)).set j (.int .i64 1) = ints (flg n fun i => mk i || i == j) := by
  apply List.ext_getElem?
  intro k
  by_cases hk : k ≤ n
  · rw [ints_get (flg_get (mk := fun i => mk i || i == j) hk), List.getElem?_set]
    split
    · rename_i e
      subst e
      rw [if_pos (by rw [ints_len, flg_len]; omega)]
      simp [mkB5]
    · rename_i e
      rw [ints_get (flg_get hk)]
      have : (k == j) = false := by simp; omega
      rw [this, Bool.or_false]
  · rw [List.getElem?_eq_none (by rw [List.length_set, ints_len, flg_len]; omega), List.getElem?_eq_none (by rw [ints_len, flg_len]; omega)]
structure NeedI (l : List NodeE) (n i : Nat) (mk : Nat → Bool) : Prop where
  top : mk n = true
  kids : ∀ j, i ≤ j → j ≤ n → mk j = true → ∀ x : NodeE, l[j]? = some x → x.k ≠ 1 → ∀ y ∈ x.kids, mk y = true
def marks (mk : Nat → Bool) (l : List Nat) : Nat → Bool := fun j => mk j || l.contains j
theorem NeedI.skip {l : List NodeE} {n i : Nat} {mk : Nat → Bool} (h : NeedI l n (i + 1) mk) (hx : mk i = true → ∀ x, l[i]? = some x → x.k = 1) : NeedI l n i mk :=
  ⟨h.top, fun j hij hj hm x hl hk => by
    by_cases e : i = j
    · subst e; exact absurd (hx hm x hl) hk
    · exact h.kids j (by omega) hj hm x hl hk⟩
theorem NeedI.mark {l : List NodeE} {n m i : Nat} {mk : Nat → Bool} {x : NodeE} (h : NeedI l n (i + 1) mk) (hok : ArOk l m) (hx : l[i]? = some x) (hk : x.k ≠ 1) : NeedI l n i (marks mk x.kids) :=
  ⟨by unfold marks; rw [h.top]; rfl, fun j hij hj hm x' hl hk' y hy => by
    by_cases e : i = j
    · subst e
      rw [hx] at hl
      injection hl with hl
      subst hl
      unfold marks
      rw [Bool.or_eq_true]
      right
      simpa using hy
    · have hmj : mk j = true := by
        unfold marks at hm
        rcases Bool.or_eq_true _ _ ▸ hm with h1 | h1
        · exact h1
        · have hjk : j ∈ x.kids := by simpa using h1
          have := hok.low i x hx hk j hjk
          omega
      unfold marks
      rw [h.kids j (by omega) hj hmj x' hl hk' y hy]
      rfl⟩
theorem NeedI.ok {l : List NodeE} {n m : Nat} {mk : Nat → Bool} (h : NeedI l n 0 mk) (hok : ArOk l m) : NeedOk l n ((List.range (n + 1)).filter mk) := by
  refine ⟨List.Pairwise.filter _ List.pairwise_lt_range, ?_, ?_, ?_⟩
  · rw [List.range_succ, List.filter_append, List.filter_cons_of_pos h.top, List.filter_nil, List.getLast?_append]
    rfl
  · intro i hi
    have := (List.mem_filter.1 hi).1
    rw [List.mem_range] at this
    omega
  · intro i hi x hx hk y hy
    obtain ⟨h1, h2⟩ := List.mem_filter.1 hi
    rw [List.mem_range] at h1
    have := hok.low i x hx hk y hy
    exact List.mem_filter.2 ⟨List.mem_range.2 (by omega), h.kids i (Nat.zero_le _) (by omega) h2 x hx hk y hy⟩
theorem marks_nil (mk : Nat → Bool) : marks mk [] = mk := by funext j; simp [marks]
theorem marks_snoc (mk : Nat → Bool) (l : List Nat) (y : Nat) : (fun i => marks mk l i || i == y) = marks mk (l ++ [y]) := by
  funext j
  unfold marks
  rw [Bool.or_assoc]
  congr 1
  rw [Bool.eq_iff_iff]
  simp
theorem filter_snoc (mk : Nat → Bool) (k : Nat) : (List.range (k + 1)).filter mk = (List.range k).filter mk ++ if mk k then [k] else [] := by
  rw [List.range_succ, List.filter_append]
  congr 1
  cases h : mk k <;> simp [h]
def natI (l : List Nat) : List Int := l.map Int.ofNat
theorem natI_len (l : List Nat) : (natI l).length = l.length := by simp [natI]
theorem needs_none {w : World} {D : Nat} {l : List NodeE} {ss : List Value} {N P : Option Addr} {cap cap2 : Nat} (hv : ExV D l ss N cap P cap2 w) {n : Int} (hn : n < 0 ∨ (l.length : Int) ≤ n) :
    Calls Tryz.prog 257 #[ptr D, .int .i64 n] w fun e w' => e = .returned (.slice none 0 0) ∧ w' = w := by
  have d0 := hv.d0
  clear hv
  unfold ptr
  by_cases h0 : n < 0
  · go_enter Tryz.func257, Tryz.ntmps257
    go_wp2
    go_ret
    exact ⟨rfl, rfl⟩
  · have h1 : decide ((l.length : Int) ≤ n) = true := decide_eq_true (by omega)
    clear hn
    go_enter Tryz.func257, Tryz.ntmps257
    go_wp2
    go_ret
    exact ⟨rfl, rfl⟩
theorem made_flg (n : Nat) : (madeCells (Value.int .i64 0).cells ((n + 1) * 1)).toList = ints (flg n fun _ => false) := by
  rw [show (Value.int .i64 0).cells = #[Value.int .i64 0] from rfl, Nat.mul_one, toList_madeCells_one]
  unfold ints flg
  rw [List.map_map]
  apply List.ext_getElem (by simp)
  intro i h1 h2
  simp [mkB5]
theorem natI_snoc (R : List Nat) (k : Nat) : ints (natI R) ++ [.int .i64 (k : Nat)] = ints (natI (R ++ [k])) := by simp [ints, natI]
attribute [local irreducible] flg marks
set_option maxHeartbeats 1000000 in
theorem needs_c {w : World} {D m : Nat} {l : List NodeE} {ss : List Value} {N P : Option Addr} {cap cap2 : Nat} (hv : ExV D l ss N cap P cap2 w) (hok : ArOk l m) {n : Nat} (hn : n < l.length) :
    Calls Tryz.prog 257 #[ptr D, .int .i64 (n : Nat)] w fun e w' => ∃ A cap R, e = .returned (.slice A R.length cap) ∧ NeedOk l n R ∧ St w [own A R.length cap 3 1 (ints (natI R))] w' := by
  have d0 := hv.d0
  have hfew := hok.few
  have HO := Lib.hid hok
  have HV := Lib.hid hv
  have hw := St.start w
  clear hv hok
  have g0 : decide ((n : Int) < 0) = false := decide_eq_false (by omega)
  have g1 : decide (l.length ≤ n) = false := decide_eq_false (by omega)
  unfold ptr
  go_enter Tryz.func257, Tryz.ntmps257
  go_wp2_with (first
    | (at_make; refine wpl_make (n := n + 1) (bytes := 8) (size := 1) (z := .int .i64 0) Tryz.underlying22 (by kernel_rfl) rfl rfl rfl (by omega) (by unfold maxLen; omega) hw ?_; clear hw; intro g w1 hw; rw [made_flg] at hw)
    | (refine wpl_store (v := .int .i64 1) rfl rfl rfl size_int hw (Wr.own (by rw [ints_len, flg_len]; omega)) ?_; clear hw; intro w1 hw; rw [flg_set (Nat.le_refl n)] at hw))
  clear g0 g1
  go_loopw [6] (fun cv wr => ∃ (k : Nat) (mk : Nat → Bool), k ≤ n + 1 ∧ cv = .int .i64 ((k : Int) - 1) ∧ NeedI l n k mk ∧ St w [own (some ⟨g, 0, none⟩) (n + 1) (n + 1) 3 1 (ints (flg n mk))] wr) (fun cv _ => (intOf cv + 1).toNat)
  case atStart => exact ⟨n + 1, _, Nat.le_refl _, by simp, ⟨by simp, fun j h1 h2 => by omega⟩, hw⟩
  case round =>
    obtain ⟨k, mk, hk, rfl, HI, hs⟩ := hrel
    clear hw
    cases k with
    | zero =>
      rw [show ((0 : Nat) : Int) - 1 = -1 from rfl]
      replace hs := (hs.own_nil 3 1)
      go_wp2
      go_loopw [9, 69] (fun ov cv wr => ∃ (k : Nat) (A : Option Addr) (cp : Nat) (R : List Nat), k ≤ n + 1 ∧ ov = .slice A R.length cp ∧ cv = .int .i64 (k : Nat) ∧ Hid (R = (List.range k).filter mk) ∧ St w [own A R.length cp 3 1 (ints (natI R)), own (some ⟨g, 0, none⟩) (n + 1) (n + 1) 3 1 (ints (flg n mk))] wr) (fun _ cv _ => n + 1 - (intOf cv).toNat)
      case atStart => exact ⟨0, none, 0, [], Nat.zero_le _, rfl, rfl, rfl, hs⟩
      case round =>
        obtain ⟨k, A, cp, R, hk, rfl, rfl, HR, hs⟩ := hrel
        by_cases hlt : k < n + 1
        · have hRl : R.length ≤ k := by
            rw [HR.out]
            exact Nat.le_trans (List.length_filter_le _ _) (by rw [List.length_range]; exact Nat.le_refl _)
          have hc := Rd.own (w0 := w) (g := g) (n := n + 1) (cap := n + 1) (e := 3) (size := 1) (L := [own A R.length cp 3 1 (ints (natI R))]) (ints_get (flg_get (mk := mk) (show k ≤ n by omega))) _ hs.rot
          have HF := Lib.hid (filter_snoc mk k)
          rw [← HR.out] at HF
          cases hmk : mk k with
          | false =>
            rw [hmk] at hc HF
            replace hc : wr.cell? ⟨g, k, none⟩ = some (.int .i64 0) := hc
            clear hmk
            go_wp2
            go_roundw
            case rel => exact ⟨k + 1, A, cp, R, by omega, rfl, by go_num, by rw [Hid, HF.out]; simp, hs⟩
            case measure => simp [intOf] <;> omega
          | true =>
            rw [hmk] at hc HF
            replace hc : wr.cell? ⟨g, k, none⟩ = some (.int .i64 1) := hc
            clear hmk
            go_wp2_with (first
              | (refine wpl_build1 (v := .int .i64 (k : Nat)) elem24 (by decide) rfl rfl hs ?_; clear hs; intro gb w2 hs)
              | (refine wpl_append (B := some ⟨gb, 0, none⟩) (m := 1) (news := [.int .i64 (k : Nat)]) elem24 rfl rfl hs (Ent.skip (Ent.refl _)) RdS.blk rfl (ints_one' [(k : Int)]) (by unfold maxLen; omega) (by omega) ?_; clear hs; intro A2 cp2 w2 hs; rw [natI_snoc] at hs))
            go_roundw
            case rel => exact ⟨k + 1, A2, cp2, R ++ [k], by omega, by rw [List.length_append]; rfl, by go_num, by rw [Hid, HF.out]; simp, by rw [List.length_append]; exact hs.rot.drop⟩
            case measure => simp [intOf] <;> omega
        · have hkn : k = n + 1 := by omega
          subst hkn
          go_wp2
          go_ret
          exact ⟨A, cp, R, rfl, by rw [HR.out]; exact HI.ok HO.out, hs.rot.drop⟩
    | succ i =>
      rw [show ((i + 1 : Nat) : Int) - 1 = (i : Int) by omega]
      have hin : i ≤ n := by omega
      obtain ⟨x, hx⟩ : ∃ x, l[i]? = some x := ⟨_, List.getElem?_eq_getElem (by omega)⟩
      have hc := Rd.own (w0 := w) (g := g) (n := n + 1) (cap := n + 1) (e := 3) (size := 1) (L := []) (ints_get (flg_get (mk := mk) hin)) _ hs
      obtain ⟨gn, B, bc, rfl, r1, r2, r3⟩ := HV.out.row i x hx
      replace d0 := hs.made_grew.cell d0
      replace r1 := hs.made_grew.cell r1
      replace r2 := hs.made_grew.cell r2
      have hil : i < l.length := by omega
      cases hmk : mk i with
      | false =>
        rw [hmk] at hc
        replace hc : wr.cell? ⟨g, i, none⟩ = some (.int .i64 0) := hc
        have HI2 := Lib.hid (HI.skip (fun h => by rw [hmk] at h; cases h))
        clear hmk HI hx r1 r2 r3
        go_wp2
        go_roundw
        case rel => exact ⟨i, mk, by omega, rfl, HI2.out, hs⟩
        case measure => simp [intOf] <;> omega
      | true =>
        rw [hmk] at hc
        replace hc : wr.cell? ⟨g, i, none⟩ = some (.int .i64 1) := hc
        clear hmk
        by_cases hk1 : x.k = 1
        · rw [hk1] at r1
          have HI2 := Lib.hid (HI.skip (fun _ x' h => by rw [hx] at h; injection h with h; subst h; exact hk1))
          clear HI hx r2 r3 hk1
          go_wp2
          go_roundw
          case rel => exact ⟨i, mk, by omega, rfl, HI2.out, hs⟩
          case measure => simp [intOf] <;> omega
        · have HI2 := Lib.hid (HI.mark HO.out hx hk1)
          have hlow := Lib.hid (HO.out.low i x hx hk1)
          have hq : ((x.k : Int) == 1) = false := by simp; omega
          have h64 := (HO.out.kind i x hx).2.2
          have HX := Lib.hid hx
          have R3 := Lib.hid r3
          clear HI hx r3 hk1
          go_wp2
          go_loopw [59] (fun cv wi => ∃ j : Nat, j ≤ x.kids.length ∧ cv = .int .i64 (j : Nat) ∧ St w [own (some ⟨g, 0, none⟩) (n + 1) (n + 1) 3 1 (ints (flg n (marks mk (x.kids.take j))))] wi) (fun cv _ => x.kids.length - (intOf cv).toNat)
          case atStart => exact ⟨0, Nat.zero_le _, rfl, by rw [List.take_zero, marks_nil]; exact hs⟩
          case round =>
            obtain ⟨j, hj, rfl, hs2⟩ := hrel
            clear hs hc d0 r1 r2 hq
            by_cases hlt : j < x.kids.length
            · obtain ⟨y, hy⟩ : ∃ y, x.kids[j]? = some y := ⟨_, List.getElem?_eq_getElem hlt⟩
              obtain ⟨b, rfl, hc⟩ := R3.out j y hy
              replace hc := hs2.made_grew.cell hc
              have hyi := hlow.out y (List.mem_of_getElem? hy)
              have HT : Hid ((fun q => marks mk (x.kids.take j) q || q == y) = marks mk (x.kids.take (j + 1))) := by
                rw [Hid, marks_snoc, List.take_add_one, hy]
                rfl
              clear hy
              go_wp2_with (first
                | (refine wpl_store (v := .int .i64 1) rfl rfl rfl size_int hs2 (Wr.own (by rw [ints_len, flg_len]; omega)) ?_; clear hs2 hc; intro w1 hs2; rw [flg_set (show y ≤ n by omega), HT.out] at hs2))
              go_roundw
              case rel => exact ⟨j + 1, by omega, by go_num, hs2⟩
              case measure => simp [intOf] <;> omega
            · have hjn : j = x.kids.length := by omega
              subst hjn
              rw [List.take_length] at hs2
              go_wp2
              go_roundw
              case rel => exact ⟨i, marks mk x.kids, by omega, rfl, HI2.out, hs2⟩
              case measure => simp [intOf] <;> omega
end Go.Proofs.YtcnbmfaicbkhcaaGreatDoor

/-
  Expressions (expr.Arena), 6: what nodes may have on a level (plain law); join.
-/
set_option maxRecDepth 100000
namespace Go.Proofs.YtcnbmfaicbkhcaaGreatDoor
open Go Go.RowKit

/-- A node's word of a level (lv: a level above 0), of those ahead of it. -/
def mayK (lv : Bool) (k : Nat) : Nat := if k = 4 ∧ lv = true then 3 else k
def mayF (lv : Bool) (sw : Nat → Nat) (x : NodeE) (f : Nat → Nat) : Nat :=
  if x.k = 1 then sw (x.kids.headD 0) else if x.k = 5 then (if lv then 18446744073709551615 else notW (f (x.kids.headD 0))) else joinW (mayK lv x.k) (x.kids.map f)
def maysE (lv : Bool) (sw : Nat → Nat) (l : List NodeE) : List Nat := l.foldl (fun ws x => ws ++ [mayF lv sw x fun i => ws.getD i 0]) []
theorem mays_words (sw : Nat → Nat) (l : List NodeE) : maysE false sw l = wordsE sw l := by
  unfold maysE wordsE
  congr 1
  funext ws x
  unfold mayF wordE mayK
  simp
theorem mayF_lt {lv : Bool} {sw : Nat → Nat} (hs : ∀ s, sw s < 2 ^ 64) (x : NodeE) {f : Nat → Nat} (h : ∀ i, f i < 2 ^ 64) : mayF lv sw x f < 2 ^ 64 := by
  unfold mayF
  split
  · exact hs _
  · split
    · split
      · decide
      · exact notW_lt _
    · exact joinW_lt fun v hv => by
        obtain ⟨i, _, rfl⟩ := List.mem_map.1 hv
        exact h i
theorem mayF_congr {lv : Bool} {sw : Nat → Nat} {x : NodeE} {f g : Nat → Nat} (h : x.k ≠ 1 → ∀ y ∈ x.kids, f y = g y) (h5 : x.k = 5 → x.kids.length = 1) : mayF lv sw x f = mayF lv sw x g := by
  unfold mayF
  split
  · rfl
  · rename_i h1
    split
    · rename_i hk
      split
      · rfl
      · congr 1
        refine h h1 _ ?_
        have := h5 hk
        cases hh : x.kids with
        | nil => rw [hh] at this; cases this
        | cons a t => simp
    · congr 1
      exact List.map_congr_left fun y hy => h h1 y hy
theorem mays_aux {lv : Bool} {sw : Nat → Nat} : ∀ (l : List NodeE) (ws : List Nat), ∃ t, l.foldl (fun ws x => ws ++ [mayF lv sw x fun i => ws.getD i 0]) ws = ws ++ t ∧ t.length = l.length ∧
    ∀ i x, l[i]? = some x → t[i]? = some (mayF lv sw x fun j => ((ws ++ t).take (ws.length + i)).getD j 0)
  | [], ws => ⟨[], by simp, rfl, fun i x h => by simp at h⟩
  | x :: l, ws => by
    obtain ⟨t, h1, h2, h3⟩ := mays_aux l (ws ++ [mayF lv sw x fun i => ws.getD i 0])
    refine ⟨mayF lv sw x (fun i => ws.getD i 0) :: t, by rw [List.foldl_cons, h1]; simp, by simp [h2], fun i y hy => ?_⟩
    cases i with
    | zero =>
      simp at hy
      subst hy
      simp
    | succ i =>
      have := h3 i y (by simpa using hy)
      rw [List.getElem?_cons_succ, this, show ws.length + (i + 1) = (ws ++ [mayF lv sw x fun i => ws.getD i 0]).length + i by simp; omega]
      simp
/-- Each node's word comes of its kids' words. -/
theorem mays_at {lv : Bool} {sw : Nat → Nat} {l : List NodeE} {m : Nat} (hok : ArOk l m) {i : Nat} {x : NodeE} (hx : l[i]? = some x) {f : Nat → Nat} (hf : x.k ≠ 1 → ∀ y ∈ x.kids, f y = (maysE lv sw l).getD y 0) : (maysE lv sw l).getD i 0 = mayF lv sw x f := by
  obtain ⟨t, h1, h2, h3⟩ := mays_aux (lv := lv) (sw := sw) l []
  have he : maysE lv sw l = t := by unfold maysE; rw [h1, List.nil_append]
  rw [he] at hf ⊢
  rw [List.getD_eq_getElem?_getD, h3 i x hx]
  refine mayF_congr (fun hk y hy => ?_) (hok.not i x hx)
  rw [hf hk y hy]
  simp only [List.nil_append, List.length_nil, Nat.zero_add]
  rw [List.getD_eq_getElem?_getD, List.getD_eq_getElem?_getD, List.getElem?_take_of_lt (hok.low i x hx hk y hy)]
theorem mays_lt {lv : Bool} {sw : Nat → Nat} (hs : ∀ s, sw s < 2 ^ 64) (l : List NodeE) (i : Nat) : (maysE lv sw l).getD i 0 < 2 ^ 64 := by
  suffices h : ∀ (l : List NodeE) (ws : List Nat), (∀ v ∈ ws, v < 2 ^ 64) → ∀ v ∈ l.foldl (fun ws x => ws ++ [mayF lv sw x fun i => ws.getD i 0]) ws, v < 2 ^ 64 from getD_lt (h l [] fun _ h => nomatch h) i
  intro l
  induction l with
  | nil => intro ws h; exact h
  | cons x l ih =>
    intro ws h
    rw [List.foldl_cons]
    refine ih _ fun v hv => ?_
    rcases List.mem_append.1 hv with h1 | h1
    · exact h v h1
    · rw [List.mem_singleton.1 h1]; exact mayF_lt hs x fun i => getD_lt h i

/-! ### join -/
def joinA (k : Nat) (l : List Nat) (w : Nat) : Nat := l.foldl (fun w v => if k = 2 then w &&& v else if k = 3 then w ||| v else w ^^^ v) w
theorem joinA_snoc (k : Nat) (l : List Nat) (v w : Nat) : joinA k (l ++ [v]) w = if k = 2 then joinA k l w &&& v else if k = 3 then joinA k l w ||| v else joinA k l w ^^^ v := by simp [joinA]
theorem joinA_lt {k : Nat} {l : List Nat} {w : Nat} (hw : w < 2 ^ 64) (h : ∀ v ∈ l, v < 2 ^ 64) : joinA k l w < 2 ^ 64 := joinW_lt_aux l w hw h
theorem xor_u64 (x y : Nat) (hx : x < 2 ^ 64) (hy : y < 2 ^ 64) : bits .xor .u64 (x : Int) (y : Int) = ((x ^^^ y : Nat) : Int) := by
  have h : x ^^^ y < 2 ^ 64 := Nat.xor_lt_two_pow hx hy
  show IntKind.u64.wrap ((BitVec.ofInt 64 (x : Int) ^^^ BitVec.ofInt 64 (y : Int)).toNat : Int) = _
  rw [BitVec.toNat_xor, ofInt_u64 x (by omega), ofInt_u64 y (by omega), IntKind.wrap_u64]
  omega
attribute [local irreducible] wpList Calls Code.wp joinA joinW mayF maysE
set_option maxHeartbeats 1000000 in
theorem exjoin_c {w : World} {k n cap : Nat} (hk : k = 2 ∨ k = 3 ∨ k = 4) {A : Option Addr} {xs : List Nat} (hn : Hid (xs.length = n)) (hn2 : n ≤ 64) (hr : ∀ (j x : Nat), xs[j]? = some x → ∃ b, A = some ⟨b, 0, none⟩ ∧ w.cell? ⟨b, j, none⟩ = some (.int .u64 (x : Nat))) (hlt : ∀ v ∈ xs, v < 2 ^ 64)
    {y : Nat} (hy : Hid (joinW k xs = y)) :
    Calls Tryz.prog 309 #[.int .i64 (k : Nat), .slice A n cap] w fun e w' => e = .returned (.int .u64 (y : Nat)) ∧ w' = w := by
  rcases hk with rfl | rfl | rfl
  · skip
    have HJ : Hid (joinA 2 (xs.take 0) 18446744073709551615 = 18446744073709551615) := by rw [List.take_zero]; unfold joinA; rfl
    have HY : Hid (joinA 2 xs 18446744073709551615 = y) := by rw [← hy.out]; unfold joinW joinA; rfl
    have HB : Hid (∀ j, joinA 2 (xs.take j) 18446744073709551615 < 2 ^ 64) := fun j => joinA_lt (by decide) fun v hv => hlt v (List.mem_of_mem_take hv)
    go_enter Tryz.func309, Tryz.ntmps309
    go_wp2
    go_loop [5, 14] (fun xv cv => ∃ j v : Nat, j ≤ n ∧ cv = .int .i64 (j : Nat) ∧ xv = .int .u64 (v : Nat) ∧ Hid (joinA 2 (xs.take j) 18446744073709551615 = v)) (fun _ cv => n - (intOf cv).toNat)
    case atStart => exact ⟨0, 18446744073709551615, Nat.zero_le _, rfl, by first | rfl | decide, HJ⟩
    case round =>
      obtain ⟨j, v, hj, rfl, rfl, HV⟩ := hrel
      by_cases hl2 : j < n
      · obtain ⟨x, hx⟩ : ∃ x, xs[j]? = some x := ⟨_, List.getElem?_eq_getElem (by rw [hn.out]; exact hl2)⟩
        obtain ⟨b, rfl, hc⟩ := hr j x hx
        have ho := and_u64 v x (by rw [← HV.out]; exact HB.out j) (hlt x (List.mem_of_getElem? hx))
        have HS : Hid (joinA 2 (xs.take (j + 1)) 18446744073709551615 = v &&& x) := by
          rw [Hid, List.take_add_one, hx]
          show joinA 2 (xs.take j ++ [x]) 18446744073709551615 = _
          rw [joinA_snoc, HV.out]
          rfl
        clear hx
        go_wp2
        go_round
        case rel => exact ⟨j + 1, v &&& x, by omega, by go_num, rfl, HS⟩
        case measure => simp [intOf] <;> omega
      · have hjn : j = n := by omega
        subst hjn
        go_wp2
        go_ret
        have h3 := HV.out
        rw [List.take_of_length_le (by rw [hn.out]; exact Nat.le_refl _), HY.out] at h3
        subst h3
        exact ⟨rfl, rfl⟩
  · skip
    have HJ : Hid (joinA 3 (xs.take 0) 0 = 0) := by rw [List.take_zero]; unfold joinA; rfl
    have HY : Hid (joinA 3 xs 0 = y) := by rw [← hy.out]; unfold joinW joinA; rfl
    have HB : Hid (∀ j, joinA 3 (xs.take j) 0 < 2 ^ 64) := fun j => joinA_lt (by decide) fun v hv => hlt v (List.mem_of_mem_take hv)
    go_enter Tryz.func309, Tryz.ntmps309
    go_wp2
    go_loop [5, 14] (fun xv cv => ∃ j v : Nat, j ≤ n ∧ cv = .int .i64 (j : Nat) ∧ xv = .int .u64 (v : Nat) ∧ Hid (joinA 3 (xs.take j) 0 = v)) (fun _ cv => n - (intOf cv).toNat)
    case atStart => exact ⟨0, 0, Nat.zero_le _, rfl, by first | rfl | decide, HJ⟩
    case round =>
      obtain ⟨j, v, hj, rfl, rfl, HV⟩ := hrel
      by_cases hl2 : j < n
      · obtain ⟨x, hx⟩ : ∃ x, xs[j]? = some x := ⟨_, List.getElem?_eq_getElem (by rw [hn.out]; exact hl2)⟩
        obtain ⟨b, rfl, hc⟩ := hr j x hx
        have ho := or_u64 v x (by rw [← HV.out]; exact HB.out j) (hlt x (List.mem_of_getElem? hx))
        have HS : Hid (joinA 3 (xs.take (j + 1)) 0 = v ||| x) := by
          rw [Hid, List.take_add_one, hx]
          show joinA 3 (xs.take j ++ [x]) 0 = _
          rw [joinA_snoc, HV.out]
          rfl
        clear hx
        go_wp2
        go_round
        case rel => exact ⟨j + 1, v ||| x, by omega, by go_num, rfl, HS⟩
        case measure => simp [intOf] <;> omega
      · have hjn : j = n := by omega
        subst hjn
        go_wp2
        go_ret
        have h3 := HV.out
        rw [List.take_of_length_le (by rw [hn.out]; exact Nat.le_refl _), HY.out] at h3
        subst h3
        exact ⟨rfl, rfl⟩
  · skip
    have HJ : Hid (joinA 4 (xs.take 0) 0 = 0) := by rw [List.take_zero]; unfold joinA; rfl
    have HY : Hid (joinA 4 xs 0 = y) := by rw [← hy.out]; unfold joinW joinA; rfl
    have HB : Hid (∀ j, joinA 4 (xs.take j) 0 < 2 ^ 64) := fun j => joinA_lt (by decide) fun v hv => hlt v (List.mem_of_mem_take hv)
    go_enter Tryz.func309, Tryz.ntmps309
    go_wp2
    go_loop [5, 14] (fun xv cv => ∃ j v : Nat, j ≤ n ∧ cv = .int .i64 (j : Nat) ∧ xv = .int .u64 (v : Nat) ∧ Hid (joinA 4 (xs.take j) 0 = v)) (fun _ cv => n - (intOf cv).toNat)
    case atStart => exact ⟨0, 0, Nat.zero_le _, rfl, by first | rfl | decide, HJ⟩
    case round =>
      obtain ⟨j, v, hj, rfl, rfl, HV⟩ := hrel
      by_cases hl2 : j < n
      · obtain ⟨x, hx⟩ : ∃ x, xs[j]? = some x := ⟨_, List.getElem?_eq_getElem (by rw [hn.out]; exact hl2)⟩
        obtain ⟨b, rfl, hc⟩ := hr j x hx
        have ho := xor_u64 v x (by rw [← HV.out]; exact HB.out j) (hlt x (List.mem_of_getElem? hx))
        have HS : Hid (joinA 4 (xs.take (j + 1)) 0 = v ^^^ x) := by
          rw [Hid, List.take_add_one, hx]
          show joinA 4 (xs.take j ++ [x]) 0 = _
          rw [joinA_snoc, HV.out]
          rfl
        clear hx
        go_wp2
        go_round
        case rel => exact ⟨j + 1, v ^^^ x, by omega, by go_num, rfl, HS⟩
        case measure => simp [intOf] <;> omega
      · have hjn : j = n := by omega
        subst hjn
        go_wp2
        go_ret
        have h3 := HV.out
        rw [List.take_of_length_le (by rw [hn.out]; exact Nat.le_refl _), HY.out] at h3
        subst h3
        exact ⟨rfl, rfl⟩
end Go.Proofs.YtcnbmfaicbkhcaaGreatDoor

/-
  Expressions (expr.Arena), 7: Words.
-/
set_option maxRecDepth 100000
namespace Go.Proofs.YtcnbmfaicbkhcaaGreatDoor
open Go Go.RowKit
attribute [local irreducible] wpList Calls Code.wp joinA joinW mayF maysE wordS

theorem nil_at {i l : Int} (w : World) : Calls Tryz.prog 131 #[.pointer none, .int .i64 i, .int .i64 l] w fun e w' => e = .returned (.pointer none) ∧ w' = w := by
  go_enter Tryz.func131, Tryz.ntmps131
  go_wp2
  go_ret
  exact ⟨rfl, rfl⟩
theorem nil_word (level a : Int) (w : World) : Calls Tryz.prog 308 #[.pointer none, .int .i64 level, .int .i64 a] w fun e w' => e = .returned (.int .u64 0) ∧ w' = w := by
  by_cases h0 : level < 0
  · go_enter Tryz.func308, Tryz.ntmps308
    go_wp2
    go_ret
    exact ⟨rfl, rfl⟩
  · by_cases h4 : 4 ≤ level
    · go_enter Tryz.func308, Tryz.ntmps308
      go_wp2
      go_ret
      exact ⟨rfl, rfl⟩
    · go_enter Tryz.func308, Tryz.ntmps308
      go_wp2_with (first
        | (go_at_call 131; refine (nil_at _).mono ?_; rintro e w' ⟨rfl, rfl⟩))
      all_goals
        go_ret
        exact ⟨rfl, rfl⟩
/-- A set's pointer, and its numbers: nil has none. -/
def SetW (w : World) (v : Value) (S : List Nat) : Prop := (v = .pointer none ∧ S = []) ∨ ∃ T w0 M, v = ptr T ∧ St w0 (HSet T S :: M) w
theorem SetW.grew {w w' : World} {v : Value} {S : List Nat} (h : SetW w v S) (hg : Grew w w') : SetW w' v S := by
  rcases h with h | ⟨T, w0, M, rfl, hs⟩
  · exact .inl h
  · exact .inr ⟨T, w0, M, rfl, hs.grew hg⟩
theorem wordS_nil (level a : Int) : wordS [] level a = 0 := by
  unfold wordS
  split
  · exact Classical.byContradiction fun h => by
      obtain ⟨i, hi, _⟩ := wordOf_ne.1 h
      cases hi
  · rfl
theorem wordS_lt (S : List Nat) (level a : Int) : wordS S level a < 2 ^ 64 := by
  unfold wordS
  split
  · exact wordOf_lt _ _
  · decide
theorem setw_word {w wb : World} {v : Value} {S : List Nat} (hv : SetW w v S) (hg : Grew w wb) (level a : Int) {x : Nat} (hx : Hid (wordS S level a = x)) :
    Calls Tryz.prog 308 #[v, .int .i64 level, .int .i64 a] wb fun e w' => e = .returned (.int .u64 (x : Nat)) ∧ Grew wb w' := by
  rcases hv with ⟨rfl, rfl⟩ | ⟨T, w0, M, rfl, hs⟩
  · refine (nil_word level a wb).mono ?_
    rintro e w' ⟨rfl, rfl⟩
    rw [← hx.out, wordS_nil]
    exact ⟨rfl, Grew.refl _⟩
  · rw [← hx.out]
    exact hword_g (hs.grew hg) level a
theorem not_u64 {z : Nat} (hz : z < 2 ^ 64) : bits .xor .u64 (if IntKind.u64.signed = true then -1 else IntKind.u64.max) (z : Int) = (notW z : Nat) := by
  have e : (if IntKind.u64.signed = true then -1 else IntKind.u64.max) = ((18446744073709551615 : Nat) : Int) := by decide
  rw [e, xor_u64 _ _ (by decide) hz]
  congr 1
  refine word_ext (Nat.xor_lt_two_pow (by decide) hz) (notW_lt z) fun d hd => ?_
  rw [Nat.testBit_xor, full_bit hd, notW_bit hz hd, Bool.true_xor]
def u64s (W : List Nat) : List Value := W.map fun x => Value.int .u64 (x : Nat)
theorem u64s_len (W : List Nat) : (u64s W).length = W.length := by simp [u64s]
theorem u64s_get {W : List Nat} {i : Nat} (h : i < W.length) : (u64s W)[i]? = some (.int .u64 (W.getD i 0 : Nat)) := by
  unfold u64s
  rw [List.getElem?_map, List.getD_eq_getElem?_getD, List.getElem?_eq_getElem h]
  rfl
theorem u64s_set (W : List Nat) (i x : Nat) : (u64s W).set i (.int .u64 (x : Nat)) = u64s (W.set i x) := by
  unfold u64s
  rw [List.map_set]
/-- j of the needed nodes have their words. -/
structure WoI (R : List Nat) (M : List Nat) (n j : Nat) (W : List Nat) : Prop where
  len : W.length = n + 1
  at_ : ∀ i ∈ R.take j, W.getD i 0 = M.getD i 0
theorem WoI.step {R M W : List Nat} {n j i x : Nat} (h : WoI R M n j W) (hi : R[j]? = some i) (hn : i ≤ n) (hx : M.getD i 0 = x) : WoI R M n (j + 1) (W.set i x) := by
  refine ⟨by rw [List.length_set]; exact h.len, fun k hk => ?_⟩
  rw [List.take_add_one, hi] at hk
  rw [List.getD_eq_getElem?_getD, List.getElem?_set]
  split
  · rename_i e
    subst e
    rw [if_pos (by rw [h.len]; omega), hx]
    rfl
  · rename_i e
    rcases List.mem_append.1 hk with h1 | h1
    · rw [← List.getD_eq_getElem?_getD]; exact h.at_ k h1
    · simp at h1; omega
theorem mem_take_of_lt {R : List Nat} {j i y : Nat} (hs : R.Pairwise (· < ·)) (hi : R[j]? = some i) (hy : y ∈ R) (hlt : y < i) : y ∈ R.take j := by
  obtain ⟨k, hk, rfl⟩ := List.getElem_of_mem hy
  obtain ⟨hj, rfl⟩ := List.getElem?_eq_some_iff.1 hi
  have : k < j := by
    rcases Nat.lt_trichotomy k j with h | h | h
    · exact h
    · subst h; omega
    · have := List.pairwise_iff_getElem.1 hs j k hj hk h; omega
  exact List.mem_take_iff_getElem.2 ⟨k, by omega, rfl⟩
def arrW (xs : List Nat) (q : Nat) : List Nat := xs.take q ++ List.replicate (64 - q) 0
theorem arrW_set {xs : List Nat} {q x : Nat} (h : xs[q]? = some x) (h64 : xs.length ≤ 64) : (arrW xs q).set q x = arrW xs (q + 1) := by
  obtain ⟨hq, rfl⟩ := List.getElem?_eq_some_iff.1 h
  unfold arrW
  rw [List.set_append_right _ _ (by rw [List.length_take]; omega), List.length_take, show q - min q xs.length = 0 by omega, show 64 - q = (64 - (q + 1)) + 1 by omega, List.replicate_succ, List.set_cons_zero, List.take_succ_eq_append_getElem hq, List.append_assoc]
  rfl
theorem arrW_get {xs : List Nat} {q x : Nat} (h : xs[q]? = some x) : (arrW xs xs.length)[q]? = some x := by
  unfold arrW
  rw [List.take_length, List.getElem?_append_left (List.getElem?_eq_some_iff.1 h).1]
  exact h
theorem arrW_len {xs : List Nat} {q : Nat} (h : q ≤ xs.length) (h64 : xs.length ≤ 64) : (arrW xs q).length = 64 := by
  unfold arrW
  rw [List.length_append, List.length_take, List.length_replicate]
  omega
theorem zero_arr : (Value.agg (List.replicate 64 (Value.int .u64 0)).toArray).cells = (u64s (arrW [] 0)).toArray := by
  unfold arrW u64s
  simp [Value.cells]
theorem len_arr64 : Tryz.prog.arrayLen 415 = 64 := by kernel_rfl
theorem und_arr64 : Tryz.prog.underlying 415 = some (.array (Tryz.prog.arrayLen 415) (Tryz.prog.elem 415)) := by kernel_rfl
theorem elem_arr64 : (Tryz.prog.info? (Tryz.prog.elem 415)).map (·.size) = some 1 := by kernel_rfl
theorem slice_arr64 (g n : Nat) (h : n ≤ 64) (w : World) : (Instr.sliceAt 415 (.pointer (some ⟨g, 0, none⟩)) none (some (.int .i64 (n : Nat))) none).run Tryz.prog w = .ok (.slice (some ⟨g, 0, none⟩) n 64) w := by
  have e := elem_arr64
  rw [run_sliceAt_array_h w _ _ und_arr64 .i64 (n : Nat) (by omega) (by rw [len_arr64]; omega), len_arr64]
  cases hq : Tryz.prog.info? (Tryz.prog.elem 415) with
  | none => rw [hq] at e; cases e
  | some i =>
    simp [sizeOf, typeInfo, hq, slicedAt, Addr.add]
theorem sorted_few {m : Nat} : ∀ (l : List Nat) (b : Nat), l.Pairwise (· < ·) → (∀ x ∈ l, b ≤ x ∧ x < m) → l.length ≤ m - b
  | [], _, _, _ => Nat.zero_le _
  | a :: l, b, h, hb => by
    rw [List.pairwise_cons] at h
    have h1 := hb a List.mem_cons_self
    have := sorted_few l (a + 1) h.2 fun x hx => ⟨h.1 x hx, (hb x (List.mem_cons_of_mem _ hx)).2⟩
    rw [List.length_cons]
    omega
set_option maxHeartbeats 2000000 in
theorem words_c {w0 w : World} {L : List As} {D g n : Nat} {l : List NodeE} {ss : List Value} {R : List Nat} {A : Option Addr} {capR : Nat} {W : List Nat} (hs : St w0 (own (some ⟨g, 0, none⟩) (n + 1) (n + 1) 267 1 (u64s W) :: L) w) {N0 P0 : Option Addr} {cap0 cap20 : Nat} (hv0 : ExV D l ss N0 cap0 P0 cap20 w0) (hW : W.length = n + 1) (hok : ArOk l ss.length) (hn : n < l.length)
    (hR : NeedOk l n R) {r : Nat} (hRl : Hid (R.length = r)) (hr : RdS w0 L A (ints (natI R))) {level at_ : Int} {lv : Bool} (hlv : Hid (decide (0 < level) = lv)) {Ss : Nat → List Nat} (hsets : ∀ s v, ss[s]? = some v → SetW w0 v (Ss s))
    {M : List Nat} (hM : Hid (maysE lv (fun s => wordS (Ss s) level at_) l = M)) {x : Nat} (hx : Hid (M.getD n 0 = x)) :
    Calls Tryz.prog 259 #[ptr D, .slice A r capR, .int .i64 level, .int .i64 at_, .slice (some ⟨g, 0, none⟩) (n + 1) (n + 1)] w fun e w' => e = .returned (.int .u64 (x : Nat)) ∧
      ∃ W', W'.length = n + 1 ∧ St w0 (own (some ⟨g, 0, none⟩) (n + 1) (n + 1) 267 1 (u64s W') :: L) w' := by
  have hfew := hok.few
  have HO := Lib.hid hok
  have HV0 := Lib.hid hv0
  have HR := Lib.hid hR
  have HS := Lib.hid hsets
  have hI : WoI R M n 0 W := ⟨hW, fun i hi => by simp at hi⟩
  clear hok hR hsets hW hv0
  have hrn : r ≤ 1000 := by
    rw [← hRl.out]
    have := sorted_few (m := n + 1) R 0 HR.out.sorted fun x hx => ⟨Nat.zero_le _, by have := HR.out.low x hx; omega⟩
    omega
  unfold ptr
  go_enter Tryz.func259, Tryz.ntmps259
  go_wp2
  go_loopw [20] (fun cv wr => ∃ (j : Nat) (W : List Nat), j ≤ r ∧ cv = .int .i64 (j : Nat) ∧ WoI R M n j W ∧ St w0 (own (some ⟨g, 0, none⟩) (n + 1) (n + 1) 267 1 (u64s W) :: L) wr) (fun cv _ => r - (intOf cv).toNat)
  case atStart => exact ⟨0, W, Nat.zero_le _, rfl, hI, hs⟩
  case round =>
    clear hs hI
    obtain ⟨j, W, hj, rfl, HI, hs⟩ := hrel
    by_cases hlt : j < r
    · obtain ⟨i, hi⟩ : ∃ i, R[j]? = some i := ⟨_, List.getElem?_eq_getElem (by rw [hRl.out]; exact hlt)⟩
      have hin := HR.out.low i (List.mem_of_getElem? hi)
      obtain ⟨y, hy⟩ : ∃ y, l[i]? = some y := ⟨_, List.getElem?_eq_getElem (by omega)⟩
      have hv := HV0.out.grew hs.made_grew
      obtain ⟨gn, B, bc, rfl, r1, r2, r3⟩ := hv.row i y hy
      have d0 := hv.d0
      have d1 := hv.d1
      obtain ⟨b, o, rfl, hcr⟩ := hr.get (ints_get (show (natI R)[j]? = some (i : Int) by unfold natI; rw [List.getElem?_map, hi]; rfl))
      have hcr := hcr _ hs.drop
      have hil : i < l.length := by omega
      have hw := St.start wr
      have hsx := Lib.hid hv.set
      clear hv hw
      by_cases k1 : y.k = 1
      · obtain ⟨s, hks, hsm⟩ := HO.out.set i y hy k1
        obtain ⟨v, hv⟩ : ∃ v, ss[s]? = some v := ⟨_, List.getElem?_eq_getElem hsm⟩
        obtain ⟨gp, rfl, d2⟩ := hsx.out s v hv
        obtain ⟨b2, rfl, r4⟩ := r3 0 s (by rw [hks]; rfl)
        have hst := HS.out s v hv
        have hM1 : M.getD i 0 = wordS (Ss s) level at_ := by
          rw [← hM.out, mays_at HO.out hy (f := fun _ => 0) (fun h => absurd k1 h)]
          unfold mayF
          rw [if_pos k1, hks]
          rfl
        have HI2 := Lib.hid (HI.step hi hin rfl)
        rw [hM1] at HI2
        obtain ⟨z, HZ⟩ : ∃ z, Hid (wordS (Ss s) level at_ = z) := ⟨_, rfl⟩
        rw [HZ.out] at HI2
        rw [k1] at r1
        rw [hks] at r2
        replace r2 : wr.cell? ⟨gn, i * 2 + 1, none⟩ = some (.slice (some ⟨b2, 0, none⟩) 1 bc) := r2
        have HWl := Lib.hid HI.len
        clear r3 hks hM1 HI k1 hi hy hv
        go_wp2
        have hw := (St.start wr).alloc #[.int .i64 1, .slice (some ⟨b2, 0, none⟩) 1 bc] 413
        generalize wr.heap.size = g13 at hw ⊢
        refine wp_gen hw ?_
        clear hw
        intro w1 hw
        replace hs := hs.made hw
        replace hcr := hw.made_grew.cell hcr
        replace d0 := hw.made_grew.cell d0
        replace d1 := hw.made_grew.cell d1
        replace d2 := hw.made_grew.cell d2
        replace r4 := hw.made_grew.cell r4
        have r5 : w1.cell? ⟨g13, 1, none⟩ = some (.slice (some ⟨b2, 0, none⟩) 1 bc) := Rd.blk (by rfl) w1 hs
        clear hw r1 r2 hcr d0
        refine wp_region_chain [false, false, false, false, false, false, false, false, false, false, false, false, false, false, false, false, true] (by kernel_rfl) (by kernel_rfl) ?_
        intro wb hb
        have hne : Nonempty (GW wb) := ⟨⟨wb, Grew.refl _⟩⟩
        replace hs := hs.grew hb
        have e1 : ∀ p : GW wb, p.w.cell? ⟨D, 1, none⟩ = _ := fun p => p.grew.cell (hb.cell d1)
        have e2 : ∀ p : GW wb, p.w.cell? ⟨gp, s, none⟩ = _ := fun p => p.grew.cell (hb.cell d2)
        have e3 : ∀ p : GW wb, p.w.cell? ⟨b2, 0, none⟩ = _ := fun p => p.grew.cell (hb.cell r4)
        have e4 : ∀ p : GW wb, p.w.cell? ⟨g13, 1, none⟩ = _ := fun p => p.grew.cell (hb.cell r5)
        clear d1 d2 r4 r5 hb
        simp only [pickOps]
        repeat (go_big_quiet_step ((first
          | (go_at_call 308; exact in_grew (setw_word hst (hs.made_grew.trans (GW.grew _)) level at_ HZ)))))
        refine wpQuiet_nil ?_
        intro u hu
        replace hs := hs.grew hu
        clear hne e1 e2 e3 e4 hu
        simp only [chainIx]
        refine wpChain_last rfl ?_
        refine wpl_store (v := .int .u64 (z : Nat)) rfl rfl rfl size_word hs (Wr.own (by rw [u64s_len, HWl.out]; omega)).tail ?_
        clear hs
        intro w3 hs
        rw [u64s_set] at hs
        replace hs := hs.drop
        refine wpList_nil ⟨rfl, ?_⟩
        go_wp2
        go_roundw
        case rel => exact ⟨j + 1, W.set i z, by omega, by go_num, HI2.out, hs⟩
        case measure => simp [intOf] <;> omega
      · have k1' : ((y.k : Int) == 1) = false := by simp; omega
        obtain ⟨c1, c2, c3⟩ := HO.out.kind i y hy
        by_cases k5 : y.k = 5
        · cases lv with
          | true =>
            have hM1 : M.getD i 0 = 18446744073709551615 := by
              rw [← hM.out, mays_at HO.out hy (f := fun q => (maysE true (fun s => wordS (Ss s) level at_) l).getD q 0) (fun _ _ _ => rfl)]
              unfold mayF
              rw [if_neg k1, if_pos k5]
              rfl
            have HI2 := Lib.hid (HI.step hi hin rfl)
            rw [hM1] at HI2
            have HWl := Lib.hid HI.len
            have hl : decide (0 < level) = true := hlv.out
            rw [k5] at r1
            clear r3 hM1 k1 hi hy HI k1'
            go_wp2_with (first
              | (refine wpl_store (v := .int .u64 (18446744073709551615 : Nat)) rfl rfl rfl size_word (hs.made ((St.start wr).alloc _ _)) (Wr.own (by rw [u64s_len, HWl.out]; omega)).tail ?_; clear hs r1 r2 d0 d1 hcr; intro w3 hs; rw [u64s_set] at hs; replace hs := hs.drop))
            go_roundw
            case rel => exact ⟨j + 1, W.set i 18446744073709551615, by omega, by go_num, HI2.out, hs⟩
            case measure => simp [intOf] <;> omega
          | false =>
            have hn1 := HO.out.not i y hy k5
            obtain ⟨q, hks⟩ : ∃ q, y.kids = [q] := List.length_eq_one_iff.1 hn1
            have hqm : q ∈ y.kids := by rw [hks]; exact List.mem_cons_self
            have hqi := HO.out.low i y hy k1 q hqm
            have hqR := mem_take_of_lt HR.out.sorted hi (HR.out.kids i (List.mem_of_getElem? hi) y hy k1 q hqm) hqi
            have hM1 : M.getD i 0 = notW (W.getD q 0) := by
              rw [← hM.out, mays_at HO.out hy (f := fun q => W.getD q 0) (fun _ q' hq' => by
                rw [hks, List.mem_singleton] at hq'
                subst hq'
                rw [hM.out]
                exact HI.at_ q' hqR)]
              unfold mayF
              rw [if_neg k1, if_pos k5, hks]
              rfl
            have HI2 := Lib.hid (HI.step hi hin rfl)
            have hWq : W.getD q 0 < 2 ^ 64 := by
              rw [HI.at_ q hqR, ← hM.out]
              exact mays_lt (fun s => wordS_lt _ _ _) l q
            have r5 := Rd.own (w0 := w0) (g := g) (n := n + 1) (cap := n + 1) (e := 267) (size := 1) (L := L) (u64s_get (show q < W.length by rw [HI.len]; omega)) _ hs
            rw [hM1] at HI2
            obtain ⟨z, HZ⟩ : ∃ z, Hid (W.getD q 0 = z) := ⟨_, rfl⟩
            rw [HZ.out] at HI2 r5 hWq
            obtain ⟨b2, rfl, r4⟩ := r3 0 q (by rw [hks]; rfl)
            have HWl := Lib.hid HI.len
            have hl : decide (0 < level) = false := hlv.out
            have hqn : q < n + 1 := by omega
            rw [k5] at r1
            rw [hks] at r2
            replace r2 : wr.cell? ⟨gn, i * 2 + 1, none⟩ = some (.slice (some ⟨b2, 0, none⟩) 1 bc) := r2
            clear r3 hM1 k1 hi hy HI k1' hks hqm hqR hn1
            have HNO := Lib.hid (not_u64 hWq)
            go_upto_region 10 with (fail)
            have hw := (St.start wr).alloc #[.int .i64 5, .slice (some ⟨b2, 0, none⟩) 1 bc] 413
            generalize wr.heap.size = g13 at hw ⊢
            refine wp_gen hw ?_
            clear hw
            intro w1 hw
            replace hs := hs.made hw
            replace r4 := hw.made_grew.cell r4
            replace r5 := hw.made_grew.cell r5
            have r6 : w1.cell? ⟨g13, 1, none⟩ = some (.slice (some ⟨b2, 0, none⟩) 1 bc) := Rd.blk (by rfl) w1 hs
            clear hw r1 r2 hcr d0 d1
            go_wp2_with (first
              | (refine wpl_store (v := .int .u64 (notW z : Nat)) rfl ?hx rfl size_word hs (Wr.own (k := i) (by rw [u64s_len, HWl.out]; omega)).tail ?_; (case hx => simp [Act.eval] <;> exact HNO.out); clear hs r4 r5 r6; intro w3 hs; rw [u64s_set] at hs; replace hs := hs.drop))
            go_roundw
            case rel => exact ⟨j + 1, W.set i (notW z), by omega, by go_num, HI2.out, hs⟩
            case measure => simp [intOf] <;> omega
        · have k5' : ((y.k : Int) == 5) = false := by simp; omega
          have hM1 : M.getD i 0 = joinW (mayK lv y.k) (y.kids.map fun q => W.getD q 0) := by
            rw [← hM.out, mays_at HO.out hy (f := fun q => W.getD q 0) (fun _ q hq => by
              rw [hM.out]
              exact HI.at_ q (mem_take_of_lt HR.out.sorted hi (HR.out.kids i (List.mem_of_getElem? hi) y hy k1 q hq) (HO.out.low i y hy k1 q hq)))]
            unfold mayF
            rw [if_neg k1, if_neg k5]
          have HI2 := Lib.hid (HI.step hi hin rfl)
          rw [hM1] at HI2
          have HWl := Lib.hid HI.len
          have hXlt : ∀ v ∈ y.kids.map (fun q => W.getD q 0), v < 2 ^ 64 := fun v hv => by
            obtain ⟨q, hq, rfl⟩ := List.mem_map.1 hv
            rw [HI.at_ q (mem_take_of_lt HR.out.sorted hi (HR.out.kids i (List.mem_of_getElem? hi) y hy k1 q hq) (HO.out.low i y hy k1 q hq)), ← hM.out]
            exact mays_lt (fun s => wordS_lt _ _ _) l q
          have HLo : Hid (∀ q ∈ y.kids, q < n + 1) := fun q hq => by
            have := HO.out.low i y hy k1 q hq
            omega
          have R3 := Lib.hid r3
          have HXl : Hid (∀ v ∈ y.kids.map (fun q => W.getD q 0), v < 2 ^ 64) := hXlt
          have hl : decide (0 < level) = lv := hlv.out
          clear hM1 hi hy HI hXlt r3 hsx
          obtain ⟨yk, ys⟩ := y
          simp only at *
          have h234 : yk = 2 ∨ yk = 3 ∨ yk = 4 := by omega
          clear k1 k1' k5 k5' c1 c2
          replace c3 : ys.length ≤ 64 := c3
          rcases h234 with rfl | rfl | rfl
          · skip
            go_upto_region 14 with (fail)
            have hw := (St.start wr).alloc #[.int .i64 2, .slice B ys.length bc] 413
            generalize wr.heap.size = g13 at hw ⊢
            refine wp_gen hw ?_
            clear hw
            intro w1 hw
            clear r1 r2 hcr d0 d1
            go_upto_region 15 with (first
              | (refine wpl_alloc (z := .agg (List.replicate 64 (Value.int .u64 0)).toArray) (by kernel_rfl) hw ?_; clear hw; intro g15 w2 hw; rw [zero_arr] at hw))
            obtain ⟨xs, hxs⟩ : ∃ xs, Hid (ys.map (fun q => W.getD q 0) = xs) := ⟨_, rfl⟩
            rw [hxs.out] at HXl HI2
            have hxl : xs.length = ys.length := by rw [← hxs.out, List.length_map]
            have r7 : w2.cell? ⟨g13, 1, none⟩ = some (.slice B ys.length bc) := Rd.blk (by rfl) w2 hw.rot
            have hb : Grew wr w2 := hw.made_grew
            go_wp2
            go_loopw [88] (fun cv wi => ∃ q : Nat, q ≤ ys.length ∧ cv = .int .i64 (q : Nat) ∧ St wr [blk g15 (u64s (arrW xs q)).toArray 415, blk g13 #[.int .i64 2, .slice B ys.length bc] 413] wi) (fun cv _ => ys.length - (intOf cv).toNat)
            case atStart => exact ⟨0, Nat.zero_le _, rfl, by rw [show arrW xs 0 = arrW [] 0 by unfold arrW; simp]; exact hw⟩
            case round =>
              clear hw r7 hb
              obtain ⟨q, hq, rfl, hw⟩ := hrel
              by_cases hlq : q < ys.length
              · obtain ⟨k, hk⟩ : ∃ k, ys[q]? = some k := ⟨_, List.getElem?_eq_getElem hlq⟩
                obtain ⟨b2, rfl, r4⟩ := R3.out q k hk
                have hkn := HLo.out k (List.mem_of_getElem? hk)
                have r5 := Rd.own (w0 := w0) (g := g) (n := n + 1) (cap := n + 1) (e := 267) (size := 1) (L := L) (u64s_get (show k < W.length by rw [HWl.out]; exact hkn)) _ hs
                replace r4 := hw.made_grew.cell r4
                replace r5 := hw.made_grew.cell r5
                have HA := Lib.hid (arrW_set (xs := xs) (q := q) (x := W.getD k 0) (by rw [← hxs.out, List.getElem?_map, hk]; rfl) (by omega))
                have HAl := Lib.hid (arrW_len (xs := xs) (q := q) (by omega) (by omega))
                have hq64 : q < 64 := by omega
                generalize W.getD k 0 = z at *
                clear hk
                go_wp2_with (first
                  | (refine wpl_store (v := .int .u64 (z : Nat)) rfl rfl rfl size_word hw (Wr.blk (by simp only [List.size_toArray, u64s_len]; rw [HAl.out]; omega)) ?_; clear hw r4 r5; intro w3 hw; rw [List.setIfInBounds_toArray, u64s_set, HA.out] at hw))
                go_roundw
                case rel => exact ⟨q + 1, by omega, by go_num, hw⟩
                case measure => simp [intOf] <;> omega
              · have hqn : q = ys.length := by omega
                subst hqn
                have hK : mayK lv 2 = 2 := by unfold mayK; simp
                rw [hK] at HI2
                obtain ⟨z, HZ⟩ : ∃ z, Hid (joinW 2 xs = z) := ⟨_, rfl⟩
                rw [HZ.out] at HI2
                have r7 := Rd.blk (v := .slice B ys.length bc) (k := 1) (by rfl) _ hw.rot
                have hs2 := hs.mades hw
                have hsl := slice_arr64 g15 ys.length c3
                have hcl : Hid (∀ (jj x : Nat), xs[jj]? = some x → ∃ b, (some ⟨g15, 0, none⟩ : Option Addr) = some ⟨b, 0, none⟩ ∧ wr.cell? ⟨b, jj, none⟩ = some (.int .u64 (x : Nat))) := fun jj x h => ⟨g15, rfl, Rd.blk (by rw [List.getElem?_toArray, ← hxl, u64s_get (by rw [arrW_len (Nat.le_refl _) (by omega)]; have := (List.getElem?_eq_some_iff.1 h).1; omega), List.getD_eq_getElem?_getD, arrW_get h]; rfl) _ hw⟩
                clear hs hK
                go_wp2_with (first
                  | (go_at_call 309; refine (exjoin_c (k := 2) (xs := xs) (by decide) (Lib.hid hxl) c3 hcl.out HXl.out HZ).mono ?_; rintro e w' ⟨rfl, rfl⟩)
                  | (refine wpl_store (v := .int .u64 (z : Nat)) rfl rfl rfl size_word hs2 (Wr.own (k := i) (by rw [u64s_len, HWl.out]; omega)).tail.tail ?_; clear hs2 hw r7; intro w3 hs; rw [u64s_set] at hs; replace hs := hs.drop.drop))
                go_roundw
                case rel => exact ⟨j + 1, W.set i z, by omega, by go_num, HI2.out, hs⟩
                case measure => simp [intOf] <;> omega
          · skip
            go_upto_region 14 with (fail)
            have hw := (St.start wr).alloc #[.int .i64 3, .slice B ys.length bc] 413
            generalize wr.heap.size = g13 at hw ⊢
            refine wp_gen hw ?_
            clear hw
            intro w1 hw
            clear r1 r2 hcr d0 d1
            go_upto_region 15 with (first
              | (refine wpl_alloc (z := .agg (List.replicate 64 (Value.int .u64 0)).toArray) (by kernel_rfl) hw ?_; clear hw; intro g15 w2 hw; rw [zero_arr] at hw))
            obtain ⟨xs, hxs⟩ : ∃ xs, Hid (ys.map (fun q => W.getD q 0) = xs) := ⟨_, rfl⟩
            rw [hxs.out] at HXl HI2
            have hxl : xs.length = ys.length := by rw [← hxs.out, List.length_map]
            have r7 : w2.cell? ⟨g13, 1, none⟩ = some (.slice B ys.length bc) := Rd.blk (by rfl) w2 hw.rot
            have hb : Grew wr w2 := hw.made_grew
            go_wp2
            go_loopw [88] (fun cv wi => ∃ q : Nat, q ≤ ys.length ∧ cv = .int .i64 (q : Nat) ∧ St wr [blk g15 (u64s (arrW xs q)).toArray 415, blk g13 #[.int .i64 3, .slice B ys.length bc] 413] wi) (fun cv _ => ys.length - (intOf cv).toNat)
            case atStart => exact ⟨0, Nat.zero_le _, rfl, by rw [show arrW xs 0 = arrW [] 0 by unfold arrW; simp]; exact hw⟩
            case round =>
              clear hw r7 hb
              obtain ⟨q, hq, rfl, hw⟩ := hrel
              by_cases hlq : q < ys.length
              · obtain ⟨k, hk⟩ : ∃ k, ys[q]? = some k := ⟨_, List.getElem?_eq_getElem hlq⟩
                obtain ⟨b2, rfl, r4⟩ := R3.out q k hk
                have hkn := HLo.out k (List.mem_of_getElem? hk)
                have r5 := Rd.own (w0 := w0) (g := g) (n := n + 1) (cap := n + 1) (e := 267) (size := 1) (L := L) (u64s_get (show k < W.length by rw [HWl.out]; exact hkn)) _ hs
                replace r4 := hw.made_grew.cell r4
                replace r5 := hw.made_grew.cell r5
                have HA := Lib.hid (arrW_set (xs := xs) (q := q) (x := W.getD k 0) (by rw [← hxs.out, List.getElem?_map, hk]; rfl) (by omega))
                have HAl := Lib.hid (arrW_len (xs := xs) (q := q) (by omega) (by omega))
                have hq64 : q < 64 := by omega
                generalize W.getD k 0 = z at *
                clear hk
                go_wp2_with (first
                  | (refine wpl_store (v := .int .u64 (z : Nat)) rfl rfl rfl size_word hw (Wr.blk (by simp only [List.size_toArray, u64s_len]; rw [HAl.out]; omega)) ?_; clear hw r4 r5; intro w3 hw; rw [List.setIfInBounds_toArray, u64s_set, HA.out] at hw))
                go_roundw
                case rel => exact ⟨q + 1, by omega, by go_num, hw⟩
                case measure => simp [intOf] <;> omega
              · have hqn : q = ys.length := by omega
                subst hqn
                have hK : mayK lv 3 = 3 := by unfold mayK; simp
                rw [hK] at HI2
                obtain ⟨z, HZ⟩ : ∃ z, Hid (joinW 3 xs = z) := ⟨_, rfl⟩
                rw [HZ.out] at HI2
                have r7 := Rd.blk (v := .slice B ys.length bc) (k := 1) (by rfl) _ hw.rot
                have hs2 := hs.mades hw
                have hsl := slice_arr64 g15 ys.length c3
                have hcl : Hid (∀ (jj x : Nat), xs[jj]? = some x → ∃ b, (some ⟨g15, 0, none⟩ : Option Addr) = some ⟨b, 0, none⟩ ∧ wr.cell? ⟨b, jj, none⟩ = some (.int .u64 (x : Nat))) := fun jj x h => ⟨g15, rfl, Rd.blk (by rw [List.getElem?_toArray, ← hxl, u64s_get (by rw [arrW_len (Nat.le_refl _) (by omega)]; have := (List.getElem?_eq_some_iff.1 h).1; omega), List.getD_eq_getElem?_getD, arrW_get h]; rfl) _ hw⟩
                clear hs hK
                go_wp2_with (first
                  | (go_at_call 309; refine (exjoin_c (k := 3) (xs := xs) (by decide) (Lib.hid hxl) c3 hcl.out HXl.out HZ).mono ?_; rintro e w' ⟨rfl, rfl⟩)
                  | (refine wpl_store (v := .int .u64 (z : Nat)) rfl rfl rfl size_word hs2 (Wr.own (k := i) (by rw [u64s_len, HWl.out]; omega)).tail.tail ?_; clear hs2 hw r7; intro w3 hs; rw [u64s_set] at hs; replace hs := hs.drop.drop))
                go_roundw
                case rel => exact ⟨j + 1, W.set i z, by omega, by go_num, HI2.out, hs⟩
                case measure => simp [intOf] <;> omega
          · cases lv with
            | true =>
              go_upto_region 14 with (fail)
              have hw := (St.start wr).alloc #[.int .i64 4, .slice B ys.length bc] 413
              generalize wr.heap.size = g13 at hw ⊢
              refine wp_gen hw ?_
              clear hw
              intro w1 hw
              clear r1 r2 hcr d0 d1
              go_upto_region 15 with (first
                | (refine wpl_alloc (z := .agg (List.replicate 64 (Value.int .u64 0)).toArray) (by kernel_rfl) hw ?_; clear hw; intro g15 w2 hw; rw [zero_arr] at hw))
              obtain ⟨xs, hxs⟩ : ∃ xs, Hid (ys.map (fun q => W.getD q 0) = xs) := ⟨_, rfl⟩
              rw [hxs.out] at HXl HI2
              have hxl : xs.length = ys.length := by rw [← hxs.out, List.length_map]
              have r7 : w2.cell? ⟨g13, 1, none⟩ = some (.slice B ys.length bc) := Rd.blk (by rfl) w2 hw.rot
              have hb : Grew wr w2 := hw.made_grew
              go_wp2
              go_loopw [88] (fun cv wi => ∃ q : Nat, q ≤ ys.length ∧ cv = .int .i64 (q : Nat) ∧ St wr [blk g15 (u64s (arrW xs q)).toArray 415, blk g13 #[.int .i64 4, .slice B ys.length bc] 413] wi) (fun cv _ => ys.length - (intOf cv).toNat)
              case atStart => exact ⟨0, Nat.zero_le _, rfl, by rw [show arrW xs 0 = arrW [] 0 by unfold arrW; simp]; exact hw⟩
              case round =>
                clear hw r7 hb
                obtain ⟨q, hq, rfl, hw⟩ := hrel
                by_cases hlq : q < ys.length
                · obtain ⟨k, hk⟩ : ∃ k, ys[q]? = some k := ⟨_, List.getElem?_eq_getElem hlq⟩
                  obtain ⟨b2, rfl, r4⟩ := R3.out q k hk
                  have hkn := HLo.out k (List.mem_of_getElem? hk)
                  have r5 := Rd.own (w0 := w0) (g := g) (n := n + 1) (cap := n + 1) (e := 267) (size := 1) (L := L) (u64s_get (show k < W.length by rw [HWl.out]; exact hkn)) _ hs
                  replace r4 := hw.made_grew.cell r4
                  replace r5 := hw.made_grew.cell r5
                  have HA := Lib.hid (arrW_set (xs := xs) (q := q) (x := W.getD k 0) (by rw [← hxs.out, List.getElem?_map, hk]; rfl) (by omega))
                  have HAl := Lib.hid (arrW_len (xs := xs) (q := q) (by omega) (by omega))
                  have hq64 : q < 64 := by omega
                  generalize W.getD k 0 = z at *
                  clear hk
                  go_wp2_with (first
                    | (refine wpl_store (v := .int .u64 (z : Nat)) rfl rfl rfl size_word hw (Wr.blk (by simp only [List.size_toArray, u64s_len]; rw [HAl.out]; omega)) ?_; clear hw r4 r5; intro w3 hw; rw [List.setIfInBounds_toArray, u64s_set, HA.out] at hw))
                  go_roundw
                  case rel => exact ⟨q + 1, by omega, by go_num, hw⟩
                  case measure => simp [intOf] <;> omega
                · have hqn : q = ys.length := by omega
                  subst hqn
                  have hK : mayK true 4 = 3 := by unfold mayK; simp
                  rw [hK] at HI2
                  obtain ⟨z, HZ⟩ : ∃ z, Hid (joinW 3 xs = z) := ⟨_, rfl⟩
                  rw [HZ.out] at HI2
                  have r7 := Rd.blk (v := .slice B ys.length bc) (k := 1) (by rfl) _ hw.rot
                  have hs2 := hs.mades hw
                  have hsl := slice_arr64 g15 ys.length c3
                  have hcl : Hid (∀ (jj x : Nat), xs[jj]? = some x → ∃ b, (some ⟨g15, 0, none⟩ : Option Addr) = some ⟨b, 0, none⟩ ∧ wr.cell? ⟨b, jj, none⟩ = some (.int .u64 (x : Nat))) := fun jj x h => ⟨g15, rfl, Rd.blk (by rw [List.getElem?_toArray, ← hxl, u64s_get (by rw [arrW_len (Nat.le_refl _) (by omega)]; have := (List.getElem?_eq_some_iff.1 h).1; omega), List.getD_eq_getElem?_getD, arrW_get h]; rfl) _ hw⟩
                  clear hs hK
                  go_wp2_with (first
                    | (go_at_call 309; refine (exjoin_c (k := 3) (xs := xs) (by decide) (Lib.hid hxl) c3 hcl.out HXl.out HZ).mono ?_; rintro e w' ⟨rfl, rfl⟩)
                    | (refine wpl_store (v := .int .u64 (z : Nat)) rfl rfl rfl size_word hs2 (Wr.own (k := i) (by rw [u64s_len, HWl.out]; omega)).tail.tail ?_; clear hs2 hw r7; intro w3 hs; rw [u64s_set] at hs; replace hs := hs.drop.drop))
                  go_roundw
                  case rel => exact ⟨j + 1, W.set i z, by omega, by go_num, HI2.out, hs⟩
                  case measure => simp [intOf] <;> omega
            | false =>
              go_upto_region 14 with (fail)
              have hw := (St.start wr).alloc #[.int .i64 4, .slice B ys.length bc] 413
              generalize wr.heap.size = g13 at hw ⊢
              refine wp_gen hw ?_
              clear hw
              intro w1 hw
              clear r1 r2 hcr d0 d1
              go_upto_region 15 with (first
                | (refine wpl_alloc (z := .agg (List.replicate 64 (Value.int .u64 0)).toArray) (by kernel_rfl) hw ?_; clear hw; intro g15 w2 hw; rw [zero_arr] at hw))
              obtain ⟨xs, hxs⟩ : ∃ xs, Hid (ys.map (fun q => W.getD q 0) = xs) := ⟨_, rfl⟩
              rw [hxs.out] at HXl HI2
              have hxl : xs.length = ys.length := by rw [← hxs.out, List.length_map]
              have r7 : w2.cell? ⟨g13, 1, none⟩ = some (.slice B ys.length bc) := Rd.blk (by rfl) w2 hw.rot
              have hb : Grew wr w2 := hw.made_grew
              go_wp2
              go_loopw [88] (fun cv wi => ∃ q : Nat, q ≤ ys.length ∧ cv = .int .i64 (q : Nat) ∧ St wr [blk g15 (u64s (arrW xs q)).toArray 415, blk g13 #[.int .i64 4, .slice B ys.length bc] 413] wi) (fun cv _ => ys.length - (intOf cv).toNat)
              case atStart => exact ⟨0, Nat.zero_le _, rfl, by rw [show arrW xs 0 = arrW [] 0 by unfold arrW; simp]; exact hw⟩
              case round =>
                clear hw r7 hb
                obtain ⟨q, hq, rfl, hw⟩ := hrel
                by_cases hlq : q < ys.length
                · obtain ⟨k, hk⟩ : ∃ k, ys[q]? = some k := ⟨_, List.getElem?_eq_getElem hlq⟩
                  obtain ⟨b2, rfl, r4⟩ := R3.out q k hk
                  have hkn := HLo.out k (List.mem_of_getElem? hk)
                  have r5 := Rd.own (w0 := w0) (g := g) (n := n + 1) (cap := n + 1) (e := 267) (size := 1) (L := L) (u64s_get (show k < W.length by rw [HWl.out]; exact hkn)) _ hs
                  replace r4 := hw.made_grew.cell r4
                  replace r5 := hw.made_grew.cell r5
                  have HA := Lib.hid (arrW_set (xs := xs) (q := q) (x := W.getD k 0) (by rw [← hxs.out, List.getElem?_map, hk]; rfl) (by omega))
                  have HAl := Lib.hid (arrW_len (xs := xs) (q := q) (by omega) (by omega))
                  have hq64 : q < 64 := by omega
                  generalize W.getD k 0 = z at *
                  clear hk
                  go_wp2_with (first
                    | (refine wpl_store (v := .int .u64 (z : Nat)) rfl rfl rfl size_word hw (Wr.blk (by simp only [List.size_toArray, u64s_len]; rw [HAl.out]; omega)) ?_; clear hw r4 r5; intro w3 hw; rw [List.setIfInBounds_toArray, u64s_set, HA.out] at hw))
                  go_roundw
                  case rel => exact ⟨q + 1, by omega, by go_num, hw⟩
                  case measure => simp [intOf] <;> omega
                · have hqn : q = ys.length := by omega
                  subst hqn
                  have hK : mayK false 4 = 4 := by unfold mayK; simp
                  rw [hK] at HI2
                  obtain ⟨z, HZ⟩ : ∃ z, Hid (joinW 4 xs = z) := ⟨_, rfl⟩
                  rw [HZ.out] at HI2
                  have r7 := Rd.blk (v := .slice B ys.length bc) (k := 1) (by rfl) _ hw.rot
                  have hs2 := hs.mades hw
                  have hsl := slice_arr64 g15 ys.length c3
                  have hcl : Hid (∀ (jj x : Nat), xs[jj]? = some x → ∃ b, (some ⟨g15, 0, none⟩ : Option Addr) = some ⟨b, 0, none⟩ ∧ wr.cell? ⟨b, jj, none⟩ = some (.int .u64 (x : Nat))) := fun jj x h => ⟨g15, rfl, Rd.blk (by rw [List.getElem?_toArray, ← hxl, u64s_get (by rw [arrW_len (Nat.le_refl _) (by omega)]; have := (List.getElem?_eq_some_iff.1 h).1; omega), List.getD_eq_getElem?_getD, arrW_get h]; rfl) _ hw⟩
                  clear hs hK
                  go_wp2_with (first
                    | (go_at_call 309; refine (exjoin_c (k := 4) (xs := xs) (by decide) (Lib.hid hxl) c3 hcl.out HXl.out HZ).mono ?_; rintro e w' ⟨rfl, rfl⟩)
                    | (refine wpl_store (v := .int .u64 (z : Nat)) rfl rfl rfl size_word hs2 (Wr.own (k := i) (by rw [u64s_len, HWl.out]; omega)).tail.tail ?_; clear hs2 hw r7; intro w3 hs; rw [u64s_set] at hs; replace hs := hs.drop.drop))
                  go_roundw
                  case rel => exact ⟨j + 1, W.set i z, by omega, by go_num, HI2.out, hs⟩
                  case measure => simp [intOf] <;> omega
    · have hjr : j = r := by omega
      subst hjr
      have hlast : R[j - 1]? = some n := by rw [← hRl.out, ← List.getLast?_eq_getElem?]; exact HR.out.last
      have hj1 : 1 ≤ j := by
        rcases Nat.eq_zero_or_pos j with h | h
        · have h1 := (List.getElem?_eq_some_iff.1 hlast).1
          rw [hRl.out] at h1
          omega
        · exact h
      obtain ⟨b, o, rfl, hcr⟩ := hr.get (ints_get (show (natI R)[j - 1]? = some (n : Int) by unfold natI; rw [List.getElem?_map, hlast]; rfl))
      have hcr := hcr _ hs.drop
      have hWn : W.getD n 0 = x := by
        rw [HI.at_ n (by rw [← hRl.out, List.take_length]; exact List.mem_of_getElem? hlast), hx.out]
      have r5 := Rd.own (w0 := w0) (g := g) (n := n + 1) (cap := n + 1) (e := 267) (size := 1) (L := L) (u64s_get (show n < W.length by rw [HI.len]; omega)) _ hs
      rw [hWn] at r5
      have HI2 := Lib.hid HI.len
      obtain ⟨jj, rfl⟩ : ∃ jj, j = jj + 1 := ⟨j - 1, by omega⟩
      rw [Nat.add_sub_cancel] at hcr
      clear hWn hlast HI hj1
      go_wp2
      go_ret
      exact ⟨rfl, W, HI2.out, hs⟩
end Go.Proofs.YtcnbmfaicbkhcaaGreatDoor

/-
  Expressions (expr.Arena), 8: Has.
-/
set_option maxRecDepth 100000
namespace Go.Proofs.YtcnbmfaicbkhcaaGreatDoor
open Go Go.RowKit
attribute [local irreducible] wpList Calls Code.wp

/-- Has a node a number? -/
def exTell (l : List NodeE) (Ss : Nat → List Nat) (n i : Int) : Bool := decide (0 ≤ n ∧ n < l.length ∧ 0 ≤ i ∧ i < 16777216) && (tellsE (fun s => memS (Ss s) i) l).getD n.toNat false
theorem exTell_out {l : List NodeE} {Ss : Nat → List Nat} {n i : Int} (h : ¬ (0 ≤ n ∧ n < l.length ∧ 0 ≤ i ∧ i < 16777216)) : exTell l Ss n i = false := by
  unfold exTell
  rw [decide_eq_false h, Bool.false_and]
theorem word_mem {S : List Nat} {i : Nat} (hi : i < 16777216) : (wordS S 0 ((i / 64 : Nat) : Int)).testBit (i % 64) = memS S (i : Int) := by
  have h1 : wordS S 0 ((i / 64 : Nat) : Int) = wordOf S (0, i / 64) := by
    unfold wordS
    rw [if_pos ⟨by decide, by decide, by omega, by
      rw [show (64 : Int) ^ (3 - (0 : Int).toNat) = 262144 by decide]; omega⟩]
    rfl
  rw [h1, Bool.eq_iff_iff, bit_wordOf _ _ _ _ (Nat.mod_lt _ (by decide)), memS_nat]
  constructor
  · rintro ⟨j, hj, h⟩
    have : j = i := by rw [Nat.pow_zero, Nat.div_one] at h; omega
    exact this ▸ hj
  · intro h
    exact ⟨i, h, by rw [Nat.pow_zero, Nat.div_one]; omega⟩
theorem exTell_in {l : List NodeE} {Ss : Nat → List Nat} {n i : Nat} (hn : n < l.length) (hi : i < 16777216) :
    hasW ((maysE false (fun s => wordS (Ss s) 0 ((i / 64 : Nat) : Int)) l).getD n 0) ((i % 64 : Nat) : Int) = exTell l Ss n i := by
  have hd : i % 64 < 64 := Nat.mod_lt _ (by decide)
  have h1 : hasW ((maysE false (fun s => wordS (Ss s) 0 ((i / 64 : Nat) : Int)) l).getD n 0) ((i % 64 : Nat) : Int) = ((maysE false (fun s => wordS (Ss s) 0 ((i / 64 : Nat) : Int)) l).getD n 0).testBit (i % 64) := by
    unfold hasW
    rw [decide_eq_true (by omega), decide_eq_true (by omega), Int.toNat_natCast]
    rfl
  rw [h1, mays_words, wordsE_bit (fun s => wordS_lt _ _ _) hd]
  unfold exTell
  rw [decide_eq_true ⟨by omega, by omega, by omega, by omega⟩, Bool.true_and, Int.toNat_natCast]
  congr 2
  funext s
  exact word_mem hi
theorem made_u64 (n : Nat) : (madeCells (Value.int .u64 0).cells ((n + 1) * 1)).toList = u64s (List.replicate (n + 1) 0) := by
  rw [show (Value.int .u64 0).cells = #[Value.int .u64 0] from rfl, Nat.mul_one, toList_madeCells_one]
  unfold u64s
  rw [List.map_replicate]
  rfl
theorem needs_v {w : World} {D m : Nat} {l : List NodeE} {ss : List Value} {N P : Option Addr} {cap cap2 : Nat} (hv : ExV D l ss N cap P cap2 w) (hok : ArOk l m) {n : Nat} (hn : n < l.length) :
    Calls Tryz.prog 257 #[ptr D, .int .i64 (n : Nat)] w fun e w' => ∃ A cap R r, e = .returned (.slice A r cap) ∧ Hid (R.length = r) ∧ ((r : Int) == 0) = false ∧ Hid (NeedOk l n R) ∧ St w [own A r cap 3 1 (ints (natI R))] w' :=
  (needs_c hv hok hn).mono fun _ _ ⟨A, cap, R, h1, h2, h3⟩ => ⟨A, cap, R, R.length, h1, rfl, by
    have := h2.last
    cases R with
    | nil => cases this
    | cons a t => simp only [List.length_cons]; rw [beq_eq_false_iff_ne]; omega, h2, h3⟩
attribute [local irreducible] exTell maysE hasW
end Go.Proofs.YtcnbmfaicbkhcaaGreatDoor

/-
  Arenas over sets that can be read (for the statements through the layers; XExLw without what the world's texts say themselves).
-/
set_option maxRecDepth 100000
namespace Go.Proofs.YtcnbmfaicbkhcaaGreatDoor
open Go Go.RowKit
attribute [local irreducible] wpList Calls Code.wp

theorem ArOk.nil (m : Nat) : ArOk [] m := ⟨by decide, fun i x h => by simp at h, fun i x h => by simp at h, fun i x h => by simp at h, fun i x h => by simp at h⟩
theorem ArOk.snoc {l : List NodeE} {m m' : Nat} {y : NodeE} (h : ArOk l m) (hl : l.length < 1000) (hm : m ≤ m') (hk : 1 ≤ y.k ∧ y.k ≤ 5 ∧ y.kids.length ≤ 64) (h1 : y.k = 1 → ∃ s, y.kids = [s] ∧ s < m') (h5 : y.k = 5 → y.kids.length = 1) (hlow : y.k ≠ 1 → ∀ z ∈ y.kids, z < l.length) : ArOk (l ++ [y]) m' := by
  have key : ∀ (i : Nat) (x : NodeE), (l ++ [y])[i]? = some x → (l[i]? = some x) ∨ (i = l.length ∧ x = y) := fun i x hx => by
    by_cases hi : i < l.length
    · rw [List.getElem?_append_left hi] at hx; exact .inl hx
    · rw [List.getElem?_append_right (by omega)] at hx
      have : i - l.length = 0 := by
        rcases Nat.eq_zero_or_pos (i - l.length) with h | h
        · exact h
        · rw [List.getElem?_eq_none (by simp; omega)] at hx; cases hx
      rw [this] at hx
      simp at hx
      exact .inr ⟨by omega, hx.symm⟩
  refine ⟨by rw [List.length_append]; simp; omega, fun i x hx => ?_, fun i x hx hk1 => ?_, fun i x hx hk5 => ?_, fun i x hx hk1 z hz => ?_⟩
  · rcases key i x hx with h' | ⟨_, rfl⟩
    · exact h.kind i x h'
    · exact hk
  · rcases key i x hx with h' | ⟨_, rfl⟩
    · obtain ⟨s, h3, h4⟩ := h.set i x h' hk1
      exact ⟨s, h3, by omega⟩
    · exact h1 hk1
  · rcases key i x hx with h' | ⟨_, rfl⟩
    · exact h.not i x h' hk5
    · exact h5 hk5
  · rcases key i x hx with h' | ⟨rfl, rfl⟩
    · exact h.low i x h' hk1 z hz
    · exact hlow hk1 z hz
theorem ArOk.addset {l : List NodeE} {m : Nat} (h : ArOk l m) (hl : l.length < 1000) : ArOk (l ++ [⟨1, [m]⟩]) (m + 1) :=
  h.snoc hl (Nat.le_succ m) ⟨Nat.le_refl 1, by show 1 ≤ 5; decide, by show 1 ≤ 64; decide⟩ (fun _ => ⟨m, rfl, Nat.lt_succ_self m⟩) (fun h => absurd h (by decide : (1 : Nat) ≠ 5)) (fun h => absurd rfl h)
theorem ArOk.addop {l : List NodeE} {m k : Nat} {kids : List Int} (h : ArOk l m) (hk : 2 ≤ k ∧ k ≤ 5) (h5 : k = 5 → kids.length = 1) : ArOk (addN l k kids) m := by
  unfold addN
  split
  · rename_i ho
    have hk1 : ¬ k = 1 := by omega
    unfold addOk at ho
    rw [decide_eq_false hk1, Bool.false_or] at ho
    simp only [Bool.and_eq_true, decide_eq_true_eq, Bool.not_eq_true'] at ho
    refine h.snoc ho.1.1 (Nat.le_refl m) ⟨by show 1 ≤ k; omega, by show k ≤ 5; omega, by rw [List.length_map]; exact ho.1.2⟩ (fun h1 => absurd h1 hk1) (fun h' => by rw [List.length_map]; exact h5 h') (fun _ z hz => ?_)
    obtain ⟨x, hx, rfl⟩ := List.mem_map.1 hz
    have := List.any_eq_false.1 ho.2 x hx
    simp [bad] at this
    omega
  · exact h
/-- Each of the sets is what its row says. -/
def SetsOk (w : World) (ss : List Value) (Ss : Nat → List Nat) : Prop := ∀ s v, ss[s]? = some v → SetW w v (Ss s)
theorem SetsOk.nil {w : World} {Ss : Nat → List Nat} : SetsOk w [] Ss := fun s v h => by simp at h
theorem SetsOk.snoc {w : World} {ss : List Value} {Ss : Nat → List Nat} {v : Value} (h : SetsOk w ss Ss) (hv : SetW w v (Ss ss.length)) : SetsOk w (ss ++ [v]) Ss := fun s u hu => by
  by_cases hs : s < ss.length
  · rw [List.getElem?_append_left hs] at hu; exact h s u hu
  · rw [List.getElem?_append_right (by omega)] at hu
    have : s - ss.length = 0 := by
      rcases Nat.eq_zero_or_pos (s - ss.length) with h | h
      · exact h
      · rw [List.getElem?_eq_none (by simp; omega)] at hu; cases hu
    rw [this] at hu
    simp at hu
    subst hu
    rw [show s = ss.length by omega]
    exact hv
theorem SetsOk.grew {w w' : World} {ss : List Value} {Ss : Nat → List Nat} (h : SetsOk w ss Ss) (hg : Grew w w') : SetsOk w' ss Ss := fun s v hv => (h s v hv).grew hg
theorem SetW.here {w0 w : World} {T : Nat} {S : List Nat} {L : List As} (hs : St w0 (HSet T S :: L) w) : SetW w (ptr T) S := .inr ⟨T, w0, L, rfl, hs⟩
theorem SetW.none {w : World} : SetW w (.pointer none) [] := .inl ⟨rfl, rfl⟩
theorem exset_v {w0 w : World} {L : List As} {D : Nat} {l l' : List NodeE} {ss ss' : List Value} (hs : St w0 (ExB D l ss :: L) w) (q : Option Addr) {v : Int} (hv : Hid ((l.length : Int) = v)) (hl' : Hid (l ++ [⟨1, [ss.length]⟩] = l')) (hs' : Hid (ss ++ [.pointer q] = ss')) (hl : l.length < 1000) (hss : ss.length ≤ 1000000) :
    Calls Tryz.prog 187 #[ptr D, .pointer q] w fun e w' => e = .returned (.int .i64 v) ∧ St w0 (ExB D l' ss' :: L) w' := by
  rw [← hv.out, ← hl'.out, ← hs'.out]; exact exset_c hs hl hss q
def lw2 : List NodeE := [⟨1, [0]⟩, ⟨1, [1]⟩]
def lw3 : List NodeE := [⟨1, [0]⟩, ⟨1, [1]⟩, ⟨2, [0, 1]⟩]
def sw2 (s : Nat) : List Nat := if s = 0 then [1, 2] else [2, 3]
attribute [local irreducible] addV addN exTell setS lw2 lw3
theorem RdS.any {w0 : World} {A : Option Addr} {xs : List Value} (h : RdS w0 [] A xs) : ∀ L, RdS w0 L A xs
  | [] => h
  | _ :: L => (RdS.any h L).tail
/-- What a statement asks of its walk. -/
theorem St.nothing {w0 w : World} : ∀ {L : List As}, St w0 L w → St w0 [] w
  | [], hs => hs
  | _ :: _, hs => St.nothing hs.drop
def kk24 (z : Int) : Nat := (z % 16777216).toNat
end Go.Proofs.YtcnbmfaicbkhcaaGreatDoor
