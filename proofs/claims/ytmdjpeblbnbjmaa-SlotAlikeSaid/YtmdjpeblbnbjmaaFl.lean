/-
  What befell (flag.Flag): its memory; Clone, ContainsFunc, Grow, Concat of events.
-/
import Derived.Test.YtmdjpeblbnbjmaaR4
import Derived.Test.YtmdjpeblbnbjmaaMap
import Derived.Test.YtmdjpeblbnbjmaaJA
set_option maxRecDepth 100000
namespace Go.Proofs.Ytmdjpeblbnbjmaa
open Go Go.RowKit
attribute [local irreducible] wpList Calls Code.wp

abbrev Ev := Int × Int
def e2 (e : Ev) : List Value := [.int .i64 e.1, .int .i64 e.2]
def es2 (l : List Ev) : List Value := l.flatMap e2
theorem e2_len (e : Ev) : (e2 e).length = 2 := rfl
theorem es2_len (l : List Ev) : (es2 l).length = l.length * 2 := flat_len e2_len l
theorem es2_get {l : List Ev} {i : Nat} {x : Ev} (h : l[i]? = some x) : ∀ (j : Nat) (u : Value), (e2 x)[j]? = some u → (es2 l)[i * 2 + j]? = some u := flat_get e2_len h
theorem es2_append (a b : List Ev) : es2 (a ++ b) = es2 a ++ es2 b := by simp [es2]
theorem e2_one (e : Ev) : ∀ u ∈ e2 e, u.oneCell' = true := by simp [e2]; exact ⟨rfl, rfl⟩
theorem es2_one (l : List Ev) : ∀ u ∈ es2 l, u.oneCell' = true := by
  intro u hu
  obtain ⟨e, _, he⟩ := List.mem_flatMap.1 hu
  exact e2_one e u he
theorem es2_drop : ∀ (k : Nat) (l : List Ev), (es2 l).drop (k * 2) = es2 (l.drop k)
  | 0, l => by simp
  | k + 1, [] => by simp [es2]
  | k + 1, x :: l => by
    have := es2_drop k l
    rw [show (k + 1) * 2 = k * 2 + 1 + 1 by omega]
    simpa [es2, e2] using this
def valE (e : Ev) : Value := .agg #[.int .i64 e.1, .int .i64 e.2]
theorem elemE : ElemOk Try.prog 76 80 2 16 := ElemOk.of Try.underlying76 (z := valE (0, 0)) (by kernel_rfl) rfl (by decide)
theorem zeroE : (Try.prog.info? 80).bind (·.zero) = some (valE (0, 0)) := by kernel_rfl
theorem aggE : aggB Try.prog 80 = true := by kernel_rfl
theorem sizeEn (e : Ev) : (Try.prog.info? 80).map (·.size) = some (e2 e).length := by kernel_rfl
theorem zerosE (m : Nat) : (Builtin.zeroCells (valE (0, 0)).cells m).toList = List.replicate (m * 2) (.int .i64 0) := by
  apply List.ext_getElem
  · simp [Builtin.zeroCells, valE, Value.cells]
  · intro i h1 h2
    rw [List.getElem_replicate]
    simp only [Builtin.zeroCells, Array.getElem_toList, Array.getElem_map, Array.getElem_range]
    have : i % 2 < 2 := Nat.mod_lt _ (by decide)
    show (#[Value.int .i64 0, Value.int .i64 0] : Array Value)[i % 2]! = _
    have h3 : i % 2 = 0 ∨ i % 2 = 1 := by omega
    rcases h3 with h3 | h3 <;> rw [h3] <;> rfl
theorem oneZE (m : Nat) : ∀ u ∈ (Builtin.zeroCells (valE (0, 0)).cells m).toList, u.oneCell' = true := by
  intro u hu
  rw [zerosE] at hu
  rw [List.eq_of_mem_replicate hu]; rfl
theorem own_cut' {A : Option Addr} {n m cap : Nat} {e : TypeId} {size : Nat} {xs : List Value} (hm : m ≤ n) : ∀ x, own A n cap e size xs x → own A m cap e size (xs.take (m * size)) x := by
  rintro x ⟨hl, h⟩
  refine ⟨by rw [List.length_take, hl]; exact Nat.min_eq_left (Nat.mul_le_mul_right _ hm), ?_⟩
  rcases h with ⟨h1, h2, h3, h4⟩ | ⟨g, cur, h1, h2, h3, h4, h5, h6⟩
  · exact .inl ⟨h1, by omega, h3, h4⟩
  · refine .inr ⟨g, cur, h1, Nat.le_trans hm h2, h3, h4, ?_, h6⟩
    rw [← h5, List.take_take, Nat.min_eq_left (Nat.mul_le_mul_right _ hm)]
theorem eqlE_nil (w : World) : (binOp .eql 76 (.slice none 0 0) (.slice none 0 0)).run Try.prog w = .ok (.bool true) w := by kernel_rfl
theorem eqlE_some (a : Addr) (n cap : Nat) (w : World) : (binOp .eql 76 (.slice (some a) n cap) (.slice none 0 0)).run Try.prog w = .ok (.bool false) w := by kernel_rfl
/-- slices.Clone: another slice with the same (nil for nil). -/
theorem cloneE_c {w0 w : World} {L : List As} {A : Option Addr} {n cap : Nat} {l : List Ev} (hA : A = none → n = 0 ∧ cap = 0) (hn : l.length = n) (hm : n ≤ 4000000000) (hs : St w0 L w) (hr : RdS w0 L A (es2 l)) :
    Calls Try.prog 46 #[.slice A n cap] w fun e w' => ∃ B cap', e = .returned (.slice B n cap') ∧ St w0 (own B n cap' 80 2 (es2 l) :: L) w' := by
  have HN := Lib.hid hn
  clear hn
  cases A with
  | none =>
    obtain ⟨rfl, rfl⟩ := hA rfl
    have he := eqlE_nil
    have hl : l = [] := List.eq_nil_of_length_eq_zero HN.out
    subst hl
    have hs2 := Lib.hid (hs.own_nil 80 2)
    clear hA hr
    go_enter Try.func46, Try.ntmps46
    go_wp2
    go_ret
    exact ⟨none, 0, rfl, hs2.out⟩
  | some a =>
    have he := eqlE_some a n cap
    clear hA
    go_enter Try.func46, Try.ntmps46
    go_wp2_with (first
      | (refine wpl_build_none elemE hs ?_; clear hs; intro B w hs)
      | (refine wpl_append (n := 0) (m := n) (news := es2 l) elemE rfl rfl hs (Ent.refl _) hr.tail (by rw [es2_len, HN.out]) (es2_one _) (by unfold maxLen; omega) (by omega) ?_; clear hs; intro B2 cap2 w hs))
    go_ret
    rw [Nat.zero_add, List.nil_append] at hs
    exact ⟨B2, cap2, by first | rfl | (rw [Nat.zero_add]; rfl), hs⟩
/-! ### The test of one event -/
theorem badE_c {w : World} {e : Ev} (h1 : 1 ≤ e.1) (h2 : e.1 ≤ 3) (h3 : 0 ≤ e.2) :
    Calls Try.prog 61 #[valE e] w fun r w' => r = .returned (.bool false) ∧ Grew w w' := by
  obtain ⟨k, i⟩ := e
  simp only at h1 h2 h3
  have d1 : decide (k < 1) = false := decide_eq_false (by omega)
  have d2 : decide (3 < k) = false := decide_eq_false (by omega)
  have d3 : decide (i < 0) = false := decide_eq_false (by omega)
  have hw := St.start w
  go_enter Try.func61, Try.ntmps61
  go_upto_region 1 with (first
    | (refine wpl_box_v (v := valE (k, i)) rfl hw ?_; clear hw; intro g1 w1 hw))
  have c0 := Rd.blk (w0 := w) (g := g1) (k := 0) (cs := #[.int .i64 k, .int .i64 i]) (t := 80) (v := .int .i64 k) (L := []) rfl _ hw
  have c1 := Rd.blk (w0 := w) (g := g1) (k := 1) (cs := #[.int .i64 k, .int .i64 i]) (t := 80) (v := .int .i64 i) (L := []) rfl _ hw
  go_wp2
  go_ret
  exact ⟨rfl, hw.made_grew⟩
theorem indexE1_c {w : World} {e : Ev} (h1 : 1 ≤ e.1) (h2 : e.1 ≤ 3) (h3 : 0 ≤ e.2) {b o cap : Nat} {w0 : World} {L : List As} (hs : St w0 L w) (hr : RdS w0 L (some ⟨b, o, none⟩) (e2 e)) :
    Calls Try.prog 64 #[.slice (some ⟨b, o, none⟩) 1 cap, .func (Fn.func 61) #[] #[]] w fun r w' => r = .returned (.int .i64 (-1)) ∧ Grew w w' := by
  have hrd : ∀ j u, (e2 e)[j]? = some u → Rd w0 L ⟨b, o + j, none⟩ u := fun j u hu => by
    obtain ⟨ad, hh, _, h⟩ := hr j u hu
    injection hh with hh
    subst hh
    exact h
  have HB := Lib.hid (fun w => badE_c (w := w) h1 h2 h3)
  clear h1 h2 h3
  go_enter Try.func64, Try.ntmps64
  go_wp2
  go_loopw [8] (fun cv wr => ∃ k : Nat, k ≤ 1 ∧ cv = .int .i64 (k : Nat) ∧ Grew w wr) (fun cv _ => 1 - (intOf cv).toNat)
  case atStart => exact ⟨0, by omega, rfl, Grew.refl _⟩
  case round =>
    obtain ⟨k, hk, rfl, hg⟩ := hrel
    by_cases hk0 : k = 0
    · subst hk0
      have hs2 := hs.grew hg
      go_wp2_with (first
        | (refine wpl_load_agg (cs := e2 e) (b := b) (o := o) rfl aggE (sizeEn e) hs2 hrd ?_)
        | (go_at_call 61; refine (HB.out _).mono ?_; rintro r w' ⟨rfl, hg2⟩))
      go_roundw
      case rel => exact ⟨1, by omega, rfl, hg.trans hg2⟩
      case measure => simp [intOf]
    · obtain rfl : k = 1 := by omega
      go_wp2
      go_ret
      exact ⟨rfl, hg⟩
theorem containsE1_c {w : World} {e : Ev} (h1 : 1 ≤ e.1) (h2 : e.1 ≤ 3) (h3 : 0 ≤ e.2) {b o cap : Nat} {w0 : World} {L : List As} (hs : St w0 L w) (hr : RdS w0 L (some ⟨b, o, none⟩) (e2 e)) :
    Calls Try.prog 60 #[.slice (some ⟨b, o, none⟩) 1 cap, .func (Fn.func 61) #[] #[]] w fun r w' => r = .returned (.bool false) ∧ Grew w w' := by
  have HB := Lib.hid (indexE1_c (cap := cap) h1 h2 h3 hs hr)
  clear h1 h2 h3 hr
  go_enter Try.func60, Try.ntmps60
  go_wp2_with (first
    | (go_at_call 64; refine HB.out.mono ?_; rintro r w' ⟨rfl, hg⟩))
  go_ret
  exact ⟨rfl, hg⟩
/-- slices.Grow of nothing. -/
theorem growE_c {w0 w : World} {L : List As} (hs : St w0 L w) {n : Nat} (hn : 0 < n) (hn2 : n ≤ 4000000000) :
    Calls Try.prog 65 #[.slice none 0 0, .int .i64 (n : Nat)] w fun r w' => ∃ A cap, r = .returned (.slice A 0 cap) ∧ St w0 (own A 0 cap 80 2 [] :: L) w' := by
  have hs := hs.own_nil 80 2
  go_enter Try.func65, Try.ntmps65
  go_wp2_with (first
    | (refine wpl_append_zeros (n := 0) (m := n) elemE zeroE Try.underlying3 rfl rfl hs hn (oneZE n) (by unfold maxLen; omega) (by omega) ?_; clear hs; intro B2 cap2 w hs))
  go_ret
  exact ⟨B2, cap2, rfl, by
    have := hs.conv (own_cut' (m := 0) (Nat.zero_le _))
    simpa using this⟩
/-- slices.Concat of two. -/
def cc2 (n m k : Nat) : Nat := if k = 0 then 0 else if k = 1 then n else n + m
def ccl (xs ys : List Ev) (k : Nat) : List Ev := if k = 0 then [] else if k = 1 then xs else xs ++ ys
theorem concatE_c {w0 w : World} {L : List As} {G cG : Nat} {A B : Option Addr} {n cap m cap2 : Nat} {xs ys : List Ev} (hs : St w0 L w) (hG0 : Rd w0 L ⟨G, 0, none⟩ (.slice A n cap)) (hG1 : Rd w0 L ⟨G, 1, none⟩ (.slice B m cap2))
    (hA : RdS w0 L A (es2 xs)) (hB : RdS w0 L B (es2 ys)) (hn : xs.length = n) (hm : ys.length = m) (hp : 0 < n + m) (hp2 : n + m ≤ 1000000) :
    Calls Try.prog 62 #[.slice (some ⟨G, 0, none⟩) 2 cG] w fun r w' => ∃ C cap', r = .returned (.slice C (n + m) cap') ∧ St w0 (own C (n + m) cap' 80 2 (es2 (xs ++ ys)) :: L) w' := by
  have HX := Lib.hid hn
  have HY := Lib.hid hm
  clear hn hm
  go_enter Try.func62, Try.ntmps62
  go_wp2
  go_loopw [3, 11] (fun sv cv wr => ∃ (k s : Nat), k ≤ 2 ∧ s = cc2 n m k ∧ sv = .int .i64 (s : Nat) ∧ cv = .int .i64 (k : Nat) ∧ w = wr) (fun _ cv _ => 2 - (intOf cv).toNat)
  case atStart => exact ⟨0, 0, by omega, rfl, rfl, rfl, rfl⟩
  case round =>
    obtain ⟨k, s, hk, hsk, rfl, rfl, rfl⟩ := hrel
    have h3 : k = 0 ∨ k = 1 ∨ k = 2 := by omega
    rcases h3 with rfl | rfl | rfl
    · have c0 := hG0 _ hs
      obtain rfl : s = 0 := hsk
      go_wp2
      go_roundw
      case rel => exact ⟨1, n, by omega, rfl, by go_num, rfl, trivial⟩
      case measure => simp [intOf]
    · have c1 := hG1 _ hs
      obtain rfl : s = n := hsk
      go_wp2
      go_roundw
      case rel => exact ⟨2, s + m, by omega, rfl, by go_num, rfl, trivial⟩
      case measure => simp [intOf]
    · obtain rfl : s = n + m := hsk
      go_wp2_with (first
        | (go_at_call 65; refine (growE_c hs hp (by omega)).mono ?_; rintro r w' ⟨C0, cC0, rfl, hs2⟩))
      go_loopw [6, 27] (fun sv cv wr => ∃ (k s cC : Nat) (C : Option Addr), k ≤ 2 ∧ s = cc2 n m k ∧ sv = .slice C s cC ∧ cv = .int .i64 (k : Nat) ∧ St w0 (own C s cC 80 2 (es2 (ccl xs ys k)) :: L) wr) (fun _ cv _ => 2 - (intOf cv).toNat)
      case atStart => exact ⟨0, 0, _, _, by omega, rfl, rfl, rfl, hs2⟩
      case round =>
        obtain ⟨k, s, cC, C, hk, hsk, rfl, rfl, hs3⟩ := hrel
        have h3 : k = 0 ∨ k = 1 ∨ k = 2 := by omega
        rcases h3 with rfl | rfl | rfl
        · have c0 := hG0 _ hs3.drop
          obtain rfl : s = 0 := hsk
          go_wp2_with (first
            | (refine wpl_append (n := 0) (m := n) (news := es2 xs) elemE rfl rfl hs3 (Ent.refl _) hA.tail (by rw [es2_len, HX.out]) (es2_one _) (by unfold maxLen; omega) (by omega) ?_; clear hs3 c0; intro B2 cB2 w hs3))
          go_roundw
          case rel => exact ⟨1, n, _, _, by omega, rfl, by go_num, rfl, by rw [show es2 (ccl xs ys 0) = [] from rfl, List.nil_append, Nat.zero_add] at hs3; exact hs3⟩
          case measure => simp [intOf]
        · have c1 := hG1 _ hs3.drop
          obtain rfl : s = n := hsk
          go_wp2_with (first
            | (refine wpl_append (n := s) (m := m) (news := es2 ys) elemE rfl rfl hs3 (Ent.refl _) hB.tail (by rw [es2_len, HY.out]) (es2_one _) (by unfold maxLen; omega) (by omega) ?_; clear hs3 c1; intro B2 cB2 w hs3))
          go_roundw
          case rel => exact ⟨2, s + m, _, _, by omega, rfl, by go_num, rfl, by rw [show ccl xs ys 2 = xs ++ ys from rfl, es2_append]; exact hs3⟩
          case measure => simp [intOf]
        · obtain rfl : s = n + m := hsk
          go_wp2
          go_ret
          exact ⟨_, _, rfl, hs3⟩
end Go.Proofs.Ytmdjpeblbnbjmaa
