/-
  XJY: joined of XFl XFl2 XFl3.
-/
import Derived.Test.YtcnbmfaicbkhcaaGreatDoorJQ
import Derived.Test.YtcnbmfaicbkhcaaGreatDoorJA
/-
  What befell (flag.Flag): its memory; Clone, ContainsFunc, Grow, Concat of events.
-/
set_option maxRecDepth 100000
namespace Go.Proofs.YtcnbmfaicbkhcaaGreatDoor
open Go Go.RowKit
attribute [local irreducible] wpList Calls Code.wp

abbrev Ev := Int × Int
def e2 (e : Ev) : List Value := [.int .i64 e.1, .int .i64 e.2]
def es2 (l : List Ev) : List Value := l.flatMap e2
theorem e2_len (e : Ev) : (e2 e).length = 2 := rfl
theorem es2_len (l : List Ev) : (es2 l).length = l.length * 2 := flat_len e2_len l
theorem es2_append (a b : List Ev) : es2 (a ++ b) = es2 a ++ es2 b := by simp [es2]
theorem e2_one (e : Ev) : ∀ u ∈ e2 e, u.oneCell' = true := by simp [e2]; exact ⟨rfl, rfl⟩
theorem es2_one (l : List Ev) : ∀ u ∈ es2 l, u.oneCell' = true := by
  intro u hu
  obtain ⟨e, _, he⟩ := List.mem_flatMap.1 hu
  exact e2_one e u he
theorem es2_drop : ∀ (k : Nat) (l : List Ev), (es2 l).drop (k * 2) = es2 (l.drop k)
  | 0, l => by simp
  | k + 1, [] => by simp [es2]
  | k + 1, x :: l => by
    have := es2_drop k l
    rw [show (k + 1) * 2 = k * 2 + 1 + 1 by omega]
    simpa [es2, e2] using this
def valE (e : Ev) : Value := .agg #[.int .i64 e.1, .int .i64 e.2]
theorem elemE : ElemOk Tryz.prog 42 238 2 16 := ElemOk.of Tryz.underlying42 (z := valE (0, 0)) (by kernel_rfl) rfl (by decide)
theorem zeroE : (Tryz.prog.info? 238).bind (·.zero) = some (valE (0, 0)) := by kernel_rfl
theorem aggE : aggB Tryz.prog 238 = true := by kernel_rfl
theorem sizeEn (e : Ev) : (Tryz.prog.info? 238).map (·.size) = some (e2 e).length := by kernel_rfl
theorem zerosE (m : Nat) : (Builtin.zeroCells (valE (0, 0)).cells m).toList = List.replicate (m * 2) (.int .i64 0) := by
  apply List.ext_getElem
  · simp [Builtin.zeroCells, valE, Value.cells]
  · intro i h1 h2
    rw [List.getElem_replicate]
    simp only [Builtin.zeroCells, Array.getElem_toList, Array.getElem_map, Array.getElem_range]
    have : i % 2 < 2 := Nat.mod_lt _ (by decide)
    show (#[Value.int .i64 0, Value.int .i64 0] : Array Value)[i % 2]! = _
    have h3 : i % 2 = 0 ∨ i % 2 = 1 := by omega
    rcases h3 with h3 | h3 <;> rw [h3] <;> rfl
theorem oneZE (m : Nat) : ∀ u ∈ (Builtin.zeroCells (valE (0, 0)).cells m).toList, u.oneCell' = true := by
  intro u hu
  rw [zerosE] at hu
  rw [List.eq_of_mem_replicate hu]; rfl
theorem own_cut' {A : Option Addr} {n m cap : Nat} {e : TypeId} {size : Nat} {xs : List Value} (hm : m ≤ n) : ∀ x, own A n cap e size xs x → own A m cap e size (xs.take (m * size)) x := by
  rintro x ⟨hl, h⟩
  refine ⟨by rw [List.length_take, hl]; exact Nat.min_eq_left (Nat.mul_le_mul_right _ hm), ?_⟩
  rcases h with ⟨h1, h2, h3, h4⟩ | ⟨g, cur, h1, h2, h3, h4, h5, h6⟩
  · exact .inl ⟨h1, by omega, h3, h4⟩
  · refine .inr ⟨g, cur, h1, Nat.le_trans hm h2, h3, h4, ?_, h6⟩
    rw [← h5, List.take_take, Nat.min_eq_left (Nat.mul_le_mul_right _ hm)]
theorem eqlE_nil (w : World) : (binOp .eql 42 (.slice none 0 0) (.slice none 0 0)).run Tryz.prog w = .ok (.bool true) w := by kernel_rfl
theorem eqlE_some (a : Addr) (n cap : Nat) (w : World) : (binOp .eql 42 (.slice (some a) n cap) (.slice none 0 0)).run Tryz.prog w = .ok (.bool false) w := by kernel_rfl
/-- slices.Clone: another slice with the same (nil for nil). -/
theorem cloneE_c {w0 w : World} {L : List As} {A : Option Addr} {n cap : Nat} {l : List Ev} (hA : A = none → n = 0 ∧ cap = 0) (hn : l.length = n) (hm : n ≤ 4000000000) (hs : St w0 L w) (hr : RdS w0 L A (es2 l)) :
    Calls Tryz.prog 314 #[.slice A n cap] w fun e w' => ∃ B cap', e = .returned (.slice B n cap') ∧ St w0 (own B n cap' 238 2 (es2 l) :: L) w' := by
  have HN := Lib.hid hn
  clear hn
  cases A with
  | none =>
    obtain ⟨rfl, rfl⟩ := hA rfl
    have he := eqlE_nil
    have hl : l = [] := List.eq_nil_of_length_eq_zero HN.out
    subst hl
    have hs2 := Lib.hid (hs.own_nil 238 2)
    clear hA hr
    go_enter Tryz.func314, Tryz.ntmps314
    go_wp2
    go_ret
    exact ⟨none, 0, rfl, hs2.out⟩
  | some a =>
    have he := eqlE_some a n cap
    clear hA
    go_enter Tryz.func314, Tryz.ntmps314
    go_wp2_with (first
      | (refine wpl_build_none elemE hs ?_; clear hs; intro B w hs)
      | (refine wpl_append (n := 0) (m := n) (news := es2 l) elemE rfl rfl hs (Ent.refl _) hr.tail (by rw [es2_len, HN.out]) (es2_one _) (by unfold maxLen; omega) (by omega) ?_; clear hs; intro B2 cap2 w hs))
    go_ret
    rw [Nat.zero_add, List.nil_append] at hs
    exact ⟨B2, cap2, by first | rfl | (rw [Nat.zero_add]; rfl), hs⟩
/-! ### The test of one event -/
theorem badE_c {w : World} {e : Ev} (h1 : 1 ≤ e.1) (h2 : e.1 ≤ 3) (h3 : 0 ≤ e.2) :
    Calls Tryz.prog 334 #[valE e] w fun r w' => r = .returned (.bool false) ∧ Grew w w' := by
  obtain ⟨k, i⟩ := e
  simp only at h1 h2 h3
  have d1 : decide (k < 1) = false := decide_eq_false (by omega)
  have d2 : decide (3 < k) = false := decide_eq_false (by omega)
  have d3 : decide (i < 0) = false := decide_eq_false (by omega)
  have hw := St.start w
  go_enter Tryz.func334, Tryz.ntmps334
  go_upto_region 1 with (first
    | (refine wpl_box_v (v := valE (k, i)) rfl hw ?_; clear hw; intro g1 w1 hw))
  have c0 := Rd.blk (w0 := w) (g := g1) (k := 0) (cs := #[.int .i64 k, .int .i64 i]) (t := 238) (v := .int .i64 k) (L := []) rfl _ hw
  have c1 := Rd.blk (w0 := w) (g := g1) (k := 1) (cs := #[.int .i64 k, .int .i64 i]) (t := 238) (v := .int .i64 i) (L := []) rfl _ hw
  go_wp2
  go_ret
  exact ⟨rfl, hw.made_grew⟩
theorem indexE1_c {w : World} {e : Ev} (h1 : 1 ≤ e.1) (h2 : e.1 ≤ 3) (h3 : 0 ≤ e.2) {b o cap : Nat} {w0 : World} {L : List As} (hs : St w0 L w) (hr : RdS w0 L (some ⟨b, o, none⟩) (e2 e)) :
    Calls Tryz.prog 345 #[.slice (some ⟨b, o, none⟩) 1 cap, .func (Fn.func 334) #[] #[]] w fun r w' => r = .returned (.int .i64 (-1)) ∧ Grew w w' := by
  have hrd : ∀ j u, (e2 e)[j]? = some u → Rd w0 L ⟨b, o + j, none⟩ u := fun j u hu => by
    obtain ⟨ad, hh, _, h⟩ := hr j u hu
    injection hh with hh
    subst hh
    exact h
  have HB := Lib.hid (fun w => badE_c (w := w) h1 h2 h3)
  clear h1 h2 h3
  go_enter Tryz.func345, Tryz.ntmps345
  go_wp2
  go_loopw [8] (fun cv wr => ∃ k : Nat, k ≤ 1 ∧ cv = .int .i64 (k : Nat) ∧ Grew w wr) (fun cv _ => 1 - (intOf cv).toNat)
  case atStart => exact ⟨0, by omega, rfl, Grew.refl _⟩
  case round =>
    obtain ⟨k, hk, rfl, hg⟩ := hrel
    by_cases hk0 : k = 0
    · subst hk0
      have hs2 := hs.grew hg
      go_wp2_with (first
        | (refine wpl_load_agg (cs := e2 e) (b := b) (o := o) rfl aggE (sizeEn e) hs2 hrd ?_)
        | (go_at_call 334; refine (HB.out _).mono ?_; rintro r w' ⟨rfl, hg2⟩))
      go_roundw
      case rel => exact ⟨1, by omega, rfl, hg.trans hg2⟩
      case measure => simp [intOf]
    · obtain rfl : k = 1 := by omega
      go_wp2
      go_ret
      exact ⟨rfl, hg⟩
theorem containsE1_c {w : World} {e : Ev} (h1 : 1 ≤ e.1) (h2 : e.1 ≤ 3) (h3 : 0 ≤ e.2) {b o cap : Nat} {w0 : World} {L : List As} (hs : St w0 L w) (hr : RdS w0 L (some ⟨b, o, none⟩) (e2 e)) :
    Calls Tryz.prog 333 #[.slice (some ⟨b, o, none⟩) 1 cap, .func (Fn.func 334) #[] #[]] w fun r w' => r = .returned (.bool false) ∧ Grew w w' := by
  have HB := Lib.hid (indexE1_c (cap := cap) h1 h2 h3 hs hr)
  clear h1 h2 h3 hr
  go_enter Tryz.func333, Tryz.ntmps333
  go_wp2_with (first
    | (go_at_call 345; refine HB.out.mono ?_; rintro r w' ⟨rfl, hg⟩))
  go_ret
  exact ⟨rfl, hg⟩
/-- slices.Grow of nothing. -/
theorem growE_c {w0 w : World} {L : List As} (hs : St w0 L w) {n : Nat} (hn : 0 < n) (hn2 : n ≤ 4000000000) :
    Calls Tryz.prog 346 #[.slice none 0 0, .int .i64 (n : Nat)] w fun r w' => ∃ A cap, r = .returned (.slice A 0 cap) ∧ St w0 (own A 0 cap 238 2 [] :: L) w' := by
  have hs := hs.own_nil 238 2
  go_enter Tryz.func346, Tryz.ntmps346
  go_wp2_with (first
    | (refine wpl_append_zeros (n := 0) (m := n) elemE zeroE Tryz.underlying3 rfl rfl hs hn (oneZE n) (by unfold maxLen; omega) (by omega) ?_; clear hs; intro B2 cap2 w hs))
  go_ret
  exact ⟨B2, cap2, rfl, by
    have := hs.conv (own_cut' (m := 0) (Nat.zero_le _))
    simpa using this⟩
/-- slices.Concat of two. -/
def cc2 (n m k : Nat) : Nat := if k = 0 then 0 else if k = 1 then n else n + m
def ccl (xs ys : List Ev) (k : Nat) : List Ev := if k = 0 then [] else if k = 1 then xs else xs ++ ys
theorem concatE_c {w0 w : World} {L : List As} {G cG : Nat} {A B : Option Addr} {n cap m cap2 : Nat} {xs ys : List Ev} (hs : St w0 L w) (hG0 : Rd w0 L ⟨G, 0, none⟩ (.slice A n cap)) (hG1 : Rd w0 L ⟨G, 1, none⟩ (.slice B m cap2))
    (hA : RdS w0 L A (es2 xs)) (hB : RdS w0 L B (es2 ys)) (hn : xs.length = n) (hm : ys.length = m) (hp : 0 < n + m) (hp2 : n + m ≤ 1000000) :
    Calls Tryz.prog 335 #[.slice (some ⟨G, 0, none⟩) 2 cG] w fun r w' => ∃ C cap', r = .returned (.slice C (n + m) cap') ∧ St w0 (own C (n + m) cap' 238 2 (es2 (xs ++ ys)) :: L) w' := by
  have HX := Lib.hid hn
  have HY := Lib.hid hm
  clear hn hm
  go_enter Tryz.func335, Tryz.ntmps335
  go_wp2
  go_loopw [3, 11] (fun sv cv wr => ∃ (k s : Nat), k ≤ 2 ∧ s = cc2 n m k ∧ sv = .int .i64 (s : Nat) ∧ cv = .int .i64 (k : Nat) ∧ w = wr) (fun _ cv _ => 2 - (intOf cv).toNat)
  case atStart => exact ⟨0, 0, by omega, rfl, rfl, rfl, rfl⟩
  case round =>
    obtain ⟨k, s, hk, hsk, rfl, rfl, rfl⟩ := hrel
    have h3 : k = 0 ∨ k = 1 ∨ k = 2 := by omega
    rcases h3 with rfl | rfl | rfl
    · have c0 := hG0 _ hs
      obtain rfl : s = 0 := hsk
      go_wp2
      go_roundw
      case rel => exact ⟨1, n, by omega, rfl, by go_num, rfl, trivial⟩
      case measure => simp [intOf]
    · have c1 := hG1 _ hs
      obtain rfl : s = n := hsk
      go_wp2
      go_roundw
      case rel => exact ⟨2, s + m, by omega, rfl, by go_num, rfl, trivial⟩
      case measure => simp [intOf]
    · obtain rfl : s = n + m := hsk
      go_wp2_with (first
        | (go_at_call 346; refine (growE_c hs hp (by omega)).mono ?_; rintro r w' ⟨C0, cC0, rfl, hs2⟩))
      go_loopw [6, 27] (fun sv cv wr => ∃ (k s cC : Nat) (C : Option Addr), k ≤ 2 ∧ s = cc2 n m k ∧ sv = .slice C s cC ∧ cv = .int .i64 (k : Nat) ∧ St w0 (own C s cC 238 2 (es2 (ccl xs ys k)) :: L) wr) (fun _ cv _ => 2 - (intOf cv).toNat)
      case atStart => exact ⟨0, 0, _, _, by omega, rfl, rfl, rfl, hs2⟩
      case round =>
        obtain ⟨k, s, cC, C, hk, hsk, rfl, rfl, hs3⟩ := hrel
        have h3 : k = 0 ∨ k = 1 ∨ k = 2 := by omega
        rcases h3 with rfl | rfl | rfl
        · have c0 := hG0 _ hs3.drop
          obtain rfl : s = 0 := hsk
          go_wp2_with (first
            | (refine wpl_append (n := 0) (m := n) (news := es2 xs) elemE rfl rfl hs3 (Ent.refl _) hA.tail (by rw [es2_len, HX.out]) (es2_one _) (by unfold maxLen; omega) (by omega) ?_; clear hs3 c0; intro B2 cB2 w hs3))
          go_roundw
          case rel => exact ⟨1, n, _, _, by omega, rfl, by go_num, rfl, by rw [show es2 (ccl xs ys 0) = [] from rfl, List.nil_append, Nat.zero_add] at hs3; exact hs3⟩
          case measure => simp [intOf]
        · have c1 := hG1 _ hs3.drop
          obtain rfl : s = n := hsk
          go_wp2_with (first
            | (refine wpl_append (n := s) (m := m) (news := es2 ys) elemE rfl rfl hs3 (Ent.refl _) hB.tail (by rw [es2_len, HY.out]) (es2_one _) (by unfold maxLen; omega) (by omega) ?_; clear hs3 c1; intro B2 cB2 w hs3))
          go_roundw
          case rel => exact ⟨2, s + m, _, _, by omega, rfl, by go_num, rfl, by rw [show ccl xs ys 2 = xs ++ ys from rfl, es2_append]; exact hs3⟩
          case measure => simp [intOf]
        · obtain rfl : s = n + m := hsk
          go_wp2
          go_ret
          exact ⟨_, _, rfl, hs3⟩
end Go.Proofs.YtcnbmfaicbkhcaaGreatDoor

/-
  What befell (flag.Flag): New, Reader, Note of one event.
-/
set_option maxRecDepth 100000
namespace Go.Proofs.YtcnbmfaicbkhcaaGreatDoor
open Go Go.RowKit
attribute [local irreducible] wpList Calls Code.wp

def flC (bd : Nat) (nt : Nat) (A : Option Addr) (n cap : Nat) (B : Option Addr) (m cap2 : Nat) : Array Value := #[.int .i64 (bd : Nat), .int .i64 (nt : Nat), .slice A n cap, .slice B m cap2]
def lastE (bd : Nat) (evs : List Ev) : List Ev := evs.drop (evs.length - bd)
def i8s (l : List Nat) : List Value := l.map fun r => .int .i64 (r : Nat)
structure FlOk (bd : Nat) (evs : List Ev) (rds : List Nat) : Prop where
  b1 : 1 ≤ bd
  b2 : bd ≤ 1000
  few : rds.length ≤ 100
  back : ∀ r ∈ rds, r ≤ evs.length
def FlB (F bd : Nat) (evs : List Ev) (rds : List Nat) : As := fun h => FlOk bd evs rds ∧ ∃ A cap B cap2, star (blk F (flC bd evs.length A (lastE bd evs).length cap B rds.length cap2) 422) (star (own A (lastE bd evs).length cap 238 2 (es2 (lastE bd evs))) (own B rds.length cap2 2 1 (i8s rds))) h
theorem St.flopen {w0 w : World} {F bd : Nat} {evs : List Ev} {rds : List Nat} {L : List As} (hs : St w0 (FlB F bd evs rds :: L) w) :
    ∃ A cap B cap2, FlOk bd evs rds ∧ St w0 (YtcnbmfaicbkhcaaGreatDoor.blk F (flC bd evs.length A (lastE bd evs).length cap B rds.length cap2) 422 :: own A (lastE bd evs).length cap 238 2 (es2 (lastE bd evs)) :: own B rds.length cap2 2 1 (i8s rds) :: L) w := by
  obtain ⟨hb, h, r, hd, hu, a, b, hab, rfl, ⟨hok, A, cap, B, cap2, ht⟩, hl⟩ := hs
  have h1 : St w0 (star (YtcnbmfaicbkhcaaGreatDoor.blk F (flC bd evs.length A (lastE bd evs).length cap B rds.length cap2) 422) (star (own A (lastE bd evs).length cap 238 2 (es2 (lastE bd evs))) (own B rds.length cap2 2 1 (i8s rds))) :: L) w := ⟨hb, _, r, hd, hu, a, b, hab, rfl, ht, hl⟩
  exact ⟨A, cap, B, cap2, hok, (h1.ent (Ent.open2 fun _ h => h)).ent (Ent.cons _ (Ent.open2 fun _ h => h))⟩
theorem St.flshut {w0 w : World} {F bd n m nt : Nat} {evs : List Ev} {rds : List Nat} {L : List As} {A B : Option Addr} {cap cap2 : Nat} {cs ds : List Value} (hok : FlOk bd evs rds) (ht : nt = evs.length) (hn : n = (lastE bd evs).length) (hm : m = rds.length) (hcs : cs = es2 (lastE bd evs)) (hds : ds = i8s rds)
    (hs : St w0 (YtcnbmfaicbkhcaaGreatDoor.blk F (flC bd nt A n cap B m cap2) 422 :: own A n cap 238 2 cs :: own B m cap2 2 1 ds :: L) w) : St w0 (FlB F bd evs rds :: L) w := by
  subst ht hn hm hcs hds
  exact ((hs.ent (Ent.cons _ (Ent.shut2 fun _ h => h))).ent (Ent.shut2 fun _ h => h)).conv fun _ h => ⟨hok, A, cap, B, cap2, h⟩
section
variable {w0 : World} {F bd nt n cap m cap2 : Nat} {A B : Option Addr} {L : List As} {t : TypeId}
theorem Rd.fl0 : Rd w0 (YtcnbmfaicbkhcaaGreatDoor.blk F (flC bd nt A n cap B m cap2) t :: L) ⟨F, 0, none⟩ (.int .i64 (bd : Nat)) := Rd.blk rfl
theorem Rd.fl1 : Rd w0 (YtcnbmfaicbkhcaaGreatDoor.blk F (flC bd nt A n cap B m cap2) t :: L) ⟨F, 1, none⟩ (.int .i64 (nt : Nat)) := Rd.blk rfl
theorem Rd.fl2 : Rd w0 (YtcnbmfaicbkhcaaGreatDoor.blk F (flC bd nt A n cap B m cap2) t :: L) ⟨F, 2, none⟩ (.slice A n cap) := Rd.blk rfl
theorem Wr.fl1 {nt' : Nat} : Wr w0 (YtcnbmfaicbkhcaaGreatDoor.blk F (flC bd nt A n cap B m cap2) t :: L) ⟨F, 1, none⟩ (.int .i64 (nt' : Nat)) (YtcnbmfaicbkhcaaGreatDoor.blk F (flC bd nt' A n cap B m cap2) t :: L) := Wr.blk (by simp [flC])
theorem Wr.fl2 {A' : Option Addr} {n' cap' : Nat} : Wr w0 (YtcnbmfaicbkhcaaGreatDoor.blk F (flC bd nt A n cap B m cap2) t :: L) ⟨F, 2, none⟩ (.slice A' n' cap') (YtcnbmfaicbkhcaaGreatDoor.blk F (flC bd nt A' n' cap' B m cap2) t :: L) := Wr.blk (by simp [flC])
end
theorem elem8 : ElemOk Tryz.prog 25 2 1 8 := ElemOk.of Tryz.underlying25 (z := .int .i64 0) (by kernel_rfl) rfl (by decide)
theorem size8 : (Tryz.prog.info? 2).map (·.size) = some 1 := by kernel_rfl
theorem sizeEs : (Tryz.prog.info? 42).map (·.size) = some 1 := by kernel_rfl
theorem build_fl (bd : Nat) (w : World) : (Instr.build 422 #[(0, .int .i64 (bd : Nat))]).run Tryz.prog w = .ok (.agg (flC bd 0 none 0 0 none 0 0)) w := by kernel_rfl
theorem fl_new {w : World} {bd : Nat} (h1 : 1 ≤ bd) (h2 : bd ≤ 1000) :
    Calls Tryz.prog 297 #[.int .i64 (bd : Nat)] w fun e w' => ∃ F, e = .returned (.tuple #[.pointer (some ⟨F, 0, none⟩), .int .i64 0]) ∧ St w [FlB F bd [] []] w' := by
  have hs := St.start w
  have hb := build_fl bd
  go_enter Tryz.func297, Tryz.ntmps297
  go_wp2_with (first
    | (refine wpl_box_v (v := .agg (flC bd 0 none 0 0 none 0 0)) rfl hs ?_; clear hs; intro F w hs))
  go_ret2
  have h3 := ((hs.own_nil 2 1).own_nil 238 2)
  have h4 : St _ [YtcnbmfaicbkhcaaGreatDoor.blk F (flC bd 0 none 0 0 none 0 0) 422, own none 0 0 238 2 [], own none 0 0 2 1 []] w := h3.ent (by (repeat first | exact Ent.refl _ | refine Ent.step (by repeat first | exact Ent.refl _ | apply Ent.skip) ?_))
  exact ⟨F, rfl, St.flshut (evs := []) (rds := []) (n := 0) (m := 0) (nt := 0) (cs := []) (ds := []) (A := none) (B := none) (cap := 0) (cap2 := 0) ⟨h1, h2, by decide, fun _ h => nomatch h⟩ rfl (by simp [lastE]) rfl (by simp [lastE, es2]) rfl h4⟩
theorem lastE_len (bd : Nat) (evs : List Ev) : (lastE bd evs).length = min bd evs.length := by unfold lastE; rw [List.length_drop]; omega
theorem lastE_add (bd : Nat) (evs : List Ev) (e : Ev) : lastE bd (evs ++ [e]) = (lastE bd evs ++ [e]).drop ((lastE bd evs ++ [e]).length - bd) := by
  unfold lastE
  rw [← List.drop_append_of_le_length (by omega), List.drop_drop]
  congr 1
  simp only [List.length_append, List.length_drop, List.length_cons, List.length_nil]
  omega
theorem RdS.own_at {w0 : World} {g n cap o : Nat} {e : TypeId} {size : Nat} {xs : List Value} {L : List As} : RdS w0 (YtcnbmfaicbkhcaaGreatDoor.own (some ⟨g, 0, none⟩) n cap e size xs :: L) (some ⟨g, o, none⟩) (xs.drop o) := fun k u hu => ⟨_, rfl, rfl, Rd.own (by rw [List.getElem?_drop] at hu; exact hu)⟩
theorem elemEE : ElemOk Tryz.prog 471 42 1 24 := ElemOk.of Tryz.underlying471 (z := .slice none 0 0) (by kernel_rfl) rfl (by decide)
theorem fl_note {w0 w : World} {L : List As} {F bd : Nat} {evs : List Ev} {rds : List Nat} (hs : St w0 (FlB F bd evs rds :: L) w) {e : Ev} (h1 : 1 ≤ e.1) (h2 : e.1 ≤ 3) (h3 : 0 ≤ e.2) (hl : evs.length < 4611686018427387904) {G cG : Nat} (hG : RdS w0 L (some ⟨G, 0, none⟩) (e2 e)) :
    Calls Tryz.prog 300 #[.pointer (some ⟨F, 0, none⟩), .slice (some ⟨G, 0, none⟩) 1 cG] w fun r w' => r = .returned (.int .i64 0) ∧ St w0 (FlB F bd (evs ++ [e]) rds :: L) w' := by
  obtain ⟨A, cap, B, cap2, hok, hs⟩ := hs.flopen
  have hll := lastE_len bd evs
  have hbd := hok.b2
  have hbd1 := hok.b1
  obtain ⟨m, hm⟩ : ∃ m, Hid (rds.length = m) := ⟨_, rfl⟩
  obtain ⟨nt, hnt⟩ : ∃ nt, Hid (evs.length = nt) := ⟨_, rfl⟩
  obtain ⟨n, hn⟩ : ∃ n, Hid ((lastE bd evs).length = n) := ⟨_, rfl⟩
  rw [hm.out, hnt.out, hn.out] at hs
  rw [hn.out] at hll
  rw [hnt.out] at hl hll
  have hn2 : n ≤ 1000 := by omega
  have HOK := Lib.hid hok
  have HLL := Lib.hid hll
  clear hok hll
  have hGs := Lib.hid hG
  have hc1 := Rd.fl1 _ hs
  have HC := Lib.hid (containsE1_c (cap := cG) h1 h2 h3 hs.drop.drop.drop hG)
  clear hG
  go_enter Tryz.func300, Tryz.ntmps300
  go_upto_region 3 with (first
    | (go_at_call 333; refine HC.out.mono ?_; rintro r w' ⟨rfl, hg⟩; replace hs := hs.grew hg; clear hg hc1; have hc1 := Rd.fl1 _ hs))
  go_upto_region 4 with (first
    | (refine wpl_store (v := .int .i64 ((nt + 1 : Nat) : Int)) rfl (by go_num) rfl size8 hs (Wr.fl1 (nt' := nt + 1)) ?_; clear hs hc1; intro w hs; have hc2 := Rd.fl2 _ hs))
  have hvv : ∀ v ∈ [Value.slice A n cap, .slice (some ⟨G, 0, none⟩) 1 cG], v.cells = #[v] := by
    intro v hv
    simp only [List.mem_cons, List.not_mem_nil, or_false] at hv
    rcases hv with rfl | rfl <;> rfl
  go_upto_region 5 with (first
    | (refine wpl_buildN (vs := [.slice A n cap, .slice (some ⟨G, 0, none⟩) 1 cG]) elemEE rfl rfl (show 2 ≤ 16777216 by decide) (show 0 < 2 by decide) hvv hs ?_; clear hs hc2; intro G2 w hs)
    | (go_at_call 335; refine (concatE_c (xs := lastE bd evs) (ys := [e]) (n := n) (m := 1) hs (Rd.blk rfl) (Rd.blk rfl) (RdS.own hs.drop.drop).tail.tail hGs.out.tail.tail.tail.tail hn.out rfl (by omega) (by omega)).mono ?_; clear hs; rintro r w ⟨C, cC, rfl, hs⟩; replace hs := hs.rot.drop.up2.drop.rot)
    | (refine wpl_store (v := .slice C (n + 1) cC) rfl rfl rfl sizeEs hs (Wr.fl2 (A' := C) (n' := n + 1) (cap' := cC)) ?_; clear hs; intro w hs))
  obtain ⟨gC, rfl⟩ := hs.rot.own_at (by omega)
  have hr0 := Rd.fl0 (w0 := w0) (F := F) (bd := bd) (nt := nt + 1) (A := some ⟨gC, 0, none⟩) (n := n + 1) (cap := cC) (B := B) (m := m) (cap2 := cap2) (L := []) (t := 422)
  have hr2 := Rd.fl2 (w0 := w0) (F := F) (bd := bd) (nt := nt + 1) (A := some ⟨gC, 0, none⟩) (n := n + 1) (cap := cC) (B := B) (m := m) (cap2 := cap2) (L := []) (t := 422)
  obtain ⟨k, hk⟩ : ∃ k : Nat, k = n + 1 - bd := ⟨_, rfl⟩
  have hmx : max ((n : Int) + 1 - (bd : Nat)) 0 = (k : Nat) := by omega
  have hkn : k ≤ n + 1 := by omega
  have hcl := (hs.rot.own_len).2.1
  have hck : ¬ cC = k := by omega
  have hnk : n + 1 - k ≤ 1000 := by omega
  have hkl : (lastE bd evs ++ [e]).length = n + 1 := by rw [List.length_append, hn.out]; rfl
  have HK : Hid ((lastE bd evs ++ [e]).drop k = lastE bd (evs ++ [e])) := by rw [Hid, lastE_add, hkl, hk]
  have HKL := Lib.hid hkl
  clear hk hkl hcl
  refine wp_region_plain [false, false, false, false, false, false, false, false, false, false, false, false, false, false, false, false, false, true, false, false, true] hs.only (by kernel_rfl) (by kernel_rfl) fun hne => ?_
  have c0 := hr0.alln
  have c2 := hr2.alln
  simp only [pickOps]
  repeat (go_big_quiet_step (fail))
  refine wpQuiet_nil ?_
  clear hne c0 c2
  simp only [chainIx]
  refine wpChainP_next rfl ?_
  replace hs := hs.drew
  go_wp2_with (first
    | (go_at_call 314; refine (cloneE_c (A := some ⟨gC, k * 2, none⟩) (l := (lastE bd evs ++ [e]).drop k) (fun h => nomatch h) (by rw [List.length_drop, HKL.out]) (by omega) hs (by rw [← es2_drop]; exact RdS.own_at.tail)).mono ?_; clear hs; rintro r w ⟨D, cD, rfl, hs⟩))
  refine ⟨hs.drop.only, ?_⟩
  replace hs := hs.rot.up2.drop.ent (M := blk F (flC bd (nt + 1) (some ⟨gC, 0, none⟩) (n + 1) cC B m cap2) 422 :: own D (n + 1 - k) cD 238 2 (es2 ((lastE bd evs ++ [e]).drop k)) :: own B m cap2 2 1 (i8s rds) :: L) (by (repeat first | exact Ent.refl _ | refine Ent.step (by repeat first | exact Ent.refl _ | apply Ent.skip) ?_))
  refine wpChain_last rfl ?_
  refine wpl_store rfl rfl rfl sizeEs hs (Wr.fl2 (A' := D) (n' := n + 1 - k) (cap' := cD)) ?_
  clear hs
  intro w hs
  refine wpList_nil ⟨rfl, ?_⟩
  go_wp2
  go_ret
  refine ⟨rfl, ?_⟩
  rw [HK.out] at hs
  refine hs.flshut ⟨HOK.out.b1, HOK.out.b2, HOK.out.few, fun r hr => ?_⟩ ?_ ?_ hm.out.symm rfl rfl
  · rw [List.length_append]; exact Nat.le_add_right_of_le (HOK.out.back r hr)
  · rw [List.length_append, hnt.out]; rfl
  · rw [← HK.out, List.length_drop, HKL.out]
end Go.Proofs.YtcnbmfaicbkhcaaGreatDoor

/-
  What befell (flag.Flag), 3: Behind, Read.
-/
set_option maxRecDepth 100000
namespace Go.Proofs.YtcnbmfaicbkhcaaGreatDoor
open Go Go.RowKit
attribute [local irreducible] wpList Calls Code.wp

/-- What a reader that had read so many is told; whether it lagged. -/
def lagE (bd : Nat) (evs : List Ev) (k : Nat) : Bool := decide (bd < evs.length - k)
def newE (bd : Nat) (evs : List Ev) (k : Nat) : List Ev := if lagE bd evs k then [] else evs.drop k
end Go.Proofs.YtcnbmfaicbkhcaaGreatDoor
