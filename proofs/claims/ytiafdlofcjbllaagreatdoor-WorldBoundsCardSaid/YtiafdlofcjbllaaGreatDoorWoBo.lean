/-
  WorldBounds: plain law, the walk.
-/
import Derived.Test.YtiafdlofcjbllaaGreatDoorWo13
import Derived.Test.YtiafdlofcjbllaaGreatDoorOpsB
import Derived.Test.YtiafdlofcjbllaaGreatDoorJU
import Derived.Test.YtiafdlofcjbllaaGreatDoorEnLw
import Derived.Test.YtiafdlofcjbllaaGreatDoorJA
set_option maxRecDepth 100000
namespace Go.Proofs.YtiafdlofcjbllaaGreatDoor
open Go Go.RowKit
def insO (i : Nat) : OpW := ⟨2, (0, 1), 0, ⟨1, (i : Nat), 0⟩⟩
def zW : OpW := ⟨0, (0, 0), 0, V3.z⟩
def rowO (n i : Nat) : List OpW := (List.range i).map insO ++ List.replicate (n - i) zW
theorem rowO_len {n i : Nat} (h : i ≤ n) : (rowO n i).length = n := by unfold rowO; simp; omega
theorem rowO_set {n i : Nat} (h : i < n) : (rowO n i).set i (insO i) = rowO n (i + 1) := by
  unfold rowO
  rw [List.set_append_right _ _ (by simp), List.range_succ]
  obtain ⟨m, hm⟩ : ∃ m, n - i = m + 1 := ⟨n - i - 1, by omega⟩
  rw [hm, show n - (i + 1) = m by omega]
  simp [List.replicate_succ]
theorem rowO_all (n : Nat) : rowO n n = (List.range n).map insO := by unfold rowO; simp
theorem rowO_zero (n : Nat) : rowO n 0 = List.replicate n zW := by unfold rowO; simp
structure BoC (c1 : List ACell) : Prop where
  cr : giveV 1 (newA 2) = ((0, 1), 0, c1)
  st : stV c1 (0, 1) = 1
  mg : mergeA c1 = c1
  ix : idxS 2 c1 = []
theorem boC : ∃ c1, BoC c1 := ⟨(newA 2).set 0 (1, 1), by kernel_rfl, by kernel_rfl, by kernel_rfl, by kernel_rfl⟩
/-- One thing of one component. -/
structure InsI (c1 : List ACell) (t : WoS) (k : Nat) : Prop where
  at_ : ∃ (X : Nat) (sl : SlS), t.e = ⟨1, c1, [(X, sl)]⟩ ∧ sl.d = ⟨1, 1, 0⟩
  held : t.held = false
  ev : EvL k t.e.l
section
variable {c1 : List ACell} {s t : WoS} {k : Nat}
theorem InsI.defE (hc : BoC c1) (h : InsI c1 s k) (is : List Nat) : s.defE (is.map insO) = if 10000 < s.q.length + is.length then 2 else 0 := by
  obtain ⟨X, sl, he, hd⟩ := h.at_
  have hst : stV s.e.cs (0, 1) ≠ 0 := by rw [he]; show stV c1 (0, 1) ≠ 0; rw [hc.st]; decide
  have hsl : s.e.slot 0 = some (X, sl) := by rw [he]; rfl
  have hkn : ∀ i, s.kn (insO i) = (true, true) := fun i => by
    rw [WoS.kn_ins (o := insO i) (show (2 : Int) ≠ 1 by decide) (show (2 : Int) ≠ 3 by decide) hsl]
    simp only
    rw [hd]
    rfl
  have hok : ∀ i, (insO i).ok = true := fun i => rfl
  have h1 : (is.map insO).any (fun o => !o.ok) = false := by simp [List.any_map, hok]
  have h2 : (is.map insO).any (fun o => decide (stV s.e.cs o.h = 0)) = false := by
    simp only [List.any_map, List.any_eq_false, Function.comp]
    intro i _
    simp [insO, hst]
  have h3 : (is.map insO).all (fun o => (s.kn o).1) = true := by simp [List.all_map, hkn]
  have h4 : (is.map insO).all (fun o => (s.kn o).2) = true := by simp [List.all_map, hkn]
  rw [WoS.defE_q h1 h2 h3 h4]
  unfold quE
  rw [h1, List.length_map]
  rfl
theorem InsI.step (hc : BoC c1) (h : InsI c1 t k) (i : Nat) : ∃ t', t.apply (insO i) = (true, t') ∧ InsI c1 t' (k + 1) ∧ t'.q = t.q ∧ t'.get (0, 1) 0 = (⟨1, (i : Nat), 0⟩, 0) := by
  obtain ⟨⟨X, sl, he, hd⟩, hh, hev⟩ := h
  have hl : t.e.live (0, 1) = 0 := by rw [he]; exact EnS.live_zero.2 hc.st
  have hs : t.e.slot 0 = some (X, sl) := by rw [he]; rfl
  have hi := EnS.ins_in (v := ⟨1, (i : Nat), 0⟩) hl hs
  have her : sl.err 0 ⟨1, (i : Nat), 0⟩ = 0 := SlS.err_iff.2 ⟨by decide, by rfl, by rw [hd]⟩
  simp only at hi
  rw [her] at hi
  refine ⟨_, WoS.apply_ins (o := insO i) rfl hi, ⟨⟨X, sl.put 0 ⟨1, (i : Nat), 0⟩, by rw [he]; rfl, by rw [SlS.put_d]; exact hd⟩, hh, ?_⟩, rfl, ?_⟩
  · have := EvL.ins (h := (0, 1)) (c := 0) (v := ⟨1, (i : Nat), 0⟩) hev
    rw [hi] at this
    exact this
  · unfold WoS.get
    show EnS.get ⟨t.e.top, t.e.cs, t.e.l.set 0 (X, sl.put 0 ⟨1, (i : Nat), 0⟩)⟩ (0, 1) 0 = _
    rw [EnS.get_in (x := (X, sl.put 0 ⟨1, (i : Nat), 0⟩)) (by exact hl) (by rw [he]; rfl)]
    simp only
    rw [SlS.put_has her, SlS.put_get her]
    rfl
theorem InsI.run (hc : BoC c1) : ∀ {is : List Nat} {t : WoS} {k : Nat} (i : Nat), InsI c1 t k → ∃ t', t.run ((is ++ [i]).map insO) = (is.length + 1, 0, t') ∧ InsI c1 t' (k + is.length + 1) ∧ t'.q = t.q ∧ t'.get (0, 1) 0 = (⟨1, (i : Nat), 0⟩, 0)
  | [], t, k, i, h => by
    obtain ⟨t', h1, h2, h3, h4⟩ := h.step hc i
    refine ⟨t', ?_, h2, h3, h4⟩
    show t.run [insO i] = _
    unfold WoS.run
    rw [h1]
    unfold WoS.run
    rfl
  | j :: is, t, k, i, h => by
    obtain ⟨t1, h1, h2, h3, _⟩ := h.step hc j
    obtain ⟨t', h5, h6, h7, h8⟩ := InsI.run hc (is := is) i h2
    refine ⟨t', ?_, by rw [show k + (j :: is).length + 1 = k + 1 + is.length + 1 by simp; omega]; exact h6, h7.trans h3, h8⟩
    show t.run (insO j :: ((is ++ [i]).map insO)) = _
    unfold WoS.run
    rw [h1]
    simp only
    rw [h5]
    rfl
/-- What Maintain comes to. -/
theorem InsI.maint (hc : BoC c1) (h : InsI c1 s k) {is : List Nat} {i : Nat} (hq : s.q = (is ++ [i]).map insO) : ∃ t, s.maint = (⟨0, ((is.length + 1 : Nat) : Int), 0⟩, 0, t) ∧ InsI c1 t (k + is.length + 1) ∧ t.q = [] ∧ t.get (0, 1) 0 = (⟨1, (i : Nat), 0⟩, 0) := by
  obtain ⟨X, sl, he, hd⟩ := h.at_
  have e1 : ({ s with e := ⟨s.e.top, mergeA s.e.cs, s.e.l⟩, q := [] } : WoS) = { s with q := [] } := by
    obtain ⟨e, q, r, hl⟩ := s
    obtain rfl := he
    show WoS.mk ⟨1, mergeA c1, _⟩ _ _ _ = _
    rw [hc.mg]
  have hb : InsI c1 ({ s with q := [] } : WoS) k := ⟨h.at_, h.held, h.ev⟩
  obtain ⟨t, h1, h2, h3, h4⟩ := InsI.run hc (is := is) i hb
  refine ⟨t, ?_, h2, h3, h4⟩
  rw [WoS.maint_ok (s := s) (a := is.length + 1) (b := 0) (u := t) (WoS.free_free h.held) (by rw [e1, hq]; exact h1), he]
  show ((⟨(((idxS 2 c1).length : Nat) : Int), _, _⟩ : V3), _, _) = _
  rw [hc.ix]
  rfl
end
theorem rep7 (n : Nat) : (List.replicate n zW).flatMap c7w = List.replicate (n * 7) (.int .i64 0) := by
  induction n with
  | zero => rfl
  | succ n ih =>
    rw [List.replicate_succ, List.flatMap_cons, ih, show (n + 1) * 7 = 7 + n * 7 by omega, ← List.replicate_append_replicate]
    rfl
theorem made7 (n : Nat) : madeCells (valW zW).cells (n * 7) = ((List.replicate n zW).flatMap c7w).toArray := by
  rw [rep7]
  unfold madeCells
  apply Array.toList_inj.1
  apply List.ext_getElem?
  intro i
  by_cases h : i < n * 7
  · simp only [Array.toList_map, Array.toList_range, List.getElem?_map, List.getElem?_range h, Option.map_some, List.getElem?_replicate, if_pos h]
    have h7 : i % 7 < 7 := Nat.mod_lt _ (by decide)
    show some ((#[Value.int .i64 0, .int .i64 0, .int .i64 0, .int .i64 0, .int .i64 0, .int .i64 0, .int .i64 0] : Array Value)[i % 7]!) = _
    obtain ⟨q, hq⟩ : ∃ q, i % 7 = q := ⟨_, rfl⟩
    rw [hq] at h7 ⊢
    match q, h7 with
    | 0, _ | 1, _ | 2, _ | 3, _ | 4, _ | 5, _ | 6, _ => rfl
  · rw [List.getElem?_eq_none (by simpa using h), List.getElem?_eq_none (by simpa using h)]
theorem run_mk7 {n : Nat} (hn : n ≤ 65536) (w : World) : (Instr.makeSlice 57 (.int .i64 (n : Nat)) (.int .i64 (n : Nat))).run Tryz.prog w = .ok (.slice (some ⟨w.heap.size, 0, none⟩) n n) (w.alloc (.cells ((List.replicate n zW).flatMap c7w).toArray 99)) := by
  have hi : (Tryz.prog.info? 99).map (fun i => (i.zero, i.size, i.bytes)) = some (some (valW zW), 7, 56) := by kernel_rfl
  cases hq : Tryz.prog.info? 99 with
  | none => rw [hq] at hi; cases hi
  | some i =>
    rw [hq] at hi
    simp at hi
    obtain ⟨hz, hsz, hby⟩ := hi
    have hr := run_make (P := Tryz.prog) w 57 99 i (valW zW) Tryz.underlying57 hq hz .i64 .i64 (n : Nat) (n : Nat) (by omega) (by omega) (by rw [hby]; omega) (by omega)
    rw [hr, hsz]
    simp only [Int.toNat_natCast]
    rw [made7]
section
variable {P : Program} {ops : Array Oper} {Q : Exit → Act → World → Prop} {rest : List Oper} {a : Act} {w0 w : World} {L : List As} {dst : Option Tmp} {ty : TypeId} {pos : String} {after : Array Edge}
theorem wpl_makeRun {t e : TypeId} {x y : Operand} {vx vy : Value} {n : Nat} {cs : Array Value} (hz : ∀ w : World, (Instr.makeSlice t vx vy).run P w = .ok (.slice (some ⟨w.heap.size, 0, none⟩) n n) (w.alloc (.cells cs e))) (hx : a.eval x = vx) (hy : a.eval y = vy) (hs : St w0 L w)
    (next : ∀ g w', St w0 (blk g cs e :: L) w' → wpList P ops Q rest (a.put dst (.slice (some ⟨g, 0, none⟩) n n)) w') : wpList P ops Q (⟨dst, .makeSlice t x y, ty, pos, after, none⟩ :: rest) a w :=
  wpList_plain rfl fun K hK => by
    unfold Oper.wp execOp
    simp only [Sem.run_bind, hx, hy, hz w, Result.andThen_ok, Sem.run_pure]
    exact hK _ _ (next _ _ (hs.alloc _ _))
end
theorem build_d112 (w : World) : (Instr.build 97 #[(0, .int .i64 1), (1, .int .i64 1)]).run Tryz.prog w = .ok (val3 ⟨1, 1, 0⟩) w := by kernel_rfl
theorem build_v1a (a : Int) (w : World) : (Instr.build 38 #[(0, .int .i64 1), (1, .int .i64 a)]).run Tryz.prog w = .ok (val3 ⟨1, a, 0⟩) w := by kernel_rfl
theorem build_rpa (a : Int) (w : World) : (Instr.build 102 #[(1, .int .i64 a)]).run Tryz.prog w = .ok (val3 ⟨0, a, 0⟩) w := by kernel_rfl
theorem insF {X : Nat} {v : Value} {F : Option Nat} {c1 : List ACell} : InsI c1 ⟨⟨1, c1, [(X, newSl ⟨1, 1, 0⟩ v F)]⟩, [], [], false⟩ 0 := ⟨⟨X, _, rfl, rfl⟩, rfl, fun x hx => by
  have : x = (X, newSl ⟨1, 1, 0⟩ v F) := by simpa using hx
  rw [this]; exact Nat.le_refl _⟩
theorem range_last {n : Nat} (h : 0 < n) : List.range n = List.range (n - 1) ++ [n - 1] := by
  obtain ⟨m, rfl⟩ : ∃ m, n = m + 1 := ⟨n - 1, by omega⟩
  rw [List.range_succ]; simp
/-- The calls of the statement, n Ops and k of them once more. -/
structure BoK (c1 : List ACell) (s1 s2 s3 t s4 : WoS) (n k : Nat) (want : Int) (m last : Int) : Prop where
  d1 : s1.defer ((List.range n).map insO) = (0, s2)
  d2 : s2.defer ((List.range k).map insO) = (want, s3)
  mt : s3.maint = (⟨0, m, 0⟩, 0, t)
  gt : t.get (0, 1) 0 = (⟨1, last, 0⟩, 0)
  d3 : t.defer ((List.range k).map insO) = (0, s4)
  q1 : s1.q.length ≤ 10000
  q2 : s2.q.length ≤ 10000
  q3 : s3.q.length ≤ 10000
  q4 : t.q.length ≤ 10000
  ev : EvL 0 s3.e.l
theorem boK {c1 : List ACell} (hc : BoC c1) {s1 : WoS} (h : InsI c1 s1 0) (hq : s1.q = []) {n k : Nat} (hn0 : 0 < n) (hn : n ≤ 10000) (hk0 : 0 < k) (hk : k ≤ 16) :
    (¬ 10000 < n + k → ∃ s2 s3 t s4, BoK c1 s1 s2 s3 t s4 n k 0 ((n + k : Nat) : Int) ((k - 1 : Nat) : Int)) ∧ (10000 < n + k → ∃ s2 s3 t s4, BoK c1 s1 s2 s3 t s4 n k 2 ((n : Nat) : Int) ((n - 1 : Nat) : Int)) := by
  have e1 : s1.defE ((List.range n).map insO) = 0 := by rw [h.defE hc, hq, List.length_range, if_neg (by simp; omega)]
  have d1 := WoS.defer_ok e1
  rw [hq, List.nil_append] at d1
  have h2 : InsI c1 ({ s1 with q := (List.range n).map insO } : WoS) 0 := ⟨h.at_, h.held, h.ev⟩
  have e2 := h2.defE hc (List.range k)
  have hl : (({ s1 with q := (List.range n).map insO } : WoS).q.length) = n := by show ((List.range n).map insO).length = n; simp
  rw [hl, List.length_range] at e2
  have tail : ∀ {t : WoS} {j : Nat}, InsI c1 t j → t.q = [] → t.defer ((List.range k).map insO) = (0, { t with q := (List.range k).map insO }) := fun {t j} ht htq => by
    have := WoS.defer_ok (s := t) (l := (List.range k).map insO) (by rw [ht.defE hc, htq, List.length_range, if_neg (by simp; omega)])
    rw [htq, List.nil_append] at this
    exact this
  constructor
  · intro hle
    rw [if_neg hle] at e2
    have d2 := WoS.defer_ok e2
    have h3 : InsI c1 ({ s1 with q := (List.range n).map insO ++ (List.range k).map insO } : WoS) 0 := ⟨h.at_, h.held, h.ev⟩
    obtain ⟨t, m1, m2, m3, m4⟩ := h3.maint hc (is := List.range n ++ List.range (k - 1)) (i := k - 1) (by
      show (List.range n).map insO ++ (List.range k).map insO = _
      rw [List.append_assoc, ← range_last hk0, List.map_append])
    refine ⟨_, _, t, _, ⟨d1, d2, ?_, m4, tail m2 m3, by rw [hq]; exact Nat.zero_le _, by rw [hl]; exact hn, ?_, by rw [m3]; exact Nat.zero_le _, h.ev⟩⟩
    · rw [m1]
      simp only [List.length_append, List.length_range]
      rw [show n + (k - 1) + 1 = n + k by omega]
    · show ((List.range n).map insO ++ (List.range k).map insO).length ≤ 10000
      simp; omega
  · intro hgt
    rw [if_pos hgt] at e2
    have d2 := WoS.defer_bad e2 (by decide)
    obtain ⟨t, m1, m2, m3, m4⟩ := h2.maint hc (is := List.range (n - 1)) (i := n - 1) (by
      show (List.range n).map insO = _
      rw [← range_last hn0])
    refine ⟨_, _, t, _, ⟨d1, d2, ?_, m4, tail m2 m3, by rw [hq]; exact Nat.zero_le _, by rw [hl]; exact hn, by rw [hl]; exact hn, by rw [m3]; exact Nat.zero_le _, h.ev⟩⟩
    rw [m1]
    simp only [List.length_range]
    rw [show n - 1 + 1 = n by omega]
theorem RdS.pre {w0 : World} {L : List As} {A : Option Addr} {n k : Nat} (hk : k ≤ n) (h : RdS w0 L A (((List.range n).map insO).flatMap c7w)) : RdS w0 L A (((List.range k).map insO).flatMap c7w) := fun j u hu => by
  refine h j u ?_
  have e : (List.range n).map insO = (List.range k).map insO ++ ((List.range n).drop k).map insO := by
    rw [← List.map_append]
    congr 1
    have : (List.range n).take k = List.range k := by rw [List.take_range, Nat.min_eq_left hk]
    rw [← this, List.take_append_drop]
  rw [e, List.flatMap_append]
  rw [List.getElem?_append_left (List.getElem?_eq_some_iff.1 hu).1]
  exact hu
attribute [local irreducible] wpList Calls Code.wp okI okN pS tS memS getG pG insS delS getV pV tV okVal newSl SlS.put SlS.err SlS.putU SlS.putB descE SlS.take SlS.set SlS.errSet SlS.get SlS.has stV EnS.live EnS.get EnS.slot EnS.ins EnS.set EnS.rem EnS.parts EnS.del ofN strL delA newA giveV cs3 errDs descsL mkV WoS.defer WoS.maint WoS.get WoS.create insO rowO
set_option maxHeartbeats 16000000 in
theorem wobounds_c {w0 : World} (hT : Tab w0) (z0 z1 : Int) :
    Calls Tryz.prog 5 #[.int .i64 z0, .int .i64 z1] w0 (LawPost w0) := by
  have hs := St.start w0
  have hm1 : Hid (([⟨1, 1, 0⟩] : List V3).length = 1) := rfl
  have hk0 : Hid (([] : List Int).length = 0) := rfl
  obtain ⟨c1, HC⟩ := boC
  have HC := Lib.hid HC
  have h7 : bits .and .i64 z0 7 = ((z0 % 8).toNat : Nat) := and_m (p := 3) (by decide)
  have h15 : bits .and .i64 z1 15 = ((z1 % 16).toNat : Nat) := and_m (p := 4) (by decide)
  obtain ⟨q7, hq7⟩ : ∃ q, (z0 % 8).toNat = q := ⟨_, rfl⟩
  obtain ⟨q15, hq15⟩ : ∃ q, (z1 % 16).toNat = q := ⟨_, rfl⟩
  have hq7b : q7 < 8 := by omega
  have hq15b : q15 < 16 := by omega
  rw [hq7] at h7
  rw [hq15] at h15
  clear hq7 hq15
  obtain ⟨n, hn⟩ : ∃ n : Nat, ((q7 : Nat) : Int) + 9990 = (n : Int) := ⟨q7 + 9990, by omega⟩
  obtain ⟨k, hk⟩ : ∃ k : Nat, ((q15 : Nat) : Int) + 1 = (k : Int) := ⟨q15 + 1, by omega⟩
  have hnb : n ≤ 9997 := by omega
  have hna : 9990 ≤ n := by omega
  have hkb : k ≤ 16 := by omega
  have hka : 0 < k := by omega
  clear hq7b hq15b
  go_enter Tryz.func5, Tryz.ntmps5
  go_upto_region 3 with (first
    | (refine wpl_buildS build_d112 rfl ?_)
    | (refine wpl_build1 (v := val3 ⟨1, 1, 0⟩) elemDs (by decide) rfl rfl hs ?_; clear hs; intro G w1 hs; replace hs : St w0 [blk G (c3 ⟨1, 1, 0⟩).toArray 97] w1 := hs)
    | (refine wpl_buildS (build_cf 2 1 (some ⟨G, 0, none⟩) 1 1) rfl ?_)
    | (go_at_call 47; refine (wo_new (n := 2) (top := 1) hs (by decide) (by decide) (by decide) (by decide) (ds := [⟨1, 1, 0⟩]) (m := 1) hm1 (by decide) (by rw [cs3_one]; exact RdS.blk) err_one (fun _ => ⟨rfl, rfl⟩) hk0 (by decide) (by decide) RdS.nil).mono ?_; clear hs; rintro r w ⟨W, E, A, R, X, Q, l, HNL, rfl, hs⟩; replace hs := hs.rot.drop))
  obtain ⟨Y, pv, F, rfl⟩ := newL_one HNL.out
  clear HNL hm1 hk0
  have HCR : Hid ((⟨⟨1, newA 2, [(Y, newSl ⟨1, 1, 0⟩ pv F)]⟩, [], [], false⟩ : WoS).create = ((0, 1), 0, ⟨⟨1, c1, [(Y, newSl ⟨1, 1, 0⟩ pv F)]⟩, [], [], false⟩)) := WoS.create_ok (WoS.free_free rfl) HC.out.cr
  have HS0 := boK HC.out (insF (X := Y) (v := pv) (F := F)) rfl (n := n) (k := k) (by omega) (by omega) hka hkb
  obtain ⟨s1, HS1⟩ : ∃ z, Hid ((⟨⟨1, c1, [(Y, newSl ⟨1, 1, 0⟩ pv F)]⟩, [], [], false⟩ : WoS) = z) := ⟨_, rfl⟩
  obtain ⟨s0, HSS⟩ : ∃ z, Hid ((⟨⟨1, newA 2, [(Y, newSl ⟨1, 1, 0⟩ pv F)]⟩, [], [], false⟩ : WoS) = z) := ⟨_, rfl⟩
  rw [HS1.out, HSS.out] at HCR
  rw [HS1.out] at HS0
  rw [HSS.out] at hs
  have HS0 := Lib.hid HS0
  go_upto_region 6 with (first
    | (go_at_call 52; refine (wo_create hT hs HCR).mono ?_; clear hs; rintro r w ⟨rfl, hs⟩)
    | (refine wpl_alloc zeroH hs ?_; clear hs; intro g7 w hs)
    | (refine wpl_store_agg (v := hv (0, 1)) rfl rfl (by rw [sizeHd]; rfl) hs WrA.slotH ?_; clear hs; intro w hs))
  clear HS1 HSS HCR
  have HMK := Lib.hid (run_mk7 (n := n) (by omega))
  go_upto_region 8 with (first
    | (refine wpl_makeRun (vx := .int .i64 (n : Nat)) (vy := .int .i64 (n : Nat)) HMK.out rfl rfl hs ?_; clear hs; intro gL w hs; replace hs : St w0 (own (some ⟨gL, 0, none⟩) n n 99 7 ((rowO n 0).flatMap c7w) :: blk g7 (h2 (0, 1)).toArray 40 :: [WoB W E A R X Q 2 s1]) w := by rw [rowO_zero]; exact St.conv hs (own_of_blkN (C := 7) (by rw [c7_len, List.length_replicate]) (by unfold maxLen; omega))))
  replace hs : St w0 [own (some ⟨gL, 0, none⟩) n n 99 7 ((rowO n 0).flatMap c7w), WoB W E A R X Q 2 s1, blk g7 (h2 (0, 1)).toArray 40] w := hs.ent (by (repeat first | exact Ent.refl _ | refine Ent.step (by repeat first | exact Ent.refl _ | apply Ent.skip) ?_))
  go_loopw [46] (fun iv wr => ∃ i : Nat, i ≤ n ∧ iv = .int .i64 (i : Nat) ∧ St w0 [own (some ⟨gL, 0, none⟩) n n 99 7 ((rowO n i).flatMap c7w), WoB W E A R X Q 2 s1, blk g7 (h2 (0, 1)).toArray 40] wr) (fun iv _ => n - (intOf iv).toNat)
  case atStart => exact ⟨0, Nat.zero_le _, rfl, hs⟩
  case round =>
    clear hs
    obtain ⟨i, hi, rfl, hs⟩ := hrel
    by_cases hlt : i < n
    · have hcl : i * 7 + (valW ⟨2, (0, 1), 0, ⟨1, (i : Nat), 0⟩⟩).cells.toList.length ≤ ((rowO n i).flatMap c7w).length := by rw [c7_len, rowO_len hi]; show i * 7 + 7 ≤ _; omega
      have hsp : splice ((rowO n i).flatMap c7w) (i * 7) (valW ⟨2, (0, 1), 0, ⟨1, (i : Nat), 0⟩⟩).cells.toList = (rowO n (i + 1)).flatMap c7w := by rw [← rowO_set hlt, ← flat_set c7len (insO i) (by rw [rowO_len hi]; exact hlt)]; unfold insO; rfl
      have HCL := Lib.hid hcl
      have HSP := Lib.hid hsp
      clear hcl hsp
      go_wp2_with (first
        | (refine wpl_load_agg (cs := h2 (0, 1)) (b := g7) (o := 0) rfl aggH (sizeHd _) hs ?hh ?_; case hh => exact fun j x hx => (Rd.blk (by simpa using hx)).tail.tail)
        | (refine wpl_buildS (build_v1a _) rfl ?_)
        | (refine wpl_buildS (build_op2 2 0 1 ⟨1, (i : Nat), 0⟩) rfl ?_)
        | (refine wpl_store_agg (v := valW ⟨2, (0, 1), 0, ⟨1, (i : Nat), 0⟩⟩) rfl rfl (sizeWv _) hs (WrA.own HCL.out (c7w_one _)) ?_; clear hs; intro w hs; rw [HSP.out] at hs))
      go_roundw
      case rel => exact ⟨i + 1, by omega, by first | rfl | go_num, hs⟩
      case measure => simp [intOf]; omega
    · obtain rfl : n = i := by omega
      rw [rowO_all] at hs
      replace hs := hs.rot
      by_cases hgt : 10000 < n + k
      · obtain ⟨s2, s3, t, s4, hb⟩ := HS0.out.2 hgt
        have d1 : decide (((n : Nat) : Int) + ((k : Nat) : Int) > 10000) = true := decide_eq_true (by omega)
        have d2 : ((n : Nat) : Int) - 1 = ((n - 1 : Nat) : Int) := by omega
        clear HS0
        have HD1 := Lib.hid hb.d1
        have HD2 := Lib.hid hb.d2
        have HD3 := Lib.hid hb.d3
        have HMT := Lib.hid hb.mt
        have HGT := Lib.hid hb.gt
        have HB := Lib.hid hb
        have hlN : Hid (((List.range n).map insO).length = n) := by simp [Hid]
        have hlK : Hid (((List.range k).map insO).length = k) := by simp [Hid]
        have HA1 : Hid (∀ w, St w0 [WoB W E A R X Q 2 s1, own (some ⟨gL, 0, none⟩) n n 99 7 (((List.range n).map insO).flatMap c7w), blk g7 (h2 (0, 1)).toArray 40] w → Calls Tryz.prog 53 #[.pointer (some ⟨W, 0, none⟩), .slice (some ⟨gL, 0, none⟩) n n] w fun r w' => r = .returned (.int .i64 0) ∧ St w0 [WoB W E A R X Q 2 s2, own (some ⟨gL, 0, none⟩) n n 99 7 (((List.range n).map insO).flatMap c7w), blk g7 (h2 (0, 1)).toArray 40] w') := fun w q => by
          have h := wo_defer (cap := n) (l := (List.range n).map insO) HB.out.q1 (by rw [hlN.out]; omega) q (RdS.own q.drop) HD1
          rw [hlN.out] at h; exact h
        have HA2 : Hid (∀ w, St w0 [WoB W E A R X Q 2 s2, own (some ⟨gL, 0, none⟩) n n 99 7 (((List.range n).map insO).flatMap c7w), blk g7 (h2 (0, 1)).toArray 40] w → Calls Tryz.prog 53 #[.pointer (some ⟨W, 0, none⟩), .slice (some ⟨gL, 0, none⟩) k n] w fun r w' => r = .returned (.int .i64 2) ∧ St w0 [WoB W E A R X Q 2 s3, own (some ⟨gL, 0, none⟩) n n 99 7 (((List.range n).map insO).flatMap c7w), blk g7 (h2 (0, 1)).toArray 40] w') := fun w q => by
          have h := wo_defer (cap := n) (l := (List.range k).map insO) HB.out.q2 (by rw [hlK.out]; omega) q (RdS.pre (by omega) (RdS.own q.drop)) HD2
          rw [hlK.out] at h; exact h
        have HA3 : Hid (∀ w, St w0 [WoB W E A R X Q 2 t, own (some ⟨gL, 0, none⟩) n n 99 7 (((List.range n).map insO).flatMap c7w), blk g7 (h2 (0, 1)).toArray 40] w → Calls Tryz.prog 53 #[.pointer (some ⟨W, 0, none⟩), .slice (some ⟨gL, 0, none⟩) k n] w fun r w' => r = .returned (.int .i64 0) ∧ St w0 [WoB W E A R X Q 2 s4, own (some ⟨gL, 0, none⟩) n n 99 7 (((List.range n).map insO).flatMap c7w), blk g7 (h2 (0, 1)).toArray 40] w') := fun w q => by
          have h := wo_defer (cap := n) (l := (List.range k).map insO) HB.out.q4 (by rw [hlK.out]; omega) q (RdS.pre (by omega) (RdS.own q.drop)) HD3
          rw [hlK.out] at h; exact h
        clear hb HD1 HD2 HD3 hlN hlK
        generalize hxs : ((List.range n).map insO).flatMap c7w = xs at hs HA1 HA2 HA3
        clear hxs
        go_upto_region 20 with (first
          | (go_at_call 53; refine (HA1.out _ hs).mono ?_; clear hs; rintro r w ⟨rfl, hs⟩)
          | (go_at_call 53; refine (HA2.out _ hs).mono ?_; clear hs; rintro r w ⟨rfl, hs⟩))
        clear HA1 HA2
        go_upto_region 21 with (first
          | (go_at_call 54; refine (wo_maint hT hs HB.out.ev (by decide) HB.out.q3 HMT).mono ?_; clear hs; rintro r w ⟨rfl, hs⟩)
          | (refine wpl_alloc zeroRp hs ?_; clear hs; intro g13 w hs; replace hs : St w0 (blk g13 (c3 V3.z).toArray 102 :: _) w := hs)
          | (refine wpl_store_agg (v := val3 ⟨0, ((n : Nat) : Int), 0⟩) rfl rfl (sizeRp _) hs WrA.slot3 ?_; clear hs; intro w hs))
        replace hs := hs.rot
        go_upto_region 25 with (first
          | (refine wpl_load_agg (cs := h2 (0, 1)) (b := g7) (o := 0) rfl aggH (sizeHd _) hs ?hh ?_; case hh => exact fun j x hx => (Rd.blk (by simpa using hx)).tail.tail.tail)
          | (go_at_call 55; refine (wo_get (h := (0, 1)) hs HGT).mono ?_; clear hs; rintro r w ⟨rfl, hs⟩)
          | (refine wpl_alloc zero3 hs ?_; clear hs; intro g15 w hs; replace hs : St w0 (blk g15 (c3 V3.z).toArray 38 :: _) w := hs)
          | (refine wpl_store_agg (v := val3 ⟨1, ((n - 1 : Nat) : Int), 0⟩) rfl rfl (size3 _) hs WrA.slot3 ?_; clear hs; intro w hs))
        have m0 := Rd.blk (k := 0) (v := .int .i64 0) (by rfl) _ hs.drop.drop
        have m1 := Rd.blk (k := 1) (v := .int .i64 ((n : Nat) : Int)) (by rfl) _ hs.drop.drop
        have m2 := Rd.blk (k := 2) (v := .int .i64 0) (by rfl) _ hs.drop.drop
        have v1 := Rd.blk (k := 1) (v := .int .i64 ((n - 1 : Nat) : Int)) (by rfl) _ hs
        replace hs : St w0 [WoB W E A R X Q 2 t, own (some ⟨gL, 0, none⟩) n n 99 7 xs, blk g7 (h2 (0, 1)).toArray 40] _ := (hs.ent (M := blk g15 (c3 ⟨1, ((n - 1 : Nat) : Int), 0⟩).toArray 38 :: blk g13 (c3 ⟨0, ((n : Nat) : Int), 0⟩).toArray 102 :: [WoB W E A R X Q 2 t, own (some ⟨gL, 0, none⟩) n n 99 7 xs, blk g7 (h2 (0, 1)).toArray 40]) (by (repeat first | exact Ent.refl _ | refine Ent.step (by repeat first | exact Ent.refl _ | apply Ent.skip) ?_))).drop.drop
        have hbb := build_rpa
        have he := fun x : Int => eqR_bin 0 x 0 0 x 0
        simp only [beq_self_eq_true, Bool.and_self] at he
        go_wp2_with (first
          | (go_at_call 53; refine (HA3.out _ hs).mono ?_; clear hs m0 m1 m2 v1; rintro r w ⟨rfl, hs⟩)
          | (go_at_call 46; refine (awake16 (hT.grew hs.below)).mono ?_; rintro r w' ⟨rfl, hg⟩; replace hs := hs.grew hg; clear hg))
        go_ret
        exact ⟨rfl, St.front (L := []) hs⟩
      · obtain ⟨s2, s3, t, s4, hb⟩ := HS0.out.1 hgt
        obtain ⟨nk, hnk⟩ : ∃ nk : Nat, n + k = nk := ⟨_, rfl⟩
        rw [hnk] at hb
        have d1 : decide (((nk : Nat) : Int) > 10000) = false := decide_eq_false (by omega)
        have d2 : ((k : Nat) : Int) - 1 = ((k - 1 : Nat) : Int) := by omega
        have d3 : ((n : Nat) : Int) - 1 = ((n - 1 : Nat) : Int) := by omega
        have d4 : ((n : Nat) : Int) + ((k : Nat) : Int) = ((nk : Nat) : Int) := by omega
        have hgt2 : ¬ 10000 < nk := by omega
        clear HS0 hgt
        have HD1 := Lib.hid hb.d1
        have HD2 := Lib.hid hb.d2
        have HD3 := Lib.hid hb.d3
        have HMT := Lib.hid hb.mt
        have HGT := Lib.hid hb.gt
        have HB := Lib.hid hb
        have hlN : Hid (((List.range n).map insO).length = n) := by simp [Hid]
        have hlK : Hid (((List.range k).map insO).length = k) := by simp [Hid]
        have HA1 : Hid (∀ w, St w0 [WoB W E A R X Q 2 s1, own (some ⟨gL, 0, none⟩) n n 99 7 (((List.range n).map insO).flatMap c7w), blk g7 (h2 (0, 1)).toArray 40] w → Calls Tryz.prog 53 #[.pointer (some ⟨W, 0, none⟩), .slice (some ⟨gL, 0, none⟩) n n] w fun r w' => r = .returned (.int .i64 0) ∧ St w0 [WoB W E A R X Q 2 s2, own (some ⟨gL, 0, none⟩) n n 99 7 (((List.range n).map insO).flatMap c7w), blk g7 (h2 (0, 1)).toArray 40] w') := fun w q => by
          have h := wo_defer (cap := n) (l := (List.range n).map insO) HB.out.q1 (by rw [hlN.out]; omega) q (RdS.own q.drop) HD1
          rw [hlN.out] at h; exact h
        have HA2 : Hid (∀ w, St w0 [WoB W E A R X Q 2 s2, own (some ⟨gL, 0, none⟩) n n 99 7 (((List.range n).map insO).flatMap c7w), blk g7 (h2 (0, 1)).toArray 40] w → Calls Tryz.prog 53 #[.pointer (some ⟨W, 0, none⟩), .slice (some ⟨gL, 0, none⟩) k n] w fun r w' => r = .returned (.int .i64 0) ∧ St w0 [WoB W E A R X Q 2 s3, own (some ⟨gL, 0, none⟩) n n 99 7 (((List.range n).map insO).flatMap c7w), blk g7 (h2 (0, 1)).toArray 40] w') := fun w q => by
          have h := wo_defer (cap := n) (l := (List.range k).map insO) HB.out.q2 (by rw [hlK.out]; omega) q (RdS.pre (by omega) (RdS.own q.drop)) HD2
          rw [hlK.out] at h; exact h
        have HA3 : Hid (∀ w, St w0 [WoB W E A R X Q 2 t, own (some ⟨gL, 0, none⟩) n n 99 7 (((List.range n).map insO).flatMap c7w), blk g7 (h2 (0, 1)).toArray 40] w → Calls Tryz.prog 53 #[.pointer (some ⟨W, 0, none⟩), .slice (some ⟨gL, 0, none⟩) k n] w fun r w' => r = .returned (.int .i64 0) ∧ St w0 [WoB W E A R X Q 2 s4, own (some ⟨gL, 0, none⟩) n n 99 7 (((List.range n).map insO).flatMap c7w), blk g7 (h2 (0, 1)).toArray 40] w') := fun w q => by
          have h := wo_defer (cap := n) (l := (List.range k).map insO) HB.out.q4 (by rw [hlK.out]; omega) q (RdS.pre (by omega) (RdS.own q.drop)) HD3
          rw [hlK.out] at h; exact h
        clear hb HD1 HD2 HD3 hlN hlK
        generalize hxs : ((List.range n).map insO).flatMap c7w = xs at hs HA1 HA2 HA3
        clear hxs
        go_upto_region 20 with (first
          | (go_at_call 53; refine (HA1.out _ hs).mono ?_; clear hs; rintro r w ⟨rfl, hs⟩)
          | (go_at_call 53; refine (HA2.out _ hs).mono ?_; clear hs; rintro r w ⟨rfl, hs⟩))
        clear HA1 HA2
        go_upto_region 21 with (first
          | (go_at_call 54; refine (wo_maint hT hs HB.out.ev (by decide) HB.out.q3 HMT).mono ?_; clear hs; rintro r w ⟨rfl, hs⟩)
          | (refine wpl_alloc zeroRp hs ?_; clear hs; intro g13 w hs; replace hs : St w0 (blk g13 (c3 V3.z).toArray 102 :: _) w := hs)
          | (refine wpl_store_agg (v := val3 ⟨0, ((nk : Nat) : Int), 0⟩) rfl rfl (sizeRp _) hs WrA.slot3 ?_; clear hs; intro w hs))
        replace hs := hs.rot
        go_upto_region 25 with (first
          | (refine wpl_load_agg (cs := h2 (0, 1)) (b := g7) (o := 0) rfl aggH (sizeHd _) hs ?hh ?_; case hh => exact fun j x hx => (Rd.blk (by simpa using hx)).tail.tail.tail)
          | (go_at_call 55; refine (wo_get (h := (0, 1)) hs HGT).mono ?_; clear hs; rintro r w ⟨rfl, hs⟩)
          | (refine wpl_alloc zero3 hs ?_; clear hs; intro g15 w hs; replace hs : St w0 (blk g15 (c3 V3.z).toArray 38 :: _) w := hs)
          | (refine wpl_store_agg (v := val3 ⟨1, ((k - 1 : Nat) : Int), 0⟩) rfl rfl (size3 _) hs WrA.slot3 ?_; clear hs; intro w hs))
        have m0 := Rd.blk (k := 0) (v := .int .i64 0) (by rfl) _ hs.drop.drop
        have m1 := Rd.blk (k := 1) (v := .int .i64 ((nk : Nat) : Int)) (by rfl) _ hs.drop.drop
        have m2 := Rd.blk (k := 2) (v := .int .i64 0) (by rfl) _ hs.drop.drop
        have v1 := Rd.blk (k := 1) (v := .int .i64 ((k - 1 : Nat) : Int)) (by rfl) _ hs
        replace hs : St w0 [WoB W E A R X Q 2 t, own (some ⟨gL, 0, none⟩) n n 99 7 xs, blk g7 (h2 (0, 1)).toArray 40] _ := (hs.ent (M := blk g15 (c3 ⟨1, ((k - 1 : Nat) : Int), 0⟩).toArray 38 :: blk g13 (c3 ⟨0, ((nk : Nat) : Int), 0⟩).toArray 102 :: [WoB W E A R X Q 2 t, own (some ⟨gL, 0, none⟩) n n 99 7 xs, blk g7 (h2 (0, 1)).toArray 40]) (by (repeat first | exact Ent.refl _ | refine Ent.step (by repeat first | exact Ent.refl _ | apply Ent.skip) ?_))).drop.drop
        have hbb := build_rpa
        have he := fun x : Int => eqR_bin 0 x 0 0 x 0
        simp only [beq_self_eq_true, Bool.and_self] at he
        go_wp2_with (first
          | (go_at_call 53; refine (HA3.out _ hs).mono ?_; clear hs m0 m1 m2 v1; rintro r w ⟨rfl, hs⟩)
          | (go_at_call 46; refine (awake16 (hT.grew hs.below)).mono ?_; rintro r w' ⟨rfl, hg⟩; replace hs := hs.grew hg; clear hg))
        go_ret
        exact ⟨rfl, St.front (L := []) hs⟩
end Go.Proofs.YtiafdlofcjbllaaGreatDoor
