/-
  ScanJoins: the walk.
-/
import Derived.Test.YtpnjoeiohigjmaaDoorScWo
set_option maxRecDepth 100000
namespace Go.Proofs.YtpnjoeiohigjmaaDoor
open Go Go.RowKit
attribute [local irreducible] wpList Calls Code.wp

theorem mem_fold : ∀ (zs : List Int) (S : List Nat) (k : Nat), k ∈ zs.foldl addS S ↔ k ∈ S ∨ ((k : Int) ∈ zs ∧ k < 16777216)
  | [], S, k => by simp
  | z :: zs, S, k => by
    rw [List.foldl_cons, mem_fold zs]
    unfold addS
    by_cases hz : okN z
    · rw [if_pos hz, mem_insS]
      have hz2 : 0 ≤ z ∧ z < 16777216 := by simpa [okN] using hz
      constructor
      · rintro ((h | h) | ⟨h, h2⟩)
        · exact .inr ⟨by rw [List.mem_cons]; left; omega, by omega⟩
        · exact .inl h
        · exact .inr ⟨List.mem_cons_of_mem _ h, h2⟩
      · rintro (h | ⟨h, h2⟩)
        · exact .inl (.inr h)
        · rcases List.mem_cons.1 h with h | h
          · exact .inl (.inl (by omega))
          · exact .inr ⟨h, h2⟩
    · rw [if_neg hz]
      have hz2 : ¬ (0 ≤ z ∧ z < 16777216) := by simpa [okN] using hz
      constructor
      · rintro (h | ⟨h, h2⟩)
        · exact .inl h
        · exact .inr ⟨List.mem_cons_of_mem _ h, h2⟩
      · rintro (h | ⟨h, h2⟩)
        · exact .inl h
        · rcases List.mem_cons.1 h with h | h
          · omega
          · exact .inr ⟨h, h2⟩
theorem mem_setS {zs : List Int} {k : Nat} : k ∈ setS zs ↔ (k : Int) ∈ zs ∧ k < 16777216 := by
  unfold setS
  rw [mem_fold]
  simp
theorem setS_len2 (zs : List Int) : (setS zs).length ≤ zs.length := by
  suffices h : ∀ (zs : List Int) (S : List Nat), (zs.foldl addS S).length ≤ S.length + zs.length from by
    have := h zs []
    simpa [setS] using this
  intro zs
  induction zs with
  | nil => intro S; simp
  | cons z zs ih =>
    intro S
    rw [List.foldl_cons]
    have h1 := ih (addS S z)
    have h2 : (addS S z).length ≤ S.length + 1 := by
      unfold addS
      split
      · exact insS_len _ _
      · omega
    rw [List.length_cons]
    omega
def lj (k : Nat) : List NodeE := ([⟨1, [0]⟩, ⟨1, [1]⟩, ⟨2, [0, 1]⟩, ⟨3, [0, 1]⟩, ⟨4, [0, 1]⟩, ⟨5, [1]⟩, ⟨2, [0, 5]⟩] : List NodeE).take k
theorem lj1 : ([] : List NodeE) ++ [⟨1, [0]⟩] = lj 1 := rfl
theorem lj2 : lj 1 ++ [⟨1, [1]⟩] = lj 2 := rfl
theorem lj3v : addV (lj 2) 2 [0, 1] = 2 := by decide +kernel
theorem lj3 : addN (lj 2) 2 [0, 1] = lj 3 := by rfl
theorem lj4v : addV (lj 3) 3 [0, 1] = 3 := by decide +kernel
theorem lj4 : addN (lj 3) 3 [0, 1] = lj 4 := by rfl
theorem lj5v : addV (lj 4) 4 [0, 1] = 4 := by decide +kernel
theorem lj5 : addN (lj 4) 4 [0, 1] = lj 5 := by rfl
theorem lj6v : addV (lj 5) 5 [1] = 5 := by decide +kernel
theorem lj6 : addN (lj 5) 5 [1] = lj 6 := by rfl
theorem lj7v : addV (lj 6) 2 [0, 5] = 6 := by decide +kernel
theorem lj7 : addN (lj 6) 2 [0, 5] = lj 7 := by rfl
theorem lj1_len : (lj 1).length = 1 := rfl
theorem lj7_len : (lj 7).length = 7 := rfl
theorem lj7_ok : ArOk (lj 7) 2 := by
  have h := ((ArOk.nil 0).addset (by decide)).addset (by decide)
  have h2 := h.addop (k := 2) (kids := [0, 1]) (by decide) (by decide)
  have h3 := h2.addop (k := 3) (kids := [0, 1]) (by decide) (by decide)
  have h4 := h3.addop (k := 4) (kids := [0, 1]) (by decide) (by decide)
  have h5 := h4.addop (k := 5) (kids := [1]) (by decide) (fun _ => rfl)
  have h6 := h5.addop (k := 2) (kids := [0, 5]) (by decide) (by decide)
  exact h6
/-- The j-th of the four: both, either, just one, the first alone. -/
def jc (S1 S2 : List Nat) (j k : Nat) : Bool := match j with
  | 0 => memS S1 (k : Int) && memS S2 (k : Int)
  | 1 => memS S1 (k : Int) || memS S2 (k : Int)
  | 2 => memS S1 (k : Int) != memS S2 (k : Int)
  | _ => memS S1 (k : Int) && !memS S2 (k : Int)
def jn (j : Nat) : Nat := if j = 3 then 6 else j + 2
theorem lj_tells (f : Nat → Bool) : (tellsE f (lj 7)).getD 2 false = (f 0 && f 1) ∧ (tellsE f (lj 7)).getD 3 false = (f 0 || f 1) ∧ (tellsE f (lj 7)).getD 4 false = (f 0 != f 1) ∧ (tellsE f (lj 7)).getD 6 false = (f 0 && !f 1) := by
  simp [tellsE, tellE, lj, joinB]
theorem lj_tel (S1 S2 : List Nat) {j k : Nat} (hj : j < 4) (hk : k < 16777216) : tel (lj 7) (ss2 S1 S2) (jn j : Nat) k = jc S1 S2 j k := by
  have h : ∀ n : Nat, n < 7 → tel (lj 7) (ss2 S1 S2) (n : Nat) k = (tellsE (fun s => memS (ss2 S1 S2 s) (k : Int)) (lj 7)).getD n false := fun n hn => by
    unfold tel exTell
    rw [lj7_len, decide_eq_true ⟨by omega, by omega, by omega, by omega⟩, Bool.true_and, Int.toNat_natCast]
  obtain ⟨h0, h1, h2, h3⟩ := lj_tells (fun s => memS (ss2 S1 S2 s) (k : Int))
  rw [h _ (by unfold jn; split <;> omega)]
  rcases (show j = 0 ∨ j = 1 ∨ j = 2 ∨ j = 3 by omega) with rfl | rfl | rfl | rfl
  · exact h0
  · exact h1
  · exact h2
  · exact h3
/-- What is wanted of the j-th, of the first i of all. -/
def jw (S1 S2 S3 : List Nat) (f : Int) (j i : Nat) : List Nat := (S3.take i).filter fun k => decide (f ≤ (k : Int)) && jc S1 S2 j k
theorem jw_zero (S1 S2 S3 : List Nat) (f : Int) (j : Nat) : jw S1 S2 S3 f j 0 = [] := rfl
theorem jw_step {S1 S2 S3 : List Nat} {f : Int} {j i k : Nat} (h : S3[i]? = some k) : jw S1 S2 S3 f j (i + 1) = jw S1 S2 S3 f j i ++ if f ≤ (k : Int) ∧ jc S1 S2 j k = true then [k] else [] := by
  unfold jw
  rw [List.take_add_one, h, List.filter_append]
  congr 1
  by_cases h1 : f ≤ (k : Int) <;> cases h2 : jc S1 S2 j k <;> simp [h1, h2]
theorem jw_len (S1 S2 S3 : List Nat) (f : Int) (j i : Nat) : (jw S1 S2 S3 f j i).length ≤ S3.length := by
  unfold jw
  refine Nat.le_trans (List.length_filter_le _ _) ?_
  rw [List.length_take]
  omega
theorem jc_none {S1 S2 : List Nat} {j k : Nat} (h1 : k ∉ S1) (h2 : k ∉ S2) : jc S1 S2 j k = false := by
  have e1 : memS S1 (k : Int) = false := by
    cases h : memS S1 (k : Int) with
    | false => rfl
    | true => exact absurd (memS_nat.1 h) h1
  have e2 : memS S2 (k : Int) = false := by
    cases h : memS S2 (k : Int) with
    | false => rfl
    | true => exact absurd (memS_nat.1 h) h2
  unfold jc
  rw [e1, e2]
  match j with
  | 0 => rfl
  | 1 => rfl
  | 2 => rfl
  | _ + 3 => rfl
theorem jw_all {S1 S2 S3 : List Nat} {f : Int} {j n : Nat} (hj : j < 4) (hS : S3.Pairwise (· < ·)) (hlt : ∀ k ∈ S3, k < 16777216) (h1 : ∀ k ∈ S1, k ∈ S3) (h2 : ∀ k ∈ S2, k ∈ S3) (hn : S3.length = n) (h1000 : n ≤ 1000) :
    lst (tel (lj 7) (ss2 S1 S2) (jn j : Nat)) f.toNat 16777216 (min (1000 : Int) 100000).toNat = jw S1 S2 S3 f j n := by
  have h : jw S1 S2 S3 f j n = sel (tel (lj 7) (ss2 S1 S2) (jn j : Nat)) f.toNat 16777216 := by
    unfold jw
    rw [List.take_of_length_le (by omega)]
    refine sel_eq (List.Pairwise.filter _ hS) fun k => ?_
    rw [List.mem_filter]
    constructor
    · rintro ⟨h3, h4⟩
      have h5 := hlt k h3
      rw [Bool.and_eq_true, decide_eq_true_eq] at h4
      exact ⟨by omega, h5, by rw [lj_tel S1 S2 hj h5]; exact h4.2⟩
    · rintro ⟨h3, h4, h5⟩
      rw [lj_tel S1 S2 hj h4] at h5
      refine ⟨Classical.byContradiction fun h6 => ?_, by rw [h5, decide_eq_true (by omega)]; rfl⟩
      rw [jc_none (fun h => h6 (h1 k h)) (fun h => h6 (h2 k h))] at h5
      cases h5
  unfold lst
  rw [← h]
  refine List.take_of_length_le (Nat.le_trans (jw_len _ _ _ _ _ _) ?_)
  rw [hn]
  exact Nat.le_trans h1000 (by decide)
theorem intv_two (S1 S2 : List Nat) : [] ++ intv S1 ++ intv S2 = (natI S1 ++ natI S2).map (Value.int .i64) := by
  unfold intv natI
  rw [List.nil_append, List.map_append, List.map_map, List.map_map]
  rfl
theorem mem_two {S1 S2 : List Nat} (h1 : ∀ k ∈ S1, k < 16777216) (h2 : ∀ k ∈ S2, k < 16777216) {k : Nat} : k ∈ setS (natI S1 ++ natI S2) ↔ k ∈ S1 ∨ k ∈ S2 := by
  rw [mem_setS, List.mem_append]
  unfold natI
  constructor
  · rintro ⟨h | h, _⟩
    · obtain ⟨j, hj, e⟩ := List.mem_map.1 h
      have : j = k := by have : ((j : Nat) : Int) = k := e; omega
      exact .inl (this ▸ hj)
    · obtain ⟨j, hj, e⟩ := List.mem_map.1 h
      have : j = k := by have : ((j : Nat) : Int) = k := e; omega
      exact .inr (this ▸ hj)
  · rintro (h | h)
    · exact ⟨.inl (List.mem_map.2 ⟨k, h, rfl⟩), h1 k h⟩
    · exact ⟨.inr (List.mem_map.2 ⟨k, h, rfl⟩), h2 k h⟩
def wantZ : Value := .agg #[.slice none 0 0, .slice none 0 0, .slice none 0 0, .slice none 0 0]
theorem intv_ints (S : List Nat) : ints (natI S) = intv S := by
  unfold intv ints natI
  rw [List.map_map]
  rfl
/-- One of the four wanted rows. -/
structure WQ where
  A : Option Addr
  n : Nat
  c : Nat
  q : List Nat
def wqV (x : WQ) : Value := .slice x.A x.n x.c
def wqA (x : WQ) : As := YtpnjoeiohigjmaaDoor.own x.A x.n x.c 3 1 (intv x.q)
abbrev Want (gw : Nat) (x y z u : WQ) (R : List As) : List As := YtpnjoeiohigjmaaDoor.blk gw #[wqV x, wqV y, wqV z, wqV u] 42 :: wqA x :: wqA y :: wqA z :: wqA u :: R
def wi (j m i : Nat) : Nat := if m < j then i + 1 else i
structure QOk (S1 S2 S3 : List Nat) (f : Int) (j i : Nat) (x y z u : WQ) : Prop where
  a : x.q = jw S1 S2 S3 f 0 (wi j 0 i) ∧ x.q.length = x.n
  b : y.q = jw S1 S2 S3 f 1 (wi j 1 i) ∧ y.q.length = y.n
  c : z.q = jw S1 S2 S3 f 2 (wi j 2 i) ∧ z.q.length = z.n
  d : u.q = jw S1 S2 S3 f 3 (wi j 3 i) ∧ u.q.length = u.n
theorem QOk.start {S1 S2 S3 : List Nat} {f : Int} : QOk S1 S2 S3 f 0 0 ⟨none, 0, 0, []⟩ ⟨none, 0, 0, []⟩ ⟨none, 0, 0, []⟩ ⟨none, 0, 0, []⟩ :=
  ⟨⟨rfl, rfl⟩, ⟨rfl, rfl⟩, ⟨rfl, rfl⟩, ⟨rfl, rfl⟩⟩
theorem QOk.next {S1 S2 S3 : List Nat} {f : Int} {i : Nat} {x y z u : WQ} (h : QOk S1 S2 S3 f 4 i x y z u) : QOk S1 S2 S3 f 0 (i + 1) x y z u := ⟨h.a, h.b, h.c, h.d⟩
/-- Nothing is put. -/
theorem QOk.skip {S1 S2 S3 : List Nat} {f : Int} {j i k : Nat} {x y z u : WQ} (h : QOk S1 S2 S3 f j i x y z u) (hj : j < 4) (hk : S3[i]? = some k) (hn : jc S1 S2 j k = false) : QOk S1 S2 S3 f (j + 1) i x y z u := by
  have e2 : ∀ m, jw S1 S2 S3 f m (wi (j + 1) m i) = jw S1 S2 S3 f m (wi j m i) := fun m => by
    by_cases hm : m = j
    · subst hm
      rw [show wi (m + 1) m i = i + 1 by unfold wi; rw [if_pos (Nat.lt_succ_self m)], show wi m m i = i by unfold wi; rw [if_neg (Nat.lt_irrefl m)], jw_step hk, if_neg (by rw [hn]; simp), List.append_nil]
    · have : wi (j + 1) m i = wi j m i := by
        unfold wi
        by_cases h1 : m < j
        · rw [if_pos h1, if_pos (by omega)]
        · rw [if_neg h1, if_neg (by omega)]
      rw [this]
  exact ⟨by rw [e2]; exact h.a, by rw [e2]; exact h.b, by rw [e2]; exact h.c, by rw [e2]; exact h.d⟩
theorem QOk.skips {S1 S2 S3 : List Nat} {f : Int} {i k : Nat} {x y z u : WQ} (h : QOk S1 S2 S3 f 0 i x y z u) (hk : S3[i]? = some k) (hf : (k : Int) < f) : QOk S1 S2 S3 f 0 (i + 1) x y z u := by
  have e : ∀ m, jw S1 S2 S3 f m (i + 1) = jw S1 S2 S3 f m i := fun m => by
    rw [jw_step hk, if_neg (fun h => by omega), List.append_nil]
  refine ⟨?_, ?_, ?_, ?_⟩
  · show x.q = jw S1 S2 S3 f 0 (i + 1) ∧ _
    rw [e]; exact h.a
  · show y.q = jw S1 S2 S3 f 1 (i + 1) ∧ _
    rw [e]; exact h.b
  · show z.q = jw S1 S2 S3 f 2 (i + 1) ∧ _
    rw [e]; exact h.c
  · show u.q = jw S1 S2 S3 f 3 (i + 1) ∧ _
    rw [e]; exact h.d
theorem jw_put {S1 S2 S3 : List Nat} {f : Int} {j i k n : Nat} {q : List Nat} (h : q = jw S1 S2 S3 f j i ∧ q.length = n) (hk : S3[i]? = some k) (hf : f ≤ (k : Int)) (hc : jc S1 S2 j k = true) : q ++ [k] = jw S1 S2 S3 f j (i + 1) ∧ (q ++ [k]).length = n + 1 := by
  rw [jw_step hk, if_pos ⟨hf, hc⟩, ← h.1, List.length_append, h.2]
  exact ⟨rfl, rfl⟩
section
variable {S1 S2 S3 : List Nat} {f : Int} {i k c : Nat} {A : Option Addr} {x y z u : WQ}
theorem QOk.put0 (h : QOk S1 S2 S3 f 0 i x y z u) (hk : S3[i]? = some k) (hf : f ≤ (k : Int)) (hc : jc S1 S2 0 k = true) : QOk S1 S2 S3 f 1 i ⟨A, x.n + 1, c, x.q ++ [k]⟩ y z u := ⟨jw_put h.a hk hf hc, h.b, h.c, h.d⟩
theorem QOk.put1 (h : QOk S1 S2 S3 f 1 i x y z u) (hk : S3[i]? = some k) (hf : f ≤ (k : Int)) (hc : jc S1 S2 1 k = true) : QOk S1 S2 S3 f 2 i x ⟨A, y.n + 1, c, y.q ++ [k]⟩ z u := ⟨h.a, jw_put h.b hk hf hc, h.c, h.d⟩
theorem QOk.put2 (h : QOk S1 S2 S3 f 2 i x y z u) (hk : S3[i]? = some k) (hf : f ≤ (k : Int)) (hc : jc S1 S2 2 k = true) : QOk S1 S2 S3 f 3 i x y ⟨A, z.n + 1, c, z.q ++ [k]⟩ u := ⟨h.a, h.b, jw_put h.c hk hf hc, h.d⟩
theorem QOk.put3 (h : QOk S1 S2 S3 f 3 i x y z u) (hk : S3[i]? = some k) (hf : f ≤ (k : Int)) (hc : jc S1 S2 3 k = true) : QOk S1 S2 S3 f 4 i x y z ⟨A, u.n + 1, c, u.q ++ [k]⟩ := ⟨h.a, h.b, h.c, jw_put h.d hk hf hc⟩
theorem QOk.le (h : QOk S1 S2 S3 f c i x y z u) : x.n ≤ S3.length ∧ y.n ≤ S3.length ∧ z.n ≤ S3.length ∧ u.n ≤ S3.length := by
  have := h.a; have := h.b; have := h.c; have := h.d
  have e := fun m j => jw_len S1 S2 S3 f m j
  refine ⟨?_, ?_, ?_, ?_⟩
  · have h1 := h.a.2; rw [h.a.1] at h1; have := e 0 (wi c 0 i); omega
  · have h1 := h.b.2; rw [h.b.1] at h1; have := e 1 (wi c 1 i); omega
  · have h1 := h.c.2; rw [h.c.1] at h1; have := e 2 (wi c 2 i); omega
  · have h1 := h.d.2; rw [h.d.1] at h1; have := e 3 (wi c 3 i); omega
end
theorem elemBo : ElemOk Tryd.prog 44 4 1 1 := ElemOk.of Tryd.underlying44 (z := .bool false) (by kernel_rfl) rfl (by decide)
theorem size_sli : (Tryd.prog.info? 29).map (·.size) = some 1 := by kernel_rfl
attribute [local irreducible] setS lj ss2 addV addN exTell nxt lst tel sel jw jc jn
set_option maxHeartbeats 4000000 in
theorem scjoins_c {w0 : World} (hT : Tab w0) {va vb : Value} {za zb : List Int} (hva : IntArg w0 va za) (hvb : IntArg w0 vb zb) (zf : Int) : Calls Tryd.prog 4 #[va, vb, .int .i64 zf] w0 (LawPost w0) := by
  obtain ⟨A0, na, ca, rfl, hlen, hnc, hcm, hra, hba⟩ := hva
  obtain ⟨B0, nb, cb, rfl, hlen2, hnc2, hcm2, hrb, hbb⟩ := hvb
  have HLz := Lib.hid hlen
  have HLb := Lib.hid hlen2
  unfold maxLen at hcm hcm2
  have HRa := Lib.hid hra
  have HRb := Lib.hid hrb
  have hs := St.start w0
  have HT := Lib.hid hT
  clear hba hbb hlen hlen2 hra hrb hT
  by_cases h40 : 40 < na ∨ 40 < nb
  · by_cases h1 : 40 < na
    · have d1 : decide (40 < (na : Int)) = true := decide_eq_true (by omega)
      clear h40 h1
      go_enter Tryd.func4, Tryd.ntmps4
      go_wp2_with (first
        | (go_at_call 17; refine (awake4 _ (HT.out.st hs)).mono ?_; rintro e w' ⟨rfl, hg⟩; replace hs := hs.grew hg; clear hg))
      go_ret
      exact ⟨rfl, hs⟩
    · have d1 : decide (40 < (na : Int)) = false := decide_eq_false (by omega)
      have d2 : decide (40 < (nb : Int)) = true := decide_eq_true (by omega)
      clear h40 h1
      go_enter Tryd.func4, Tryd.ntmps4
      go_wp2_with (first
        | (go_at_call 17; refine (awake4 _ (HT.out.st hs)).mono ?_; rintro e w' ⟨rfl, hg⟩; replace hs := hs.grew hg; clear hg))
      go_ret
      exact ⟨rfl, hs⟩
  · have d1 : decide (40 < (na : Int)) = false := decide_eq_false (by omega)
    have d2 : decide (40 < (nb : Int)) = false := decide_eq_false (by omega)
    have na40 : na ≤ 40 := by omega
    have nb40 : nb ≤ 40 := by omega
    clear h40
    obtain ⟨S1, HS1⟩ : ∃ S, Hid (setS za = S) := ⟨_, rfl⟩
    obtain ⟨S2, HS2⟩ : ∃ S, Hid (setS zb = S) := ⟨_, rfl⟩
    obtain ⟨S3, HS3⟩ : ∃ S, Hid (setS (natI S1 ++ natI S2) = S) := ⟨_, rfl⟩
    obtain ⟨n1, HN1⟩ : ∃ n, Hid (S1.length = n) := ⟨_, rfl⟩
    obtain ⟨n2, HN2⟩ : ∃ n, Hid (S2.length = n) := ⟨_, rfl⟩
    obtain ⟨n3, HN3⟩ : ∃ n, Hid (S3.length = n) := ⟨_, rfl⟩
    have hn1 : n1 ≤ 40 := by have := setS_len2 za; rw [HLz.out, HS1.out, HN1.out] at this; omega
    have hn2 : n2 ≤ 40 := by have := setS_len2 zb; rw [HLb.out, HS2.out, HN2.out] at this; omega
    have hn3 : n3 ≤ 80 := by have := setS_len2 (natI S1 ++ natI S2); rw [List.length_append, natI_len, natI_len, HN1.out, HN2.out, HS3.out, HN3.out] at this; omega
    have HL12 : Hid ((natI S1 ++ natI S2).length = n1 + n2) := by rw [Hid, List.length_append, natI_len, natI_len, HN1.out, HN2.out]
    go_enter Tryd.func4, Tryd.ntmps4
    go_upto_region 11 with (first
      | (go_at_call 10; refine (exnew_c hs).mono ?_; clear hs; rintro e w' ⟨D, rfl, hs⟩)
      | (go_at_call 19; refine (new_v hs (HRa.out.any _) HLz (by unfold maxLen; omega) HS1).mono ?_; clear hs; rintro e w' ⟨T1, rfl, hs⟩; replace hs := hs.rot)
      | (go_at_call 18; refine (exset_v (v := 0) (l' := lj 1) (ss' := [ptr T1]) hs _ (Lib.hid rfl) (Lib.hid lj1) (Lib.hid rfl) (by decide) (by decide)).mono ?_; clear hs; rintro e w' ⟨rfl, hs⟩)
      | (go_at_call 19; refine (new_v hs (HRb.out.any _) HLb (by unfold maxLen; omega) HS2).mono ?_; clear hs; rintro e w' ⟨T2, rfl, hs⟩; replace hs := hs.rot)
      | (go_at_call 18; refine (exset_v (v := 1) (l' := lj 2) (ss' := [ptr T1, ptr T2]) hs _ (Lib.hid (by rw [lj1_len]; rfl)) (Lib.hid lj2) (Lib.hid rfl) (by rw [lj1_len]; decide) (show 1 ≤ 1000000 by decide)).mono ?_; clear hs; rintro e w' ⟨rfl, hs⟩)
      | (refine wpl_buildN (vs := [.int .i64 0, .int .i64 1]) elem24 rfl rfl (by decide) (by decide) (by simp; exact ⟨rfl, rfl⟩) hs ?_; clear hs; intro g3 w3 hs; replace hs := hs.rot)
      | (refine wpl_buildN (vs := [.int .i64 0, .int .i64 5]) elem24 rfl rfl (by decide) (by decide) (by simp; exact ⟨rfl, rfl⟩) hs ?_; clear hs; intro g3 w3 hs; replace hs := hs.rot)
      | (go_at_call 11; refine (and_c (kids := [0, 1]) (A := some ⟨g3, 0, none⟩) (m := 2) hs (fun h => nomatch h) (Lib.hid rfl) (by decide) (RdS.blk.tail) (Lib.hid lj3v) (Lib.hid lj3)).mono ?_; clear hs; rintro e w' ⟨rfl, hs⟩; replace hs := hs.rot.drop)
      | (go_at_call 20; refine (or_c (kids := [0, 1]) (A := some ⟨g3, 0, none⟩) (m := 2) hs (fun h => nomatch h) (Lib.hid rfl) (by decide) (RdS.blk.tail) (Lib.hid lj4v) (Lib.hid lj4)).mono ?_; clear hs; rintro e w' ⟨rfl, hs⟩; replace hs := hs.rot.drop)
      | (go_at_call 21; refine (xor_c (kids := [0, 1]) (A := some ⟨g3, 0, none⟩) (m := 2) hs (fun h => nomatch h) (Lib.hid rfl) (by decide) (RdS.blk.tail) (Lib.hid lj5v) (Lib.hid lj5)).mono ?_; clear hs; rintro e w' ⟨rfl, hs⟩; replace hs := hs.rot.drop)
      | (go_at_call 22; refine (not_c hs 1 (Lib.hid lj6v) (Lib.hid lj6)).mono ?_; clear hs; rintro e w' ⟨rfl, hs⟩)
      | (go_at_call 11; refine (and_c (kids := [0, 5]) (A := some ⟨g3, 0, none⟩) (m := 2) hs (fun h => nomatch h) (Lib.hid rfl) (by decide) (RdS.blk.tail) (Lib.hid lj7v) (Lib.hid lj7)).mono ?_; clear hs; rintro e w' ⟨rfl, hs⟩; replace hs := hs.rot.drop)
      | (refine wpl_buildN (vs := [.int .i64 2, .int .i64 3, .int .i64 4, .int .i64 6]) elem24 rfl rfl (by decide) (by decide) (by simp; exact ⟨rfl, rfl, rfl, rfl⟩) hs ?_; clear hs; intro gl w3 hs; replace hs := hs.rot)
      | (go_at_call 23; refine (rset_c hs (HRa.out.any _) HLz.out (by omega) HS1).mono ?_; clear hs; rintro e w' ⟨U, cu, rfl, hs⟩; rw [HN1.out] at hs ⊢; replace hs := hs.rot)
      | (go_at_call 23; refine (rset_c hs (HRb.out.any _) HLb.out (by omega) HS2).mono ?_; clear hs; rintro e w' ⟨V, cv, rfl, hs⟩; rw [HN2.out] at hs ⊢; replace hs := hs.rot)
      | (refine wpl_alloc (z := wantZ) (by kernel_rfl) hs ?_; clear hs; intro gw w4 hs; replace hs := hs.rot)
      | (refine wpl_build_none elem24 hs ?_; clear hs; intro A1 w5 hs)
      | (refine wpl_append (A := A1) (B := U) (n := 0) (m := n1) (news := intv S1) elem24 rfl rfl hs (Ent.refl _) (RdS.own hs.drop.drop.drop.drop).tail.tail.tail.tail (by rw [intv_len, HN1.out, Nat.mul_one]) (intv_one S1) (by unfold maxLen; omega) (by omega) ?_; clear hs; intro A2 ca2 w6 hs; rw [Nat.zero_add] at hs ⊢)
      | (refine wpl_append (A := A2) (B := V) (n := n1) (m := n2) (news := intv S2) elem24 rfl rfl hs (Ent.refl _) (RdS.own hs.drop.drop.drop).tail.tail.tail (by rw [intv_len, HN2.out, Nat.mul_one]) (intv_one S2) (by unfold maxLen; omega) (by omega) ?_; clear hs; intro A3 ca3 w7 hs; rw [intv_two] at hs)
      | (go_at_call 23; refine (rset_c hs (RdS.own hs) HL12.out (by omega) HS3).mono ?_; clear hs; rintro e w' ⟨Y, cy, rfl, hs⟩; rw [HN3.out] at hs ⊢; replace hs := hs.rot.drop))
    replace hs := ((((hs.up2.own_nil 3 1).own_nil 3 1).own_nil 3 1).own_nil 3 1).up4
    replace hs : St w0 (Want gw ⟨none, 0, 0, []⟩ ⟨none, 0, 0, []⟩ ⟨none, 0, 0, []⟩ ⟨none, 0, 0, []⟩ [own Y n3 cy 3 1 (intv S3), ExB D (lj 7) [ptr T1, ptr T2], own V n2 cv 3 1 (intv S2), own U n1 cu 3 1 (intv S1), YtpnjoeiohigjmaaDoor.blk gl #[.int .i64 2, .int .i64 3, .int .i64 4, .int .i64 6] 3, HSet T2 S2, HSet T1 S1]) _ := hs
    go_wp2
    go_loopw [15] (fun iv wr => ∃ (i : Nat) (x y z u : WQ), iv = .int .i64 (i : Nat) ∧ i ≤ n3 ∧ Hid (QOk S1 S2 S3 zf 0 i x y z u) ∧ St w0 (Want gw x y z u [own Y n3 cy 3 1 (intv S3), ExB D (lj 7) [ptr T1, ptr T2], own V n2 cv 3 1 (intv S2), own U n1 cu 3 1 (intv S1), YtpnjoeiohigjmaaDoor.blk gl #[.int .i64 2, .int .i64 3, .int .i64 4, .int .i64 6] 3, HSet T2 S2, HSet T1 S1]) wr) (fun iv _ => n3 - (intOf iv).toNat)
    case atStart => exact ⟨0, _, _, _, _, rfl, Nat.zero_le _, QOk.start, hs⟩
    case round =>
      clear hs
      obtain ⟨i, x, y, z, u, rfl, hi, HQ, hs⟩ := hrel
      by_cases hlt : i < n3
      · obtain ⟨k, hk⟩ : ∃ k, S3[i]? = some k := ⟨_, List.getElem?_eq_getElem (by rw [HN3.out]; exact hlt)⟩
        have HKI := Lib.hid hk
        have hk24 : k < 16777216 := by have := List.mem_of_getElem? hk; rw [← HS3.out] at this; exact setS_lt _ k this
        have hsY := hs.drop.drop.drop.drop.drop
        obtain ⟨by_, rfl⟩ := hsY.own_at (by omega)
        have r1 := Rd.own (w0 := w0) (g := by_) (n := n3) (cap := cy) (e := 3) (size := 1) (L := [ExB D (lj 7) [ptr T1, ptr T2], own V n2 cv 3 1 (intv S2), own U n1 cu 3 1 (intv S1), YtpnjoeiohigjmaaDoor.blk gl #[.int .i64 2, .int .i64 3, .int .i64 4, .int .i64 6] 3, HSet T2 S2, HSet T1 S1]) (intv_get hk) _ hsY
        clear hk hsY
        by_cases hf : (k : Int) < zf
        · have HQ2 := Lib.hid (HQ.out.skips HKI.out hf)
          clear HQ
          go_wp2
          go_roundw
          case rel => exact ⟨i + 1, x, y, z, u, by go_num, by omega, HQ2, hs⟩
          case measure => simp [intOf] <;> omega
        · have HFK : Hid (zf ≤ (k : Int)) := by rw [Hid]; omega
          obtain ⟨b1, HB1⟩ : ∃ b, Hid (memS S1 (k : Int) = b) := ⟨_, rfl⟩
          obtain ⟨b2, HB2⟩ : ∃ b, Hid (memS S2 (k : Int) = b) := ⟨_, rfl⟩
          go_upto_region 17 with (first
            | (go_at_call 24; refine (rin_c (by rw [← HS1.out]; exact setS_sorted za) HN1.out (by omega) hs (RdS.own hs.drop.drop.drop.drop.drop.drop.drop.drop).tail.tail.tail.tail.tail.tail.tail.tail HB1).mono ?_; rintro e w' ⟨rfl, hg⟩; replace hs := hs.grew hg; clear hg)
            | (go_at_call 24; refine (rin_c (by rw [← HS2.out]; exact setS_sorted zb) HN2.out (by omega) hs (RdS.own hs.drop.drop.drop.drop.drop.drop.drop).tail.tail.tail.tail.tail.tail.tail HB2).mono ?_; rintro e w' ⟨rfl, hg⟩; replace hs := hs.grew hg; clear hg))
          cases b1 <;> cases b2
          · skip
            have HJ0 : Hid (jc S1 S2 0 k = false) := by rw [Hid]; unfold jc; rw [HB1.out, HB2.out]; rfl
            have HJ1 : Hid (jc S1 S2 1 k = false) := by rw [Hid]; unfold jc; rw [HB1.out, HB2.out]; rfl
            have HJ2 : Hid (jc S1 S2 2 k = false) := by rw [Hid]; unfold jc; rw [HB1.out, HB2.out]; rfl
            have HJ3 : Hid (jc S1 S2 3 k = false) := by rw [Hid]; unfold jc; rw [HB1.out, HB2.out]; rfl
            clear r1 hf
            go_wp2
            have hs2 := hs.alloc #[.bool false, .bool false, .bool false, .bool false] 4
            generalize w'.heap.size = gb at hs2 ⊢
            refine wp_gen hs2 ?_
            clear hs2 hs
            intro w8 hs
            go_loopw [112] (fun jv wr => ∃ (j : Nat) (x y z u : WQ), jv = .int .i64 (j : Nat) ∧ j ≤ 4 ∧ Hid (QOk S1 S2 S3 zf j i x y z u) ∧ St w0 (YtpnjoeiohigjmaaDoor.blk gb #[.bool false, .bool false, .bool false, .bool false] 4 :: Want gw x y z u [own (some ⟨by_, 0, none⟩) n3 cy 3 1 (intv S3), ExB D (lj 7) [ptr T1, ptr T2], own V n2 cv 3 1 (intv S2), own U n1 cu 3 1 (intv S1), YtpnjoeiohigjmaaDoor.blk gl #[.int .i64 2, .int .i64 3, .int .i64 4, .int .i64 6] 3, HSet T2 S2, HSet T1 S1]) wr) (fun jv _ => 4 - (intOf jv).toNat)
            case atStart => exact ⟨0, x, y, z, u, rfl, by decide, HQ, hs⟩
            case round =>
              clear hs HQ x y z u
              obtain ⟨j, x, y, z, u, rfl, hj, HQ, hs⟩ := hrel
              have hle := HQ.out.le
              rw [HN3.out] at hle
              have rb := fun j v hv => Rd.blk (w0 := w0) (g := gb) (k := j) (cs := #[.bool false, .bool false, .bool false, .bool false]) (t := 4) (v := v) (L := Want gw x y z u [own (some ⟨by_, 0, none⟩) n3 cy 3 1 (intv S3), ExB D (lj 7) [ptr T1, ptr T2], own V n2 cv 3 1 (intv S2), own U n1 cu 3 1 (intv S1), YtpnjoeiohigjmaaDoor.blk gl #[.int .i64 2, .int .i64 3, .int .i64 4, .int .i64 6] 3, HSet T2 S2, HSet T1 S1]) hv _ hs
              rcases (show j = 0 ∨ j = 1 ∨ j = 2 ∨ j = 3 ∨ j = 4 by omega) with rfl | rfl | rfl | rfl | rfl
              · replace rb := rb 0 (.bool false) rfl
                go_wp2
                go_roundw
                case rel => exact ⟨0 + 1, x, y, z, u, by first | rfl | go_num, by decide, Lib.hid (HQ.out.skip (by decide) HKI.out HJ0.out), hs⟩
                case measure => simp [intOf] <;> omega
              · replace rb := rb 1 (.bool false) rfl
                go_wp2
                go_roundw
                case rel => exact ⟨1 + 1, x, y, z, u, by first | rfl | go_num, by decide, Lib.hid (HQ.out.skip (by decide) HKI.out HJ1.out), hs⟩
                case measure => simp [intOf] <;> omega
              · replace rb := rb 2 (.bool false) rfl
                go_wp2
                go_roundw
                case rel => exact ⟨2 + 1, x, y, z, u, by first | rfl | go_num, by decide, Lib.hid (HQ.out.skip (by decide) HKI.out HJ2.out), hs⟩
                case measure => simp [intOf] <;> omega
              · replace rb := rb 3 (.bool false) rfl
                go_wp2
                go_roundw
                case rel => exact ⟨3 + 1, x, y, z, u, by first | rfl | go_num, by decide, Lib.hid (HQ.out.skip (by decide) HKI.out HJ3.out), hs⟩
                case measure => simp [intOf] <;> omega
              · clear rb
                go_wp2
                go_roundw
                case rel => exact ⟨i + 1, x, y, z, u, by go_num, by omega, Lib.hid HQ.out.next, hs.drop⟩
                case measure => simp [intOf] <;> omega
          · skip
            have HJ0 : Hid (jc S1 S2 0 k = false) := by rw [Hid]; unfold jc; rw [HB1.out, HB2.out]; rfl
            have HJ1 : Hid (jc S1 S2 1 k = true) := by rw [Hid]; unfold jc; rw [HB1.out, HB2.out]; rfl
            have HJ2 : Hid (jc S1 S2 2 k = true) := by rw [Hid]; unfold jc; rw [HB1.out, HB2.out]; rfl
            have HJ3 : Hid (jc S1 S2 3 k = false) := by rw [Hid]; unfold jc; rw [HB1.out, HB2.out]; rfl
            clear r1 hf
            go_wp2
            have hs2 := hs.alloc #[.bool false, .bool true, .bool true, .bool false] 4
            generalize w'.heap.size = gb at hs2 ⊢
            refine wp_gen hs2 ?_
            clear hs2 hs
            intro w8 hs
            go_loopw [112] (fun jv wr => ∃ (j : Nat) (x y z u : WQ), jv = .int .i64 (j : Nat) ∧ j ≤ 4 ∧ Hid (QOk S1 S2 S3 zf j i x y z u) ∧ St w0 (YtpnjoeiohigjmaaDoor.blk gb #[.bool false, .bool true, .bool true, .bool false] 4 :: Want gw x y z u [own (some ⟨by_, 0, none⟩) n3 cy 3 1 (intv S3), ExB D (lj 7) [ptr T1, ptr T2], own V n2 cv 3 1 (intv S2), own U n1 cu 3 1 (intv S1), YtpnjoeiohigjmaaDoor.blk gl #[.int .i64 2, .int .i64 3, .int .i64 4, .int .i64 6] 3, HSet T2 S2, HSet T1 S1]) wr) (fun jv _ => 4 - (intOf jv).toNat)
            case atStart => exact ⟨0, x, y, z, u, rfl, by decide, HQ, hs⟩
            case round =>
              clear hs HQ x y z u
              obtain ⟨j, x, y, z, u, rfl, hj, HQ, hs⟩ := hrel
              have hle := HQ.out.le
              rw [HN3.out] at hle
              have rb := fun j v hv => Rd.blk (w0 := w0) (g := gb) (k := j) (cs := #[.bool false, .bool true, .bool true, .bool false]) (t := 4) (v := v) (L := Want gw x y z u [own (some ⟨by_, 0, none⟩) n3 cy 3 1 (intv S3), ExB D (lj 7) [ptr T1, ptr T2], own V n2 cv 3 1 (intv S2), own U n1 cu 3 1 (intv S1), YtpnjoeiohigjmaaDoor.blk gl #[.int .i64 2, .int .i64 3, .int .i64 4, .int .i64 6] 3, HSet T2 S2, HSet T1 S1]) hv _ hs
              rcases (show j = 0 ∨ j = 1 ∨ j = 2 ∨ j = 3 ∨ j = 4 by omega) with rfl | rfl | rfl | rfl | rfl
              · replace rb := rb 0 (.bool false) rfl
                go_wp2
                go_roundw
                case rel => exact ⟨0 + 1, x, y, z, u, by first | rfl | go_num, by decide, Lib.hid (HQ.out.skip (by decide) HKI.out HJ0.out), hs⟩
                case measure => simp [intOf] <;> omega
              · replace rb := rb 1 (.bool true) rfl
                have HQ2 : Hid (∀ (A : Option Addr) (c : Nat), QOk S1 S2 S3 zf (1 + 1) i x ⟨A, y.n + 1, c, y.q ++ [k]⟩ z u) := fun A c => HQ.out.put1 HKI.out HFK.out HJ1.out
                have r2 := Rd.blk (w0 := w0) (k := 1) (v := wqV y) rfl _ hs.drop
                obtain ⟨wA, wn, wc, wq⟩ := y
                simp only [wqV] at r2 hle
                go_wp2_with (first
                  | (refine wpl_build1 (v := .int .i64 (k : Nat)) elem24 (by decide) rfl rfl hs ?_; clear hs; intro gk w8 hs)
                  | (refine wpl_append (A := wA) (B := some ⟨gk, 0, none⟩) (n := wn) (m := 1) (news := [.int .i64 (k : Nat)]) elem24 rfl rfl hs (Ent.skip (Ent.skip (Ent.skip (Ent.skip (Ent.refl _))))) RdS.blk rfl (ints_one (k : Int)) (by unfold maxLen; omega) (by omega) ?_; clear hs r2; intro A9 c9 w9 hs; rw [intv_append] at hs; replace hs := hs.rot.drop)
                  | (refine wpl_store (v := .slice A9 (wn + 1) c9) rfl rfl rfl size_sli hs (Wr.blk (show 1 < 4 by decide)).tail.tail ?_; clear hs; intro w10 hs))
                replace hs := hs.rot.ent (Ent.cons _ (Ent.push _ [_, _] _))
                go_roundw
                case rel => exact ⟨1 + 1, _, _, _, _, by first | rfl | go_num, by decide, Lib.hid (HQ2.out A9 c9), hs⟩
                case measure => simp [intOf] <;> omega
              · replace rb := rb 2 (.bool true) rfl
                have HQ2 : Hid (∀ (A : Option Addr) (c : Nat), QOk S1 S2 S3 zf (2 + 1) i x y ⟨A, z.n + 1, c, z.q ++ [k]⟩ u) := fun A c => HQ.out.put2 HKI.out HFK.out HJ2.out
                have r2 := Rd.blk (w0 := w0) (k := 2) (v := wqV z) rfl _ hs.drop
                obtain ⟨wA, wn, wc, wq⟩ := z
                simp only [wqV] at r2 hle
                go_wp2_with (first
                  | (refine wpl_build1 (v := .int .i64 (k : Nat)) elem24 (by decide) rfl rfl hs ?_; clear hs; intro gk w8 hs)
                  | (refine wpl_append (A := wA) (B := some ⟨gk, 0, none⟩) (n := wn) (m := 1) (news := [.int .i64 (k : Nat)]) elem24 rfl rfl hs (Ent.skip (Ent.skip (Ent.skip (Ent.skip (Ent.skip (Ent.refl _)))))) RdS.blk rfl (ints_one (k : Int)) (by unfold maxLen; omega) (by omega) ?_; clear hs r2; intro A9 c9 w9 hs; rw [intv_append] at hs; replace hs := hs.rot.drop)
                  | (refine wpl_store (v := .slice A9 (wn + 1) c9) rfl rfl rfl size_sli hs (Wr.blk (show 2 < 4 by decide)).tail.tail ?_; clear hs; intro w10 hs))
                replace hs := hs.rot.ent (Ent.cons _ (Ent.push _ [_, _, _] _))
                go_roundw
                case rel => exact ⟨2 + 1, _, _, _, _, by first | rfl | go_num, by decide, Lib.hid (HQ2.out A9 c9), hs⟩
                case measure => simp [intOf] <;> omega
              · replace rb := rb 3 (.bool false) rfl
                go_wp2
                go_roundw
                case rel => exact ⟨3 + 1, x, y, z, u, by first | rfl | go_num, by decide, Lib.hid (HQ.out.skip (by decide) HKI.out HJ3.out), hs⟩
                case measure => simp [intOf] <;> omega
              · clear rb
                go_wp2
                go_roundw
                case rel => exact ⟨i + 1, x, y, z, u, by go_num, by omega, Lib.hid HQ.out.next, hs.drop⟩
                case measure => simp [intOf] <;> omega
          · skip
            have HJ0 : Hid (jc S1 S2 0 k = false) := by rw [Hid]; unfold jc; rw [HB1.out, HB2.out]; rfl
            have HJ1 : Hid (jc S1 S2 1 k = true) := by rw [Hid]; unfold jc; rw [HB1.out, HB2.out]; rfl
            have HJ2 : Hid (jc S1 S2 2 k = true) := by rw [Hid]; unfold jc; rw [HB1.out, HB2.out]; rfl
            have HJ3 : Hid (jc S1 S2 3 k = true) := by rw [Hid]; unfold jc; rw [HB1.out, HB2.out]; rfl
            clear r1 hf
            go_wp2
            have hs2 := hs.alloc #[.bool false, .bool true, .bool true, .bool true] 4
            generalize w'.heap.size = gb at hs2 ⊢
            refine wp_gen hs2 ?_
            clear hs2 hs
            intro w8 hs
            go_loopw [112] (fun jv wr => ∃ (j : Nat) (x y z u : WQ), jv = .int .i64 (j : Nat) ∧ j ≤ 4 ∧ Hid (QOk S1 S2 S3 zf j i x y z u) ∧ St w0 (YtpnjoeiohigjmaaDoor.blk gb #[.bool false, .bool true, .bool true, .bool true] 4 :: Want gw x y z u [own (some ⟨by_, 0, none⟩) n3 cy 3 1 (intv S3), ExB D (lj 7) [ptr T1, ptr T2], own V n2 cv 3 1 (intv S2), own U n1 cu 3 1 (intv S1), YtpnjoeiohigjmaaDoor.blk gl #[.int .i64 2, .int .i64 3, .int .i64 4, .int .i64 6] 3, HSet T2 S2, HSet T1 S1]) wr) (fun jv _ => 4 - (intOf jv).toNat)
            case atStart => exact ⟨0, x, y, z, u, rfl, by decide, HQ, hs⟩
            case round =>
              clear hs HQ x y z u
              obtain ⟨j, x, y, z, u, rfl, hj, HQ, hs⟩ := hrel
              have hle := HQ.out.le
              rw [HN3.out] at hle
              have rb := fun j v hv => Rd.blk (w0 := w0) (g := gb) (k := j) (cs := #[.bool false, .bool true, .bool true, .bool true]) (t := 4) (v := v) (L := Want gw x y z u [own (some ⟨by_, 0, none⟩) n3 cy 3 1 (intv S3), ExB D (lj 7) [ptr T1, ptr T2], own V n2 cv 3 1 (intv S2), own U n1 cu 3 1 (intv S1), YtpnjoeiohigjmaaDoor.blk gl #[.int .i64 2, .int .i64 3, .int .i64 4, .int .i64 6] 3, HSet T2 S2, HSet T1 S1]) hv _ hs
              rcases (show j = 0 ∨ j = 1 ∨ j = 2 ∨ j = 3 ∨ j = 4 by omega) with rfl | rfl | rfl | rfl | rfl
              · replace rb := rb 0 (.bool false) rfl
                go_wp2
                go_roundw
                case rel => exact ⟨0 + 1, x, y, z, u, by first | rfl | go_num, by decide, Lib.hid (HQ.out.skip (by decide) HKI.out HJ0.out), hs⟩
                case measure => simp [intOf] <;> omega
              · replace rb := rb 1 (.bool true) rfl
                have HQ2 : Hid (∀ (A : Option Addr) (c : Nat), QOk S1 S2 S3 zf (1 + 1) i x ⟨A, y.n + 1, c, y.q ++ [k]⟩ z u) := fun A c => HQ.out.put1 HKI.out HFK.out HJ1.out
                have r2 := Rd.blk (w0 := w0) (k := 1) (v := wqV y) rfl _ hs.drop
                obtain ⟨wA, wn, wc, wq⟩ := y
                simp only [wqV] at r2 hle
                go_wp2_with (first
                  | (refine wpl_build1 (v := .int .i64 (k : Nat)) elem24 (by decide) rfl rfl hs ?_; clear hs; intro gk w8 hs)
                  | (refine wpl_append (A := wA) (B := some ⟨gk, 0, none⟩) (n := wn) (m := 1) (news := [.int .i64 (k : Nat)]) elem24 rfl rfl hs (Ent.skip (Ent.skip (Ent.skip (Ent.skip (Ent.refl _))))) RdS.blk rfl (ints_one (k : Int)) (by unfold maxLen; omega) (by omega) ?_; clear hs r2; intro A9 c9 w9 hs; rw [intv_append] at hs; replace hs := hs.rot.drop)
                  | (refine wpl_store (v := .slice A9 (wn + 1) c9) rfl rfl rfl size_sli hs (Wr.blk (show 1 < 4 by decide)).tail.tail ?_; clear hs; intro w10 hs))
                replace hs := hs.rot.ent (Ent.cons _ (Ent.push _ [_, _] _))
                go_roundw
                case rel => exact ⟨1 + 1, _, _, _, _, by first | rfl | go_num, by decide, Lib.hid (HQ2.out A9 c9), hs⟩
                case measure => simp [intOf] <;> omega
              · replace rb := rb 2 (.bool true) rfl
                have HQ2 : Hid (∀ (A : Option Addr) (c : Nat), QOk S1 S2 S3 zf (2 + 1) i x y ⟨A, z.n + 1, c, z.q ++ [k]⟩ u) := fun A c => HQ.out.put2 HKI.out HFK.out HJ2.out
                have r2 := Rd.blk (w0 := w0) (k := 2) (v := wqV z) rfl _ hs.drop
                obtain ⟨wA, wn, wc, wq⟩ := z
                simp only [wqV] at r2 hle
                go_wp2_with (first
                  | (refine wpl_build1 (v := .int .i64 (k : Nat)) elem24 (by decide) rfl rfl hs ?_; clear hs; intro gk w8 hs)
                  | (refine wpl_append (A := wA) (B := some ⟨gk, 0, none⟩) (n := wn) (m := 1) (news := [.int .i64 (k : Nat)]) elem24 rfl rfl hs (Ent.skip (Ent.skip (Ent.skip (Ent.skip (Ent.skip (Ent.refl _)))))) RdS.blk rfl (ints_one (k : Int)) (by unfold maxLen; omega) (by omega) ?_; clear hs r2; intro A9 c9 w9 hs; rw [intv_append] at hs; replace hs := hs.rot.drop)
                  | (refine wpl_store (v := .slice A9 (wn + 1) c9) rfl rfl rfl size_sli hs (Wr.blk (show 2 < 4 by decide)).tail.tail ?_; clear hs; intro w10 hs))
                replace hs := hs.rot.ent (Ent.cons _ (Ent.push _ [_, _, _] _))
                go_roundw
                case rel => exact ⟨2 + 1, _, _, _, _, by first | rfl | go_num, by decide, Lib.hid (HQ2.out A9 c9), hs⟩
                case measure => simp [intOf] <;> omega
              · replace rb := rb 3 (.bool true) rfl
                have HQ2 : Hid (∀ (A : Option Addr) (c : Nat), QOk S1 S2 S3 zf (3 + 1) i x y z ⟨A, u.n + 1, c, u.q ++ [k]⟩) := fun A c => HQ.out.put3 HKI.out HFK.out HJ3.out
                have r2 := Rd.blk (w0 := w0) (k := 3) (v := wqV u) rfl _ hs.drop
                obtain ⟨wA, wn, wc, wq⟩ := u
                simp only [wqV] at r2 hle
                go_wp2_with (first
                  | (refine wpl_build1 (v := .int .i64 (k : Nat)) elem24 (by decide) rfl rfl hs ?_; clear hs; intro gk w8 hs)
                  | (refine wpl_append (A := wA) (B := some ⟨gk, 0, none⟩) (n := wn) (m := 1) (news := [.int .i64 (k : Nat)]) elem24 rfl rfl hs (Ent.skip (Ent.skip (Ent.skip (Ent.skip (Ent.skip (Ent.skip (Ent.refl _))))))) RdS.blk rfl (ints_one (k : Int)) (by unfold maxLen; omega) (by omega) ?_; clear hs r2; intro A9 c9 w9 hs; rw [intv_append] at hs; replace hs := hs.rot.drop)
                  | (refine wpl_store (v := .slice A9 (wn + 1) c9) rfl rfl rfl size_sli hs (Wr.blk (show 3 < 4 by decide)).tail.tail ?_; clear hs; intro w10 hs))
                replace hs := hs.rot.ent (Ent.cons _ (Ent.push _ [_, _, _, _] _))
                go_roundw
                case rel => exact ⟨3 + 1, _, _, _, _, by first | rfl | go_num, by decide, Lib.hid (HQ2.out A9 c9), hs⟩
                case measure => simp [intOf] <;> omega
              · clear rb
                go_wp2
                go_roundw
                case rel => exact ⟨i + 1, x, y, z, u, by go_num, by omega, Lib.hid HQ.out.next, hs.drop⟩
                case measure => simp [intOf] <;> omega
          · skip
            have HJ0 : Hid (jc S1 S2 0 k = true) := by rw [Hid]; unfold jc; rw [HB1.out, HB2.out]; rfl
            have HJ1 : Hid (jc S1 S2 1 k = true) := by rw [Hid]; unfold jc; rw [HB1.out, HB2.out]; rfl
            have HJ2 : Hid (jc S1 S2 2 k = false) := by rw [Hid]; unfold jc; rw [HB1.out, HB2.out]; rfl
            have HJ3 : Hid (jc S1 S2 3 k = false) := by rw [Hid]; unfold jc; rw [HB1.out, HB2.out]; rfl
            clear r1 hf
            go_wp2
            have hs2 := hs.alloc #[.bool true, .bool true, .bool false, .bool false] 4
            generalize w'.heap.size = gb at hs2 ⊢
            refine wp_gen hs2 ?_
            clear hs2 hs
            intro w8 hs
            go_loopw [112] (fun jv wr => ∃ (j : Nat) (x y z u : WQ), jv = .int .i64 (j : Nat) ∧ j ≤ 4 ∧ Hid (QOk S1 S2 S3 zf j i x y z u) ∧ St w0 (YtpnjoeiohigjmaaDoor.blk gb #[.bool true, .bool true, .bool false, .bool false] 4 :: Want gw x y z u [own (some ⟨by_, 0, none⟩) n3 cy 3 1 (intv S3), ExB D (lj 7) [ptr T1, ptr T2], own V n2 cv 3 1 (intv S2), own U n1 cu 3 1 (intv S1), YtpnjoeiohigjmaaDoor.blk gl #[.int .i64 2, .int .i64 3, .int .i64 4, .int .i64 6] 3, HSet T2 S2, HSet T1 S1]) wr) (fun jv _ => 4 - (intOf jv).toNat)
            case atStart => exact ⟨0, x, y, z, u, rfl, by decide, HQ, hs⟩
            case round =>
              clear hs HQ x y z u
              obtain ⟨j, x, y, z, u, rfl, hj, HQ, hs⟩ := hrel
              have hle := HQ.out.le
              rw [HN3.out] at hle
              have rb := fun j v hv => Rd.blk (w0 := w0) (g := gb) (k := j) (cs := #[.bool true, .bool true, .bool false, .bool false]) (t := 4) (v := v) (L := Want gw x y z u [own (some ⟨by_, 0, none⟩) n3 cy 3 1 (intv S3), ExB D (lj 7) [ptr T1, ptr T2], own V n2 cv 3 1 (intv S2), own U n1 cu 3 1 (intv S1), YtpnjoeiohigjmaaDoor.blk gl #[.int .i64 2, .int .i64 3, .int .i64 4, .int .i64 6] 3, HSet T2 S2, HSet T1 S1]) hv _ hs
              rcases (show j = 0 ∨ j = 1 ∨ j = 2 ∨ j = 3 ∨ j = 4 by omega) with rfl | rfl | rfl | rfl | rfl
              · replace rb := rb 0 (.bool true) rfl
                have HQ2 : Hid (∀ (A : Option Addr) (c : Nat), QOk S1 S2 S3 zf (0 + 1) i ⟨A, x.n + 1, c, x.q ++ [k]⟩ y z u) := fun A c => HQ.out.put0 HKI.out HFK.out HJ0.out
                have r2 := Rd.blk (w0 := w0) (k := 0) (v := wqV x) rfl _ hs.drop
                obtain ⟨wA, wn, wc, wq⟩ := x
                simp only [wqV] at r2 hle
                go_wp2_with (first
                  | (refine wpl_build1 (v := .int .i64 (k : Nat)) elem24 (by decide) rfl rfl hs ?_; clear hs; intro gk w8 hs)
                  | (refine wpl_append (A := wA) (B := some ⟨gk, 0, none⟩) (n := wn) (m := 1) (news := [.int .i64 (k : Nat)]) elem24 rfl rfl hs (Ent.skip (Ent.skip (Ent.skip (Ent.refl _)))) RdS.blk rfl (ints_one (k : Int)) (by unfold maxLen; omega) (by omega) ?_; clear hs r2; intro A9 c9 w9 hs; rw [intv_append] at hs; replace hs := hs.rot.drop)
                  | (refine wpl_store (v := .slice A9 (wn + 1) c9) rfl rfl rfl size_sli hs (Wr.blk (show 0 < 4 by decide)).tail.tail ?_; clear hs; intro w10 hs))
                replace hs := hs.rot.ent (Ent.cons _ (Ent.push _ [_] _))
                go_roundw
                case rel => exact ⟨0 + 1, _, _, _, _, by first | rfl | go_num, by decide, Lib.hid (HQ2.out A9 c9), hs⟩
                case measure => simp [intOf] <;> omega
              · replace rb := rb 1 (.bool true) rfl
                have HQ2 : Hid (∀ (A : Option Addr) (c : Nat), QOk S1 S2 S3 zf (1 + 1) i x ⟨A, y.n + 1, c, y.q ++ [k]⟩ z u) := fun A c => HQ.out.put1 HKI.out HFK.out HJ1.out
                have r2 := Rd.blk (w0 := w0) (k := 1) (v := wqV y) rfl _ hs.drop
                obtain ⟨wA, wn, wc, wq⟩ := y
                simp only [wqV] at r2 hle
                go_wp2_with (first
                  | (refine wpl_build1 (v := .int .i64 (k : Nat)) elem24 (by decide) rfl rfl hs ?_; clear hs; intro gk w8 hs)
                  | (refine wpl_append (A := wA) (B := some ⟨gk, 0, none⟩) (n := wn) (m := 1) (news := [.int .i64 (k : Nat)]) elem24 rfl rfl hs (Ent.skip (Ent.skip (Ent.skip (Ent.skip (Ent.refl _))))) RdS.blk rfl (ints_one (k : Int)) (by unfold maxLen; omega) (by omega) ?_; clear hs r2; intro A9 c9 w9 hs; rw [intv_append] at hs; replace hs := hs.rot.drop)
                  | (refine wpl_store (v := .slice A9 (wn + 1) c9) rfl rfl rfl size_sli hs (Wr.blk (show 1 < 4 by decide)).tail.tail ?_; clear hs; intro w10 hs))
                replace hs := hs.rot.ent (Ent.cons _ (Ent.push _ [_, _] _))
                go_roundw
                case rel => exact ⟨1 + 1, _, _, _, _, by first | rfl | go_num, by decide, Lib.hid (HQ2.out A9 c9), hs⟩
                case measure => simp [intOf] <;> omega
              · replace rb := rb 2 (.bool false) rfl
                go_wp2
                go_roundw
                case rel => exact ⟨2 + 1, x, y, z, u, by first | rfl | go_num, by decide, Lib.hid (HQ.out.skip (by decide) HKI.out HJ2.out), hs⟩
                case measure => simp [intOf] <;> omega
              · replace rb := rb 3 (.bool false) rfl
                go_wp2
                go_roundw
                case rel => exact ⟨3 + 1, x, y, z, u, by first | rfl | go_num, by decide, Lib.hid (HQ.out.skip (by decide) HKI.out HJ3.out), hs⟩
                case measure => simp [intOf] <;> omega
              · clear rb
                go_wp2
                go_roundw
                case rel => exact ⟨i + 1, x, y, z, u, by go_num, by omega, Lib.hid HQ.out.next, hs.drop⟩
                case measure => simp [intOf] <;> omega
      · have hin : n3 = i := by omega
        subst hin
        clear hlt hi
        have HM1 : Hid (∀ k ∈ S1, k ∈ S3) := fun k hk => by rw [← HS3.out]; exact (mem_two (by rw [← HS1.out]; exact setS_lt za) (by rw [← HS2.out]; exact setS_lt zb)).2 (.inl hk)
        have HM2 : Hid (∀ k ∈ S2, k ∈ S3) := fun k hk => by rw [← HS3.out]; exact (mem_two (by rw [← HS1.out]; exact setS_lt za) (by rw [← HS2.out]; exact setS_lt zb)).2 (.inr hk)
        go_wp2
        go_loopw [21] (fun jv wr => ∃ j : Nat, jv = .int .i64 (j : Nat) ∧ j ≤ 4 ∧ St w0 (Want gw x y z u [own Y n3 cy 3 1 (intv S3), ExB D (lj 7) [ptr T1, ptr T2], own V n2 cv 3 1 (intv S2), own U n1 cu 3 1 (intv S1), YtpnjoeiohigjmaaDoor.blk gl #[.int .i64 2, .int .i64 3, .int .i64 4, .int .i64 6] 3, HSet T2 S2, HSet T1 S1]) wr) (fun jv _ => 4 - (intOf jv).toNat)
        case atStart => exact ⟨0, rfl, by decide, hs⟩
        case round =>
          clear hs
          obtain ⟨j, rfl, hj, hs⟩ := hrel
          have hle := HQ.out.le
          rw [HN3.out] at hle
          have hsc := hs.up6.scv lj7_ok (sets2 hs.drop.drop.drop.drop.drop.drop.drop.drop.drop.drop.drop hs.drop.drop.drop.drop.drop.drop.drop.drop.drop.drop) HT.out
          rcases (show j = 0 ∨ j = 1 ∨ j = 2 ∨ j = 3 ∨ j = 4 by omega) with rfl | rfl | rfl | rfl | rfl
          · skip
            have r1 := Rd.blk (w0 := w0) (g := gl) (k := 0) (cs := #[.int .i64 2, .int .i64 3, .int .i64 4, .int .i64 6]) (t := 3) (v := .int .i64 2) (L := [HSet T2 S2, HSet T1 S1]) rfl _ hs.drop.drop.drop.drop.drop.drop.drop.drop.drop
            have r2 := Rd.blk (w0 := w0) (k := 0) (v := wqV x) rfl _ hs
            have HL : Hid (lst (tel (lj 7) (ss2 S1 S2) 2) zf.toNat 16777216 (min (1000 : Int) 100000).toNat = x.q) := by
              have h1 := jw_all (S1 := S1) (S2 := S2) (S3 := S3) (f := zf) (j := 0) (n := n3) (by decide) (by rw [← HS3.out]; exact setS_sorted _) (by rw [← HS3.out]; exact setS_lt _) HM1.out HM2.out HN3.out (by omega)
              have h2 : jw S1 S2 S3 zf 0 n3 = x.q := HQ.out.a.1.symm
              rw [h2, show ((jn 0 : Nat) : Int) = 2 from by unfold jn; rfl] at h1
              exact h1
            have HLn : Hid (x.q.length = x.n) := HQ.out.a.2
            clear HQ
            obtain ⟨wA, wn, wc, wq⟩ := x
            simp only [wqV] at r2 HL HLn hle
            go_upto_region 26 with (fail)
            refine wp_region_chain [false, false, false, false, false, false, true, false, false, false, true, true] (by kernel_rfl) (by kernel_rfl) ?_
            intro wb hb
            replace hs := hs.grew hb
            replace hsc := hsc.grew hb
            replace r1 := hb.cell r1
            replace r2 := hb.cell r2
            clear hb
            have hne : Nonempty (GW wb) := ⟨⟨wb, Grew.refl _⟩⟩
            have g1 := fun p : GW wb => p.grew.cell r1
            have g2 := fun p : GW wb => p.grew.cell r2
            simp only [pickOps]
            repeat (go_big_quiet_step (fail))
            refine wpQuiet_nil ?_
            clear hne g1 g2 r1 r2
            intro u0 hu
            replace hs := hs.grew hu
            replace hsc := hsc.grew hu
            clear hu
            simp only [chainIx]
            refine wpChain_next rfl ?_
            go_wp2_with (first
              | (go_at_call 14; refine (sclist_c hsc 2 zf 1000 HL HLn).mono ?_; rintro e w' ⟨A9, cp9, rfl, hl⟩))
            refine ⟨hl.made_grew, ?_⟩
            intro u2 hu2
            replace hs := (hs.made hl).grew hu2
            replace hsc := hsc.grew (hl.made_grew.trans hu2)
            clear hl hu2
            rw [intv_ints] at hs
            refine wpChain_next rfl ?_
            go_wp2_with (first
              | (go_at_call 25; refine (rsame_c (S1 := wq) (S2 := wq) (b := true) HLn.out HLn.out (by omega) hs (RdS.own hs) (RdS.own hs.drop.drop).tail.tail (by simp)).mono ?_; rintro e w' ⟨rfl, hg⟩))
            intro u3 hu3
            replace hs := hs.grew (hg.trans hu3)
            replace hsc := hsc.grew (hg.trans hu3)
            clear hg hu3
            refine wpChain_last rfl ?_
            go_wp2
            go_roundw
            case rel => exact ⟨0 + 1, by first | rfl | go_num, by decide, hs.drop⟩
            case measure => simp [intOf] <;> omega
          · skip
            have r1 := Rd.blk (w0 := w0) (g := gl) (k := 1) (cs := #[.int .i64 2, .int .i64 3, .int .i64 4, .int .i64 6]) (t := 3) (v := .int .i64 3) (L := [HSet T2 S2, HSet T1 S1]) rfl _ hs.drop.drop.drop.drop.drop.drop.drop.drop.drop
            have r2 := Rd.blk (w0 := w0) (k := 1) (v := wqV y) rfl _ hs
            have HL : Hid (lst (tel (lj 7) (ss2 S1 S2) 3) zf.toNat 16777216 (min (1000 : Int) 100000).toNat = y.q) := by
              have h1 := jw_all (S1 := S1) (S2 := S2) (S3 := S3) (f := zf) (j := 1) (n := n3) (by decide) (by rw [← HS3.out]; exact setS_sorted _) (by rw [← HS3.out]; exact setS_lt _) HM1.out HM2.out HN3.out (by omega)
              have h2 : jw S1 S2 S3 zf 1 n3 = y.q := HQ.out.b.1.symm
              rw [h2, show ((jn 1 : Nat) : Int) = 3 from by unfold jn; rfl] at h1
              exact h1
            have HLn : Hid (y.q.length = y.n) := HQ.out.b.2
            clear HQ
            obtain ⟨wA, wn, wc, wq⟩ := y
            simp only [wqV] at r2 HL HLn hle
            go_upto_region 26 with (fail)
            refine wp_region_chain [false, false, false, false, false, false, true, false, false, false, true, true] (by kernel_rfl) (by kernel_rfl) ?_
            intro wb hb
            replace hs := hs.grew hb
            replace hsc := hsc.grew hb
            replace r1 := hb.cell r1
            replace r2 := hb.cell r2
            clear hb
            have hne : Nonempty (GW wb) := ⟨⟨wb, Grew.refl _⟩⟩
            have g1 := fun p : GW wb => p.grew.cell r1
            have g2 := fun p : GW wb => p.grew.cell r2
            simp only [pickOps]
            repeat (go_big_quiet_step (fail))
            refine wpQuiet_nil ?_
            clear hne g1 g2 r1 r2
            intro u0 hu
            replace hs := hs.grew hu
            replace hsc := hsc.grew hu
            clear hu
            simp only [chainIx]
            refine wpChain_next rfl ?_
            go_wp2_with (first
              | (go_at_call 14; refine (sclist_c hsc 3 zf 1000 HL HLn).mono ?_; rintro e w' ⟨A9, cp9, rfl, hl⟩))
            refine ⟨hl.made_grew, ?_⟩
            intro u2 hu2
            replace hs := (hs.made hl).grew hu2
            replace hsc := hsc.grew (hl.made_grew.trans hu2)
            clear hl hu2
            rw [intv_ints] at hs
            refine wpChain_next rfl ?_
            go_wp2_with (first
              | (go_at_call 25; refine (rsame_c (S1 := wq) (S2 := wq) (b := true) HLn.out HLn.out (by omega) hs (RdS.own hs) (RdS.own hs.drop.drop.drop).tail.tail.tail (by simp)).mono ?_; rintro e w' ⟨rfl, hg⟩))
            intro u3 hu3
            replace hs := hs.grew (hg.trans hu3)
            replace hsc := hsc.grew (hg.trans hu3)
            clear hg hu3
            refine wpChain_last rfl ?_
            go_wp2
            go_roundw
            case rel => exact ⟨1 + 1, by first | rfl | go_num, by decide, hs.drop⟩
            case measure => simp [intOf] <;> omega
          · skip
            have r1 := Rd.blk (w0 := w0) (g := gl) (k := 2) (cs := #[.int .i64 2, .int .i64 3, .int .i64 4, .int .i64 6]) (t := 3) (v := .int .i64 4) (L := [HSet T2 S2, HSet T1 S1]) rfl _ hs.drop.drop.drop.drop.drop.drop.drop.drop.drop
            have r2 := Rd.blk (w0 := w0) (k := 2) (v := wqV z) rfl _ hs
            have HL : Hid (lst (tel (lj 7) (ss2 S1 S2) 4) zf.toNat 16777216 (min (1000 : Int) 100000).toNat = z.q) := by
              have h1 := jw_all (S1 := S1) (S2 := S2) (S3 := S3) (f := zf) (j := 2) (n := n3) (by decide) (by rw [← HS3.out]; exact setS_sorted _) (by rw [← HS3.out]; exact setS_lt _) HM1.out HM2.out HN3.out (by omega)
              have h2 : jw S1 S2 S3 zf 2 n3 = z.q := HQ.out.c.1.symm
              rw [h2, show ((jn 2 : Nat) : Int) = 4 from by unfold jn; rfl] at h1
              exact h1
            have HLn : Hid (z.q.length = z.n) := HQ.out.c.2
            clear HQ
            obtain ⟨wA, wn, wc, wq⟩ := z
            simp only [wqV] at r2 HL HLn hle
            go_upto_region 26 with (fail)
            refine wp_region_chain [false, false, false, false, false, false, true, false, false, false, true, true] (by kernel_rfl) (by kernel_rfl) ?_
            intro wb hb
            replace hs := hs.grew hb
            replace hsc := hsc.grew hb
            replace r1 := hb.cell r1
            replace r2 := hb.cell r2
            clear hb
            have hne : Nonempty (GW wb) := ⟨⟨wb, Grew.refl _⟩⟩
            have g1 := fun p : GW wb => p.grew.cell r1
            have g2 := fun p : GW wb => p.grew.cell r2
            simp only [pickOps]
            repeat (go_big_quiet_step (fail))
            refine wpQuiet_nil ?_
            clear hne g1 g2 r1 r2
            intro u0 hu
            replace hs := hs.grew hu
            replace hsc := hsc.grew hu
            clear hu
            simp only [chainIx]
            refine wpChain_next rfl ?_
            go_wp2_with (first
              | (go_at_call 14; refine (sclist_c hsc 4 zf 1000 HL HLn).mono ?_; rintro e w' ⟨A9, cp9, rfl, hl⟩))
            refine ⟨hl.made_grew, ?_⟩
            intro u2 hu2
            replace hs := (hs.made hl).grew hu2
            replace hsc := hsc.grew (hl.made_grew.trans hu2)
            clear hl hu2
            rw [intv_ints] at hs
            refine wpChain_next rfl ?_
            go_wp2_with (first
              | (go_at_call 25; refine (rsame_c (S1 := wq) (S2 := wq) (b := true) HLn.out HLn.out (by omega) hs (RdS.own hs) (RdS.own hs.drop.drop.drop.drop).tail.tail.tail.tail (by simp)).mono ?_; rintro e w' ⟨rfl, hg⟩))
            intro u3 hu3
            replace hs := hs.grew (hg.trans hu3)
            replace hsc := hsc.grew (hg.trans hu3)
            clear hg hu3
            refine wpChain_last rfl ?_
            go_wp2
            go_roundw
            case rel => exact ⟨2 + 1, by first | rfl | go_num, by decide, hs.drop⟩
            case measure => simp [intOf] <;> omega
          · skip
            have r1 := Rd.blk (w0 := w0) (g := gl) (k := 3) (cs := #[.int .i64 2, .int .i64 3, .int .i64 4, .int .i64 6]) (t := 3) (v := .int .i64 6) (L := [HSet T2 S2, HSet T1 S1]) rfl _ hs.drop.drop.drop.drop.drop.drop.drop.drop.drop
            have r2 := Rd.blk (w0 := w0) (k := 3) (v := wqV u) rfl _ hs
            have HL : Hid (lst (tel (lj 7) (ss2 S1 S2) 6) zf.toNat 16777216 (min (1000 : Int) 100000).toNat = u.q) := by
              have h1 := jw_all (S1 := S1) (S2 := S2) (S3 := S3) (f := zf) (j := 3) (n := n3) (by decide) (by rw [← HS3.out]; exact setS_sorted _) (by rw [← HS3.out]; exact setS_lt _) HM1.out HM2.out HN3.out (by omega)
              have h2 : jw S1 S2 S3 zf 3 n3 = u.q := HQ.out.d.1.symm
              rw [h2, show ((jn 3 : Nat) : Int) = 6 from by unfold jn; rfl] at h1
              exact h1
            have HLn : Hid (u.q.length = u.n) := HQ.out.d.2
            clear HQ
            obtain ⟨wA, wn, wc, wq⟩ := u
            simp only [wqV] at r2 HL HLn hle
            go_upto_region 26 with (fail)
            refine wp_region_chain [false, false, false, false, false, false, true, false, false, false, true, true] (by kernel_rfl) (by kernel_rfl) ?_
            intro wb hb
            replace hs := hs.grew hb
            replace hsc := hsc.grew hb
            replace r1 := hb.cell r1
            replace r2 := hb.cell r2
            clear hb
            have hne : Nonempty (GW wb) := ⟨⟨wb, Grew.refl _⟩⟩
            have g1 := fun p : GW wb => p.grew.cell r1
            have g2 := fun p : GW wb => p.grew.cell r2
            simp only [pickOps]
            repeat (go_big_quiet_step (fail))
            refine wpQuiet_nil ?_
            clear hne g1 g2 r1 r2
            intro u0 hu
            replace hs := hs.grew hu
            replace hsc := hsc.grew hu
            clear hu
            simp only [chainIx]
            refine wpChain_next rfl ?_
            go_wp2_with (first
              | (go_at_call 14; refine (sclist_c hsc 6 zf 1000 HL HLn).mono ?_; rintro e w' ⟨A9, cp9, rfl, hl⟩))
            refine ⟨hl.made_grew, ?_⟩
            intro u2 hu2
            replace hs := (hs.made hl).grew hu2
            replace hsc := hsc.grew (hl.made_grew.trans hu2)
            clear hl hu2
            rw [intv_ints] at hs
            refine wpChain_next rfl ?_
            go_wp2_with (first
              | (go_at_call 25; refine (rsame_c (S1 := wq) (S2 := wq) (b := true) HLn.out HLn.out (by omega) hs (RdS.own hs) (RdS.own hs.drop.drop.drop.drop.drop).tail.tail.tail.tail.tail (by simp)).mono ?_; rintro e w' ⟨rfl, hg⟩))
            intro u3 hu3
            replace hs := hs.grew (hg.trans hu3)
            replace hsc := hsc.grew (hg.trans hu3)
            clear hg hu3
            refine wpChain_last rfl ?_
            go_wp2
            go_roundw
            case rel => exact ⟨3 + 1, by first | rfl | go_num, by decide, hs.drop⟩
            case measure => simp [intOf] <;> omega
          · go_wp2_with (first
              | (go_at_call 17; refine (awake4 _ hsc.tab).mono ?_; rintro e w' ⟨rfl, hg⟩; replace hs := hs.grew hg; clear hg))
            go_ret
            exact ⟨rfl, hs.nothing⟩
end Go.Proofs.YtpnjoeiohigjmaaDoor
