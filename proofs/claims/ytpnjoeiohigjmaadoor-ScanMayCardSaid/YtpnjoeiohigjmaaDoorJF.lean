/-
  XJF: joined of XExDe XEx9 XEx10 XEx11 XEx12 XEx13 XExAr XEx14 XEx15 XExCh XExLo XEx16 XEx17.
-/
import Derived.Test.YtpnjoeiohigjmaaDoorJE
import Derived.Test.YtpnjoeiohigjmaaDoorJA
import Derived.Test.YtpnjoeiohigjmaaDoorJD
import Derived.Deep.DeepCutAuto
import Derived.Deep.CutBlock
/-
  ExprDeep: the walk.
-/
set_option maxRecDepth 100000
namespace Go.Proofs.YtpnjoeiohigjmaaDoor
open Go Go.RowKit
attribute [local irreducible] wpList Calls Code.wp

theorem tells_snoc (sb : Nat → Bool) (l : List NodeE) (y : NodeE) : tellsE sb (l ++ [y]) = tellsE sb l ++ [tellE sb y (tellsE sb l)] := by simp [tellsE]
theorem tells_len (sb : Nat → Bool) (l : List NodeE) : (tellsE sb l).length = l.length := by
  suffices h : ∀ (l : List NodeE) (bs : List Bool), (l.foldl (fun bs x => bs ++ [tellE sb x bs]) bs).length = bs.length + l.length by
    have := h l []
    simpa [tellsE] using this
  intro l
  induction l with
  | nil => intro bs; simp
  | cons x l ih => intro bs; rw [List.foldl_cons, ih]; simp; omega
/-- A row of k + 1 nodes, each told by the next one; t: an odd number of Nots. -/
structure DeepI (l : List NodeE) (k : Nat) (t : Bool) : Prop where
  len : l.length = k + 1
  ok : ArOk l 1
  tell : ∀ sb : Nat → Bool, (tellsE sb l).getD k false = (sb 0 != t)
theorem deep_start : DeepI [⟨1, [0]⟩] 0 false := ⟨rfl, (ArOk.nil 0).addset (by decide), fun sb => by
  show sb 0 = (sb 0 != false)
  cases sb 0 <;> rfl⟩
theorem DeepI.ok1 {l : List NodeE} {k : Nat} {t : Bool} (h : DeepI l k t) (hk : k < 998) : addOk l 5 [(k : Int)] = true ∧ addOk l 2 [(k : Int), (k : Int)] = true := by
  have hb : bad l.length (k : Int) = false := by
    unfold bad
    rw [h.len, decide_eq_false (by omega), decide_eq_false (by omega)]
    rfl
  have hl : decide (l.length < 1000) = true := decide_eq_true (by rw [h.len]; omega)
  constructor
  · unfold addOk
    rw [hl, List.any_cons, hb]
    rfl
  · unfold addOk
    rw [hl, List.any_cons, List.any_cons, hb]
    rfl
theorem DeepI.not {l l' : List NodeE} {k : Nat} {t : Bool} (h : DeepI l k t) (hk : k < 998) (hl : addN l 5 [(k : Int)] = l') : addV l 5 [(k : Int)] = ((k + 1 : Nat) : Int) ∧ DeepI l' (k + 1) (!t) := by
  have ho := (h.ok1 hk).1
  have hok := h.ok.addop (k := 5) (kids := [(k : Int)]) (by decide) (fun _ => rfl)
  rw [hl] at hok
  refine ⟨by unfold addV; rw [ho, if_pos rfl, h.len], ?_, hok, fun sb => ?_⟩
  · rw [← hl]; unfold addN; rw [ho, if_pos rfl, List.length_append, h.len]; rfl
  · rw [← hl]
    unfold addN
    rw [ho, if_pos rfl, tells_snoc, List.getD_eq_getElem?_getD, List.getElem?_append_right (by rw [tells_len, h.len]; omega), tells_len, h.len, Nat.sub_self]
    show (!(tellsE sb l).getD (Int.toNat (k : Int)) false) = _
    rw [Int.toNat_natCast, h.tell sb]
    cases sb 0 <;> cases t <;> rfl
theorem DeepI.and {l l' : List NodeE} {k : Nat} {t : Bool} (h : DeepI l k t) (hk : k < 998) (hl : addN l 2 [(k : Int), (k : Int)] = l') : addV l 2 [(k : Int), (k : Int)] = ((k + 1 : Nat) : Int) ∧ DeepI l' (k + 1) t := by
  have ho := (h.ok1 hk).2
  have hok := h.ok.addop (k := 2) (kids := [(k : Int), (k : Int)]) (by decide) (fun h => absurd h (by decide))
  rw [hl] at hok
  refine ⟨by unfold addV; rw [ho, if_pos rfl, h.len], ?_, hok, fun sb => ?_⟩
  · rw [← hl]; unfold addN; rw [ho, if_pos rfl, List.length_append, h.len]; rfl
  · rw [← hl]
    unfold addN
    rw [ho, if_pos rfl, tells_snoc, List.getD_eq_getElem?_getD, List.getElem?_append_right (by rw [tells_len, h.len]; omega), tells_len, h.len, Nat.sub_self]
    show ((true && (tellsE sb l).getD (Int.toNat (k : Int)) false) && (tellsE sb l).getD (Int.toNat (k : Int)) false) = _
    rw [Int.toNat_natCast, h.tell sb]
    cases sb 0 <;> cases t <;> rfl
theorem DeepI.has {l : List NodeE} {k : Nat} {t : Bool} (h : DeepI l k t) {S : List Nat} {m : Nat} (hm : m < 16777216) {b : Bool} (hb : memS S (m : Int) = b) : exTell l (fun _ => S) (k : Int) (m : Int) = (b != t) := by
  have hl := h.len
  unfold exTell
  rw [decide_eq_true ⟨by omega, by omega, by omega, by omega⟩, Bool.true_and, Int.toNat_natCast, h.tell, hb]
theorem and_mask {z : Int} {p : Nat} (hp : p < 63) : bits .and .i64 z ((2 ^ p - 1 : Nat) : Int) = ((z % (2 ^ p : Nat)).toNat : Nat) := by
  have h0 : (0 : Nat) < 2 ^ p := Nat.two_pow_pos p
  have h1 : 2 ^ p ≤ 2 ^ 62 := Nat.pow_le_pow_right (by decide) (by omega)
  have h2 : (BitVec.ofInt 64 ((2 ^ p - 1 : Nat) : Int)).toNat = 2 ^ p - 1 := ofInt_u64 _ (by omega)
  show IntKind.i64.wrap ((BitVec.ofInt 64 z &&& BitVec.ofInt 64 ((2 ^ p - 1 : Nat) : Int)).toNat : Int) = _
  rw [BitVec.toNat_and, h2, Nat.and_two_pow_sub_one_eq_mod, BitVec.toNat_ofInt, IntKind.wrap_i64]
  have h3 : ((z % ((2 ^ 64 : Nat) : Int)).toNat % 2 ^ p : Nat) = (z % ((2 ^ p : Nat) : Int)).toNat := by
    have hz : 0 ≤ z % ((2 ^ 64 : Nat) : Int) := Int.emod_nonneg _ (by decide)
    have hd : ((2 ^ p : Nat) : Int) ∣ ((2 ^ 64 : Nat) : Int) := Int.natCast_dvd_natCast.2 (Nat.pow_dvd_pow 2 (by omega))
    have e : z % ((2 ^ 64 : Nat) : Int) % ((2 ^ p : Nat) : Int) = z % ((2 ^ p : Nat) : Int) := Int.emod_emod_of_dvd z hd
    rw [← e]
    generalize z % ((2 ^ 64 : Nat) : Int) = y at hz
    obtain ⟨n, rfl⟩ := Int.eq_ofNat_of_zero_le hz
    rw [Int.toNat_natCast, ← Int.natCast_emod, Int.toNat_natCast]
  rw [h3]
  have h4 : z % ((2 ^ p : Nat) : Int) < ((2 ^ p : Nat) : Int) := Int.emod_lt_of_pos _ (by omega)
  have h5 : 0 ≤ z % ((2 ^ p : Nat) : Int) := Int.emod_nonneg _ (by omega)
  omega
theorem mask_small (z : Int) (p : Nat) (hp : p < 63) : ∃ y : Nat, y < 2 ^ p ∧ bits .and .i64 z ((2 ^ p - 1 : Nat) : Int) = (y : Nat) := by
  refine ⟨_, ?_, and_mask hp⟩
  have h0 : (0 : Nat) < 2 ^ p := Nat.two_pow_pos p
  have h4 : z % ((2 ^ p : Nat) : Int) < ((2 ^ p : Nat) : Int) := Int.emod_lt_of_pos _ (by omega)
  have h5 : 0 ≤ z % ((2 ^ p : Nat) : Int) := Int.emod_nonneg _ (by omega)
  omega
attribute [local irreducible] addV addN exTell setS memS
end Go.Proofs.YtpnjoeiohigjmaaDoor

/-
  Expressions (expr.Arena), 9: nodes as they come; check, Check.
-/
set_option maxRecDepth 100000
namespace Go.Proofs.YtpnjoeiohigjmaaDoor
open Go Go.RowKit
attribute [local irreducible] wpList Calls Code.wp

/-- A node as it may come. -/
structure RNode where
  k : Int
  kids : List Int
/-- The error of a node that stands at a place. -/
def nodeErr (x : RNode) (at_ : Nat) (sets : Int) : Int :=
  if x.k < 1 ∨ 5 < x.k ∨ 64 < x.kids.length ∨ ((x.k = 1 ∨ x.k = 5) ∧ x.kids.length ≠ 1) then 1
  else if x.k = 1 then (if x.kids.headD 0 < 0 ∨ sets ≤ x.kids.headD 0 then 1 else 0)
  else if x.kids.any (bad at_) then 3 else 0
/-- The first error of nodes from a place on. -/
def nodesErr (sets : Int) : List RNode → Nat → Int
  | [], _ => 0
  | x :: l, i => if nodeErr x i sets ≠ 0 then nodeErr x i sets else nodesErr sets l (i + 1)
def checkV (l : List RNode) (sets : Int) : Int := if 1000 < l.length then 2 else nodesErr sets l 0
def clo2 (g : Nat) : Value := .func (Fn.func 73) #[] #[ptr g]
theorem indexf2_c {w : World} {g : Nat} {A : Option Addr} {m cap n : Nat} {l : List Int} (hm : Hid (l.length = m)) (hm2 : m ≤ 4000000000) (hr : ∀ (k : Nat) (x : Int), l[k]? = some x → ∃ b o, A = some ⟨b, o, none⟩ ∧ w.cell? ⟨b, o + k, none⟩ = some (.int .i64 x))
    (hg : w.cell? ⟨g, 0, none⟩ = some (.int .i64 (n : Nat))) :
    Calls Tryd.prog 70 #[.slice A m cap, clo2 g] w fun e w' => ∃ z, e = .returned (.int .i64 z) ∧ decide (0 ≤ z) = l.any (bad n) ∧ w' = w := by
  unfold clo2 ptr at *
  go_enter Tryd.func70, Tryd.ntmps70
  go_wp2
  go_loopw [8] (fun cv wr => ∃ k : Nat, k ≤ m ∧ cv = .int .i64 (k : Nat) ∧ Hid ((l.take k).any (bad n) = false) ∧ w = wr) (fun cv _ => m - (intOf cv).toNat)
  case atStart => exact ⟨0, Nat.zero_le _, rfl, rfl, rfl⟩
  case round =>
    obtain ⟨k, hk, rfl, HT, rfl⟩ := hrel
    by_cases hlt : k < m
    · obtain ⟨x, hx⟩ : ∃ x, l[k]? = some x := ⟨_, List.getElem?_eq_getElem (by rw [hm.out]; exact hlt)⟩
      obtain ⟨b, o, rfl, hc⟩ := hr k x hx
      have HN := Lib.hid (any_take (n := n) hx)
      clear hr hx
      have hb1 : ∀ y : Int, bad n x = true → decide (0 ≤ ((k : Nat) : Int)) = l.any (bad n) := fun _ hb => by
        rw [decide_eq_true (Int.natCast_nonneg k)]
        symm
        have h3 := HN.out
        rw [hb, Bool.or_true] at h3
        rw [← List.take_append_drop (k + 1) l, List.any_append, h3, Bool.true_or]
      by_cases h1 : x < 0
      · have hb := hb1 0 (by unfold bad; rw [decide_eq_true h1, Bool.true_or])
        clear hb1
        go_wp2
        go_ret
        exact ⟨_, rfl, hb, rfl⟩
      · by_cases h3 : (n : Int) ≤ x
        · have hb := hb1 0 (by unfold bad; rw [decide_eq_true h3, Bool.or_true])
          clear hb1
          go_wp2
          go_ret
          exact ⟨_, rfl, hb, rfl⟩
        · have HT2 : Hid ((l.take (k + 1)).any (bad n) = false) := by
            rw [Hid, HN.out, HT.out]
            unfold bad
            rw [decide_eq_false h1, decide_eq_false h3]
            rfl
          clear hb1
          go_wp2
          go_roundw
          case rel => exact ⟨k + 1, by omega, rfl, HT2, trivial⟩
          case measure => simp [intOf] <;> omega
    · have hkm : k = m := by omega
      subst hkm
      go_wp2
      go_ret
      have h3 := HT.out
      rw [List.take_of_length_le (by rw [hm.out]; exact Nat.le_refl _)] at h3
      exact ⟨_, rfl, h3.symm, rfl⟩
theorem containsf2_c {w : World} {g : Nat} {A : Option Addr} {m cap n : Nat} {l : List Int} {b : Bool} (hm : Hid (l.length = m)) (hm2 : m ≤ 4000000000) (hr : ∀ (k : Nat) (x : Int), l[k]? = some x → ∃ b o, A = some ⟨b, o, none⟩ ∧ w.cell? ⟨b, o + k, none⟩ = some (.int .i64 x))
    (hg : w.cell? ⟨g, 0, none⟩ = some (.int .i64 (n : Nat))) (hb : Hid (l.any (bad n) = b)) :
    Calls Tryd.prog 59 #[.slice A m cap, .func (Fn.func 73) #[] #[.pointer (some ⟨g, 0, none⟩)]] w fun e w' => e = .returned (.bool b) ∧ w' = w := by
  rw [← hb.out]
  show Calls Tryd.prog 59 #[.slice A m cap, clo2 g] w _
  generalize hcl : clo2 g = cl
  go_enter Tryd.func59, Tryd.ntmps59
  go_wp2_with (first
    | (go_at_call 70; subst hcl; refine (indexf2_c hm hm2 hr hg).mono ?_; rintro e w' ⟨z, rfl, hz, rfl⟩))
  go_ret
  exact ⟨rfl, rfl⟩
/-- A row's kids in memory. -/
def KidsR (w : World) (B : Option Addr) (kids : List Int) : Prop := ∀ (j : Nat) (y : Int), kids[j]? = some y → ∃ b o, B = some ⟨b, o, none⟩ ∧ w.cell? ⟨b, o + j, none⟩ = some (.int .i64 y)
theorem KidsR.grew {w w' : World} {B : Option Addr} {kids : List Int} (h : KidsR w B kids) (hg : Grew w w') : KidsR w' B kids := fun j y hy => let ⟨b, o, h1, h2⟩ := h j y hy; ⟨b, o, h1, hg.cell h2⟩
def ndC (k : Int) (B : Option Addr) (n cap : Nat) : List Value := [.int .i64 k, .slice B n cap]
attribute [local irreducible] nodeErr
set_option maxHeartbeats 2000000 in
theorem check_c {w : World} {x : RNode} {a m bc : Nat} {B : Option Addr} {sets v : Int} (hm : Hid (x.kids.length = m)) (hm2 : m ≤ 4000000000) (hr : KidsR w B x.kids) (hv : Hid (nodeErr x a sets = v)) :
    Calls Tryd.prog 68 #[.agg (ndC x.k B m bc).toArray, .int .i64 (a : Nat), .int .i64 sets] w fun e w' => e = .returned (.int .i64 v) ∧ Grew w w' := by
  have hw := St.start w
  have HR := Lib.hid hr
  have hml := hm.out
  rw [← hv.out]
  clear hr hv v
  obtain ⟨bo, HA⟩ : ∃ b, Hid (x.kids.any (bad a) = b) := ⟨_, rfl⟩
  have hE1 : (x.k < 1 ∨ 5 < x.k ∨ 64 < x.kids.length ∨ ((x.k = 1 ∨ x.k = 5) ∧ x.kids.length ≠ 1)) → nodeErr x a sets = 1 := fun h => by unfold nodeErr; rw [if_pos h]
  have hE2 : x.k = 1 → x.kids.length = 1 → nodeErr x a sets = if x.kids.headD 0 < 0 ∨ sets ≤ x.kids.headD 0 then 1 else 0 := fun h h' => by unfold nodeErr; rw [if_neg (by omega), if_pos h]
  have hE3 : ¬ (x.k < 1 ∨ 5 < x.k ∨ 64 < x.kids.length ∨ ((x.k = 1 ∨ x.k = 5) ∧ x.kids.length ≠ 1)) → x.k ≠ 1 → nodeErr x a sets = if bo then 3 else 0 := fun h h' => by unfold nodeErr; rw [if_neg h, if_neg h', HA.out]
  rw [hml] at hE1 hE2 hE3
  have HY : Hid (∀ {w' : World}, Grew w w' → True) := fun _ => trivial
  by_cases h1 : x.k < 1
  · rw [hE1 (.inl h1)]
    have d1 : decide (x.k < 1) = true := decide_eq_true h1
    have e1 : (x.k == 1) = false := by simp; omega
    have e5 : (x.k == 5) = false := by simp; omega
    clear hE1 hE2 hE3 h1 hml
    go_enter Tryd.func68, Tryd.ntmps68
    go_wp2_with (first
      | (refine wpl_box_v (v := .agg (ndC x.k B m bc).toArray) rfl hw ?_; clear hw; intro g3 w3 hw; replace hw : St w (blk g3 (ndC x.k B m bc).toArray 63 :: _) w3 := hw)
      | (refine wpl_box_v (v := .int .i64 (a : Nat)) rfl hw ?_; clear hw; intro g4 w4 hw; have c0 := Rd.blk (v := .int .i64 x.k) (k := 0) (by rfl) _ hw.rot; have c1 := Rd.blk (v := .slice B m bc) (k := 1) (by rfl) _ hw.rot; have c2 := Rd.blk (v := .int .i64 (a : Nat)) (k := 0) (by rfl) _ hw; have hy1 := HY.out hw.made_grew)
      | (go_at_call 59; refine (containsf2_c (w := w4) hm (by omega) (HR.out.grew hw.made_grew) c2 HA).mono ?_; rintro e w' ⟨rfl, rfl⟩))
    all_goals
      go_ret
      exact ⟨rfl, hw.made_grew⟩
  · have d1 : decide (x.k < 1) = false := decide_eq_false h1
    by_cases h5 : 5 < x.k
    · rw [hE1 (.inr (.inl h5))]
      have d5 : decide (5 < x.k) = true := decide_eq_true h5
      have e1 : (x.k == 1) = false := by simp; omega
      have e5 : (x.k == 5) = false := by simp; omega
      clear hE1 hE2 hE3 h1 h5 hml
      go_enter Tryd.func68, Tryd.ntmps68
      go_wp2_with (first
        | (refine wpl_box_v (v := .agg (ndC x.k B m bc).toArray) rfl hw ?_; clear hw; intro g3 w3 hw; replace hw : St w (blk g3 (ndC x.k B m bc).toArray 63 :: _) w3 := hw)
        | (refine wpl_box_v (v := .int .i64 (a : Nat)) rfl hw ?_; clear hw; intro g4 w4 hw; have c0 := Rd.blk (v := .int .i64 x.k) (k := 0) (by rfl) _ hw.rot; have c1 := Rd.blk (v := .slice B m bc) (k := 1) (by rfl) _ hw.rot; have c2 := Rd.blk (v := .int .i64 (a : Nat)) (k := 0) (by rfl) _ hw; have hy1 := HY.out hw.made_grew)
        | (go_at_call 59; refine (containsf2_c (w := w4) hm (by omega) (HR.out.grew hw.made_grew) c2 HA).mono ?_; rintro e w' ⟨rfl, rfl⟩))
      all_goals
        go_ret
        exact ⟨rfl, hw.made_grew⟩
    · have d5 : decide (5 < x.k) = false := decide_eq_false h5
      by_cases h64 : 64 < m
      · rw [hE1 (.inr (.inr (.inl h64)))]
        have d6 : decide (64 < (m : Int)) = true := decide_eq_true (by omega)
        obtain ⟨p1, e1⟩ : ∃ p, (x.k == 1) = p := ⟨_, rfl⟩
        obtain ⟨p2, e5⟩ : ∃ p, (x.k == 5) = p := ⟨_, rfl⟩
        clear hE1 hE2 hE3 h1 h5 hml h64
        go_enter Tryd.func68, Tryd.ntmps68
        go_wp2_with (first
          | (refine wpl_box_v (v := .agg (ndC x.k B m bc).toArray) rfl hw ?_; clear hw; intro g3 w3 hw; replace hw : St w (blk g3 (ndC x.k B m bc).toArray 63 :: _) w3 := hw)
          | (refine wpl_box_v (v := .int .i64 (a : Nat)) rfl hw ?_; clear hw; intro g4 w4 hw; have c0 := Rd.blk (v := .int .i64 x.k) (k := 0) (by rfl) _ hw.rot; have c1 := Rd.blk (v := .slice B m bc) (k := 1) (by rfl) _ hw.rot; have c2 := Rd.blk (v := .int .i64 (a : Nat)) (k := 0) (by rfl) _ hw; have hy1 := HY.out hw.made_grew)
          | (go_at_call 59; refine (containsf2_c (w := w4) hm (by omega) (HR.out.grew hw.made_grew) c2 HA).mono ?_; rintro e w' ⟨rfl, rfl⟩))
        all_goals
          go_ret
          exact ⟨rfl, hw.made_grew⟩
      · have d6 : decide (64 < (m : Int)) = false := decide_eq_false (by omega)
        by_cases k1 : x.k = 1
        · have e1 : (x.k == 1) = true := by simp; omega
          by_cases hm1 : m = 1
          · rw [hE2 k1 hm1]
            have n1 : ((m : Int) == 1) = true := by simp; omega
            have n2 : ((m : Int) != 1) = false := by simp; omega
            have m0 : 0 < m := by omega
            rw [hm1] at hml
            obtain ⟨y, hy⟩ : ∃ y, x.kids = [y] := List.length_eq_one_iff.1 hml
            obtain ⟨b, o, rfl, hc⟩ := HR.out 0 y (by rw [hy]; rfl)
            have hy0 : x.kids.headD 0 = y := by rw [hy]; rfl
            rw [hy0]
            clear HY
            have HY : Hid (∀ {w' : World}, Grew w w' → w'.cell? ⟨b, o, none⟩ = some (.int .i64 y)) := fun hg => hg.cell hc
            clear hE1 hE2 hE3 h1 h5 hml h64 k1 hy hy0 hc hm1
            by_cases hy0 : y < 0
            · rw [if_pos (.inl hy0)]
              have y0 : decide (y < 0) = true := decide_eq_true hy0
              clear hy0
              go_enter Tryd.func68, Tryd.ntmps68
              go_wp2_with (first
                | (refine wpl_box_v (v := .agg (ndC x.k (some ⟨b, o, none⟩) m bc).toArray) rfl hw ?_; clear hw; intro g3 w3 hw; replace hw : St w (blk g3 (ndC x.k (some ⟨b, o, none⟩) m bc).toArray 63 :: _) w3 := hw)
                | (refine wpl_box_v (v := .int .i64 (a : Nat)) rfl hw ?_; clear hw; intro g4 w4 hw; have c0 := Rd.blk (v := .int .i64 x.k) (k := 0) (by rfl) _ hw.rot; have c1 := Rd.blk (v := .slice (some ⟨b, o, none⟩) m bc) (k := 1) (by rfl) _ hw.rot; have c2 := Rd.blk (v := .int .i64 (a : Nat)) (k := 0) (by rfl) _ hw; have hy1 := HY.out hw.made_grew)
                | (go_at_call 59; refine (containsf2_c (w := w4) hm (by omega) (HR.out.grew hw.made_grew) c2 HA).mono ?_; rintro e w' ⟨rfl, rfl⟩))
              all_goals
                go_ret
                exact ⟨rfl, hw.made_grew⟩
            · have y0 : decide (y < 0) = false := decide_eq_false hy0
              by_cases hys : sets ≤ y
              · rw [if_pos (.inr hys)]
                have y1 : decide (sets ≤ y) = true := decide_eq_true hys
                clear hys hy0
                go_enter Tryd.func68, Tryd.ntmps68
                go_wp2_with (first
                  | (refine wpl_box_v (v := .agg (ndC x.k (some ⟨b, o, none⟩) m bc).toArray) rfl hw ?_; clear hw; intro g3 w3 hw; replace hw : St w (blk g3 (ndC x.k (some ⟨b, o, none⟩) m bc).toArray 63 :: _) w3 := hw)
                  | (refine wpl_box_v (v := .int .i64 (a : Nat)) rfl hw ?_; clear hw; intro g4 w4 hw; have c0 := Rd.blk (v := .int .i64 x.k) (k := 0) (by rfl) _ hw.rot; have c1 := Rd.blk (v := .slice (some ⟨b, o, none⟩) m bc) (k := 1) (by rfl) _ hw.rot; have c2 := Rd.blk (v := .int .i64 (a : Nat)) (k := 0) (by rfl) _ hw; have hy1 := HY.out hw.made_grew)
                  | (go_at_call 59; refine (containsf2_c (w := w4) hm (by omega) (HR.out.grew hw.made_grew) c2 HA).mono ?_; rintro e w' ⟨rfl, rfl⟩))
                all_goals
                  go_ret
                  exact ⟨rfl, hw.made_grew⟩
              · rw [if_neg (by omega)]
                have y1 : decide (sets ≤ y) = false := decide_eq_false hys
                clear hys hy0
                go_enter Tryd.func68, Tryd.ntmps68
                go_wp2_with (first
                  | (refine wpl_box_v (v := .agg (ndC x.k (some ⟨b, o, none⟩) m bc).toArray) rfl hw ?_; clear hw; intro g3 w3 hw; replace hw : St w (blk g3 (ndC x.k (some ⟨b, o, none⟩) m bc).toArray 63 :: _) w3 := hw)
                  | (refine wpl_box_v (v := .int .i64 (a : Nat)) rfl hw ?_; clear hw; intro g4 w4 hw; have c0 := Rd.blk (v := .int .i64 x.k) (k := 0) (by rfl) _ hw.rot; have c1 := Rd.blk (v := .slice (some ⟨b, o, none⟩) m bc) (k := 1) (by rfl) _ hw.rot; have c2 := Rd.blk (v := .int .i64 (a : Nat)) (k := 0) (by rfl) _ hw; have hy1 := HY.out hw.made_grew)
                  | (go_at_call 59; refine (containsf2_c (w := w4) hm (by omega) (HR.out.grew hw.made_grew) c2 HA).mono ?_; rintro e w' ⟨rfl, rfl⟩))
                all_goals
                  go_ret
                  exact ⟨rfl, hw.made_grew⟩
          · rw [hE1 (.inr (.inr (.inr ⟨.inl k1, hm1⟩)))]
            have n1 : ((m : Int) == 1) = false := by simp; omega
            have n2 : ((m : Int) != 1) = true := by simp; omega
            clear hE1 hE2 hE3 h1 h5 hml h64 k1 hm1
            go_enter Tryd.func68, Tryd.ntmps68
            go_wp2_with (first
              | (refine wpl_box_v (v := .agg (ndC x.k B m bc).toArray) rfl hw ?_; clear hw; intro g3 w3 hw; replace hw : St w (blk g3 (ndC x.k B m bc).toArray 63 :: _) w3 := hw)
              | (refine wpl_box_v (v := .int .i64 (a : Nat)) rfl hw ?_; clear hw; intro g4 w4 hw; have c0 := Rd.blk (v := .int .i64 x.k) (k := 0) (by rfl) _ hw.rot; have c1 := Rd.blk (v := .slice B m bc) (k := 1) (by rfl) _ hw.rot; have c2 := Rd.blk (v := .int .i64 (a : Nat)) (k := 0) (by rfl) _ hw; have hy1 := HY.out hw.made_grew)
              | (go_at_call 59; refine (containsf2_c (w := w4) hm (by omega) (HR.out.grew hw.made_grew) c2 HA).mono ?_; rintro e w' ⟨rfl, rfl⟩))
            all_goals
              go_ret
              exact ⟨rfl, hw.made_grew⟩
        · have e1 : (x.k == 1) = false := by simp; omega
          by_cases k5 : x.k = 5
          · have e5 : (x.k == 5) = true := by simp; omega
            by_cases hm1 : m = 1
            · rw [hE3 (by omega) k1]
              have n1 : ((m : Int) == 1) = true := by simp; omega
              have n2 : ((m : Int) != 1) = false := by simp; omega
              clear hE1 hE2 hE3 h1 h5 hml h64 k1 k5 hm1
              cases bo
              all_goals
                go_enter Tryd.func68, Tryd.ntmps68
                go_wp2_with (first
                  | (refine wpl_box_v (v := .agg (ndC x.k B m bc).toArray) rfl hw ?_; clear hw; intro g3 w3 hw; replace hw : St w (blk g3 (ndC x.k B m bc).toArray 63 :: _) w3 := hw)
                  | (refine wpl_box_v (v := .int .i64 (a : Nat)) rfl hw ?_; clear hw; intro g4 w4 hw; have c0 := Rd.blk (v := .int .i64 x.k) (k := 0) (by rfl) _ hw.rot; have c1 := Rd.blk (v := .slice B m bc) (k := 1) (by rfl) _ hw.rot; have c2 := Rd.blk (v := .int .i64 (a : Nat)) (k := 0) (by rfl) _ hw; have hy1 := HY.out hw.made_grew)
                  | (go_at_call 59; refine (containsf2_c (w := w4) hm (by omega) (HR.out.grew hw.made_grew) c2 HA).mono ?_; rintro e w' ⟨rfl, rfl⟩))
                all_goals
                  go_ret
                  exact ⟨rfl, hw.made_grew⟩
            · rw [hE1 (.inr (.inr (.inr ⟨.inr k5, hm1⟩)))]
              have n1 : ((m : Int) == 1) = false := by simp; omega
              have n2 : ((m : Int) != 1) = true := by simp; omega
              clear hE1 hE2 hE3 h1 h5 hml h64 k1 hm1 k5
              go_enter Tryd.func68, Tryd.ntmps68
              go_wp2_with (first
                | (refine wpl_box_v (v := .agg (ndC x.k B m bc).toArray) rfl hw ?_; clear hw; intro g3 w3 hw; replace hw : St w (blk g3 (ndC x.k B m bc).toArray 63 :: _) w3 := hw)
                | (refine wpl_box_v (v := .int .i64 (a : Nat)) rfl hw ?_; clear hw; intro g4 w4 hw; have c0 := Rd.blk (v := .int .i64 x.k) (k := 0) (by rfl) _ hw.rot; have c1 := Rd.blk (v := .slice B m bc) (k := 1) (by rfl) _ hw.rot; have c2 := Rd.blk (v := .int .i64 (a : Nat)) (k := 0) (by rfl) _ hw; have hy1 := HY.out hw.made_grew)
                | (go_at_call 59; refine (containsf2_c (w := w4) hm (by omega) (HR.out.grew hw.made_grew) c2 HA).mono ?_; rintro e w' ⟨rfl, rfl⟩))
              all_goals
                go_ret
                exact ⟨rfl, hw.made_grew⟩
          · rw [hE3 (by omega) k1]
            have e5 : (x.k == 5) = false := by simp; omega
            clear hE1 hE2 hE3 h1 h5 hml h64 k1 k5
            cases bo
            all_goals
              go_enter Tryd.func68, Tryd.ntmps68
              go_wp2_with (first
                | (refine wpl_box_v (v := .agg (ndC x.k B m bc).toArray) rfl hw ?_; clear hw; intro g3 w3 hw; replace hw : St w (blk g3 (ndC x.k B m bc).toArray 63 :: _) w3 := hw)
                | (refine wpl_box_v (v := .int .i64 (a : Nat)) rfl hw ?_; clear hw; intro g4 w4 hw; have c0 := Rd.blk (v := .int .i64 x.k) (k := 0) (by rfl) _ hw.rot; have c1 := Rd.blk (v := .slice B m bc) (k := 1) (by rfl) _ hw.rot; have c2 := Rd.blk (v := .int .i64 (a : Nat)) (k := 0) (by rfl) _ hw; have hy1 := HY.out hw.made_grew)
                | (go_at_call 59; refine (containsf2_c (w := w4) hm (by omega) (HR.out.grew hw.made_grew) c2 HA).mono ?_; rintro e w' ⟨rfl, rfl⟩))
              all_goals
                go_ret
                exact ⟨rfl, hw.made_grew⟩
/-- Nodes in memory. -/
structure NdV (w : World) (A : Option Addr) (xs : List RNode) : Prop where
  row : ∀ (i : Nat) (x : RNode), xs[i]? = some x → ∃ b o B bc, A = some ⟨b, o, none⟩ ∧ w.cell? ⟨b, o + i * 2, none⟩ = some (.int .i64 x.k) ∧ w.cell? ⟨b, o + i * 2 + 1, none⟩ = some (.slice B x.kids.length bc) ∧ KidsR w B x.kids ∧ x.kids.length ≤ 4000000000 ∧ (B = none → x.kids.length = 0 ∧ bc = 0)
theorem NdV.grew {w w' : World} {A : Option Addr} {xs : List RNode} (h : NdV w A xs) (hg : Grew w w') : NdV w' A xs :=
  ⟨fun i x hx => let ⟨b, o, B, bc, h1, h2, h3, h4, h5⟩ := h.row i x hx; ⟨b, o, B, bc, h1, hg.cell h2, hg.cell h3, h4.grew hg, h5⟩⟩
theorem nodesErr_drop {sets : Int} {xs : List RNode} {i : Nat} {x : RNode} (h : xs[i]? = some x) : nodesErr sets (xs.drop i) i = if nodeErr x i sets ≠ 0 then nodeErr x i sets else nodesErr sets (xs.drop (i + 1)) (i + 1) := by
  obtain ⟨hi, rfl⟩ := List.getElem?_eq_some_iff.1 h
  rw [List.drop_eq_getElem_cons hi]
  rfl
set_option maxHeartbeats 1000000 in
theorem chk_c {w : World} {A : Option Addr} {xs : List RNode} {n cap : Nat} (hn : Hid (xs.length = n)) (hm : n ≤ 4000000000) (hv : NdV w A xs) {sets v : Int} (hc : Hid (checkV xs sets = v)) :
    Calls Tryd.prog 51 #[.slice A n cap, .int .i64 sets] w fun e w' => e = .returned (.int .i64 v) ∧ Grew w w' := by
  have HV := Lib.hid hv
  rw [← hc.out]
  clear hv hc v
  have hE : checkV xs sets = if 1000 < n then 2 else nodesErr sets xs 0 := by unfold checkV; rw [hn.out]
  rw [hE]
  clear hE
  by_cases h1 : 1000 < n
  · rw [if_pos h1]
    have d1 : decide (1000 < (n : Int)) = true := decide_eq_true (by omega)
    clear h1
    go_enter Tryd.func51, Tryd.ntmps51
    go_wp2
    go_ret
    exact ⟨rfl, Grew.refl _⟩
  · rw [if_neg h1]
    have d1 : decide (1000 < (n : Int)) = false := decide_eq_false (by omega)
    clear h1
    go_enter Tryd.func51, Tryd.ntmps51
    go_wp2
    go_loopw [13] (fun cv wr => ∃ i : Nat, i ≤ n ∧ cv = .int .i64 (i : Nat) ∧ Hid (nodesErr sets xs 0 = nodesErr sets (xs.drop i) i) ∧ Grew w wr) (fun cv _ => n - (intOf cv).toNat)
    case atStart => exact ⟨0, Nat.zero_le _, rfl, rfl, Grew.refl _⟩
    case round =>
      obtain ⟨i, hi, rfl, HE, hg⟩ := hrel
      by_cases hlt : i < n
      · obtain ⟨x, hx⟩ : ∃ x, xs[i]? = some x := ⟨_, List.getElem?_eq_getElem (by rw [hn.out]; exact hlt)⟩
        have HD := Lib.hid (nodesErr_drop (sets := sets) hx)
        obtain ⟨b, o, B, bc, rfl, r1, r2, r3, r4, r5⟩ := HV.out.row i x hx
        replace r1 := hg.cell r1
        replace r2 := hg.cell r2
        have R3 := Lib.hid (r3.grew hg)
        obtain ⟨v, HN⟩ : ∃ v, Hid (nodeErr x i sets = v) := ⟨_, rfl⟩
        rw [HN.out] at HD
        clear hx r3 r5
        obtain ⟨m, HM⟩ : ∃ m, Hid (x.kids.length = m) := ⟨_, rfl⟩
        rw [HM.out] at r2 r4
        by_cases hv0 : v = 0
        · subst hv0
          have HE2 : Hid (nodesErr sets xs 0 = nodesErr sets (xs.drop (i + 1)) (i + 1)) := by rw [Hid, HE.out, HD.out]; rfl
          go_wp2_with (first
            | (go_at_call 68; refine (check_c (x := x) (B := B) HM r4 (R3.out.grew ((Grew.refl _).alloc _)) HN).mono ?_; rintro e w' ⟨rfl, hg2⟩; replace hg := hg.trans (((Grew.refl _).alloc _).trans hg2); clear hg2))
          go_roundw
          case rel => exact ⟨i + 1, by omega, by go_num, HE2, hg⟩
          case measure => simp [intOf] <;> omega
        · have HE2 : Hid (nodesErr sets xs 0 = v) := by rw [Hid, HE.out, HD.out, if_pos hv0]
          have hv1 : (v == 0) = false := by simp; exact hv0
          have hv2 : (v != 0) = true := by simp; exact hv0
          clear hv0
          go_wp2_with (first
            | (go_at_call 68; refine (check_c (x := x) (B := B) HM r4 (R3.out.grew ((Grew.refl _).alloc _)) HN).mono ?_; rintro e w' ⟨rfl, hg2⟩; replace hg := hg.trans (((Grew.refl _).alloc _).trans hg2); clear hg2))
          go_ret
          exact ⟨by rw [HE2.out]; rfl, hg⟩
      · have hin : i = n := by omega
        subst hin
        have h3 := HE.out
        rw [List.drop_of_length_le (by rw [hn.out]; exact Nat.le_refl _)] at h3
        replace h3 := Lib.hid h3
        go_wp2
        go_ret
        exact ⟨by rw [h3.out]; rfl, hg⟩
end Go.Proofs.YtpnjoeiohigjmaaDoor

/-
  Expressions (expr.Arena), 10: rows of nodes compared.
-/
set_option maxRecDepth 100000
namespace Go.Proofs.YtpnjoeiohigjmaaDoor
open Go Go.RowKit
attribute [local irreducible] wpList Calls Code.wp

theorem takeI_snoc {S1 S2 : List Int} {k : Nat} {x y : Int} (h : S1.take k = S2.take k) (hx : S1[k]? = some x) (hy : S2[k]? = some y) (e : x = y) : S1.take (k + 1) = S2.take (k + 1) := by
  obtain ⟨h1, e1⟩ := List.getElem?_eq_some_iff.1 hx
  obtain ⟨h2, e2⟩ := List.getElem?_eq_some_iff.1 hy
  rw [List.take_succ_eq_append_getElem h1, List.take_succ_eq_append_getElem h2, h, e1, e2, e]
theorem rsame_i {w : World} {S1 S2 : List Int} {A B : Option Addr} {n1 n2 c1 c2 : Nat} {b : Bool} (HL1 : Hid (S1.length = n1)) (HL2 : Hid (S2.length = n2)) (hm1 : n1 ≤ 4000000000) (hr1 : KidsR w A S1) (hr2 : KidsR w B S2) (hb : Hid (decide (S1 = S2) = b)) :
    Calls Tryd.prog 25 #[.slice A n1 c1, .slice B n2 c2] w fun e w' => e = .returned (.bool b) ∧ Grew w w' := by
  by_cases hne : n1 = n2
  · go_enter Tryd.func25, Tryd.ntmps25
    go_wp2
    go_loopw [5] (fun iv wr => ∃ k : Nat, k ≤ n1 ∧ iv = .int .i64 (k : Nat) ∧ Hid (S1.take k = S2.take k) ∧ Grew w wr) (fun iv _ => n1 - (intOf iv).toNat)
    case atStart => exact ⟨0, Nat.zero_le _, rfl, rfl, Grew.refl w⟩
    case round =>
      obtain ⟨k, hk, rfl, HT, hg⟩ := hrel
      by_cases hlt : k < n1
      · obtain ⟨x, hx⟩ : ∃ x, S1[k]? = some x := ⟨_, List.getElem?_eq_getElem (by rw [HL1.out]; omega)⟩
        obtain ⟨y, hy⟩ : ∃ y, S2[k]? = some y := ⟨_, List.getElem?_eq_getElem (by rw [HL2.out]; omega)⟩
        obtain ⟨p, o, rfl, hcx⟩ := hr1 k x hx
        obtain ⟨p', o', rfl, hcy⟩ := hr2 k y hy
        replace hcx := hg.cell hcx
        replace hcy := hg.cell hcy
        by_cases hxy : x = y
        · have HT2 := Lib.hid (takeI_snoc HT.out hx hy hxy)
          clear HT hx hy
          go_wp2
          refine wp_region_grow (by kernel_rfl) (by kernel_rfl) fun hne2 => ?_
          have g1 := fun p : GW wr => p.grew.cell hcx
          have g2 := fun p : GW wr => p.grew.cell hcy
          repeat (go_big_quiet_step (fail))
          refine wpQuiet_nil ?_
          clear hne2 g1 g2
          intro u hu
          go_wp2
          go_roundw
          case rel => exact ⟨k + 1, by omega, by go_num, HT2, hg.trans hu⟩
          case measure => simp [intOf] <;> omega
        · have HF : Hid (b = false) := by
            rw [Hid, ← hb.out]
            refine decide_eq_false fun e => ?_
            rw [e, hy] at hx
            exact absurd (Option.some.inj hx).symm hxy
          have hx1 : (x != y) = true := by simp; exact hxy
          have hx2 : (x == y) = false := by simp; exact hxy
          clear HT hx hy hxy
          go_wp2
          refine wp_region_grow (by kernel_rfl) (by kernel_rfl) fun hne2 => ?_
          have g1 := fun p : GW wr => p.grew.cell hcx
          have g2 := fun p : GW wr => p.grew.cell hcy
          repeat (go_big_quiet_step (fail))
          refine wpQuiet_nil ?_
          clear hne2 g1 g2
          intro u hu
          go_wp2
          go_ret
          exact ⟨by rw [HF.out]; rfl, hg.trans hu⟩
      · have HF : Hid (b = true) := by
          have e1 : S1.take k = S1 := List.take_of_length_le (by rw [HL1.out]; omega)
          have e2 : S2.take k = S2 := List.take_of_length_le (by rw [HL2.out]; omega)
          have := HT.out
          rw [e1, e2] at this
          rw [Hid, ← hb.out]
          exact decide_eq_true this
        clear HT
        go_wp2
        go_ret
        exact ⟨by rw [HF.out]; rfl, hg⟩
  · obtain rfl : b = false := by
      rw [← hb.out]
      exact decide_eq_false fun e => hne (by rw [← HL1.out, ← HL2.out, e])
    have n1' : ((n1 : Int) != (n2 : Int)) = true := by simp; omega
    have n2' : ((n1 : Int) == (n2 : Int)) = false := by simp; omega
    clear hne
    go_enter Tryd.func25, Tryd.ntmps25
    go_wp2
    go_ret
    exact ⟨rfl, Grew.refl w⟩
/-- Are rows of nodes the same? -/
def sameNd : List RNode → List RNode → Bool
  | [], [] => true
  | x :: xs, y :: ys => (decide (x.k = y.k) && decide (x.kids = y.kids)) && sameNd xs ys
  | _, _ => false
theorem sameNd_refl : ∀ xs, sameNd xs xs = true
  | [] => rfl
  | x :: xs => by
    show ((decide (x.k = x.k) && decide (x.kids = x.kids)) && sameNd xs xs) = true
    rw [decide_eq_true rfl, decide_eq_true rfl, sameNd_refl xs]
    rfl
theorem sameNd_len : ∀ {xs ys : List RNode}, xs.length ≠ ys.length → sameNd xs ys = false
  | [], [], h => absurd rfl h
  | [], _ :: _, _ => rfl
  | _ :: _, [], _ => rfl
  | x :: xs, y :: ys, h => by
    show ((decide (x.k = y.k) && decide (x.kids = y.kids)) && sameNd xs ys) = false
    rw [sameNd_len (fun e => h (by simp [e])), Bool.and_false]
theorem sameNd_at {xs ys : List RNode} {i : Nat} {x y : RNode} (hx : xs[i]? = some x) (hy : ys[i]? = some y) : sameNd (xs.drop i) (ys.drop i) = ((decide (x.k = y.k) && decide (x.kids = y.kids)) && sameNd (xs.drop (i + 1)) (ys.drop (i + 1))) := by
  obtain ⟨h1, rfl⟩ := List.getElem?_eq_some_iff.1 hx
  obtain ⟨h2, rfl⟩ := List.getElem?_eq_some_iff.1 hy
  rw [List.drop_eq_getElem_cons h1, List.drop_eq_getElem_cons h2]
  rfl
attribute [local irreducible] sameNd
end Go.Proofs.YtpnjoeiohigjmaaDoor

/-
  Expressions (expr.Arena), 11: Nodes.
-/
set_option maxRecDepth 100000
namespace Go.Proofs.YtpnjoeiohigjmaaDoor
open Go Go.RowKit
attribute [local irreducible] wpList Calls Code.wp

def toR (e : NodeE) : RNode := ⟨(e.k : Int), kI e⟩
theorem toR_len (e : NodeE) : (toR e).kids.length = e.kids.length := by unfold toR; exact kI_len e
/-- A row of nodes of one's own. -/
def NdsB (A : Option Addr) (cap : Nat) (l : List NodeE) : As := fun h => ∃ rs : List KR, rs.map KR.e = l ∧ big (YtpnjoeiohigjmaaDoor.own A l.length cap 63 2 (rs.flatMap krV) :: rs.map krA) h
theorem St.ndopen {w0 w : World} {A : Option Addr} {cap : Nat} {l : List NodeE} {L : List As} (hs : St w0 (NdsB A cap l :: L) w) : ∃ rs : List KR, rs.map KR.e = l ∧ St w0 (YtpnjoeiohigjmaaDoor.own A l.length cap 63 2 (rs.flatMap krV) :: (rs.map krA ++ L)) w := by
  obtain ⟨hb, x, r, hd, hx, y, z, hyz, e, ⟨rs, hrs, hh⟩, hz⟩ := hs
  refine ⟨rs, hrs, ?_⟩
  have h1 : St w0 (big (YtpnjoeiohigjmaaDoor.own A l.length cap 63 2 (rs.flatMap krV) :: rs.map krA) :: L) w := ⟨hb, x, r, hd, hx, y, z, hyz, e, hh, hz⟩
  exact h1.ent (Ent.flat _ L)
theorem Ent.ndshut {A : Option Addr} {n cap : Nat} {rs : List KR} {l : List NodeE} {L : List As} (hrs : rs.map KR.e = l) (hn : n = l.length) :
    Ent (YtpnjoeiohigjmaaDoor.own A n cap 63 2 (rs.flatMap krV) :: (rs.map krA ++ L)) (NdsB A cap l :: L) := by
  subst hn
  exact (Ent.unflat (YtpnjoeiohigjmaaDoor.own A l.length cap 63 2 (rs.flatMap krV) :: rs.map krA) L).trans (Ent.head fun _ h => ⟨rs, hrs, h⟩)
theorem Ent.ndgrow {A B : Option Addr} {n cap capB m k : Nat} {rs : List KR} {l : List NodeE} {e : NodeE} {L : List As} (hrs : rs.map KR.e = l) (hn : n = l.length + 1) (hk : e.k = k) (hm : e.kids.length = m) :
    Ent (YtpnjoeiohigjmaaDoor.own A n cap 63 2 (rs.flatMap krV ++ [.int .i64 (k : Nat), .slice B m capB]) :: YtpnjoeiohigjmaaDoor.own B m capB 3 1 (ints (kI e)) :: (rs.map krA ++ L)) (NdsB A cap (l ++ [e]) :: L) := by
  subst hk hm hn
  have e1 : YtpnjoeiohigjmaaDoor.own B e.kids.length capB 3 1 (ints (kI e)) = krA ⟨e, B, capB⟩ := rfl
  have e2 : rs.flatMap krV ++ [.int .i64 (e.k : Nat), .slice B e.kids.length capB] = (rs ++ [(⟨e, B, capB⟩ : KR)]).flatMap krV := by simp [krV]
  rw [e1, e2]
  have h3 := Ent.ndshut (A := A) (n := l.length + 1) (cap := cap) (rs := rs ++ [⟨e, B, capB⟩]) (l := l ++ [e]) (L := L) (by simp [hrs]) (by simp)
  refine Ent.trans (Ent.cons _ (Ent.push (krA ⟨e, B, capB⟩) (rs.map krA) L)) ?_
  simpa using h3
theorem St.ndview {w0 w : World} {A : Option Addr} {cap : Nat} {l : List NodeE} {L : List As} (hs : St w0 (NdsB A cap l :: L) w) (h64 : ∀ e ∈ l, e.kids.length ≤ 64) : NdV w A (l.map toR) := by
  obtain ⟨rs, hrs, hs⟩ := hs.ndopen
  refine ⟨fun i x hx => ?_⟩
  obtain ⟨r, hr, rfl⟩ : ∃ r, rs[i]? = some r ∧ toR r.e = x := by
    subst hrs
    rw [List.map_map, List.getElem?_map] at hx
    cases h : rs[i]? with
    | none => rw [h] at hx; cases hx
    | some r => rw [h] at hx; exact ⟨r, rfl, by simpa using hx⟩
  have hpos : 0 < l.length := by have := (List.getElem?_eq_some_iff.1 hx).1; rw [List.length_map] at this; omega
  obtain ⟨g, rfl⟩ := hs.own_at hpos
  have hk : (rs.map krA)[i]? = some (krA r) := by rw [List.getElem?_map, hr]; rfl
  obtain ⟨M', hp⟩ := Ent.pick (L := L) hk
  have h3 := hs.drop.ent hp
  have he : r.e ∈ l := by rw [← hrs]; exact List.mem_map.2 ⟨r, List.mem_of_getElem? hr, rfl⟩
  have hl := h64 r.e he
  refine ⟨g, 0, r.B, r.cap, rfl, ?_, ?_, fun j y hy => ?_, by rw [toR_len]; omega, fun hB => ?_⟩
  · rw [Nat.zero_add]; exact Rd.own (krs_get hr 0 _ rfl) _ hs
  · rw [Nat.zero_add, toR_len]; exact Rd.own (krs_get hr 1 _ rfl) _ hs
  · have hpos2 : 0 < r.e.kids.length := by have := (List.getElem?_eq_some_iff.1 hy).1; rw [toR_len] at this; omega
    obtain ⟨b, hb⟩ := St.own_at h3 hpos2
    refine ⟨b, 0, hb, ?_⟩
    unfold krA at h3
    rw [hb] at h3
    rw [Nat.zero_add]
    exact Rd.own (ints_get hy) _ h3
  · unfold krA at h3
    rw [hB] at h3
    obtain ⟨a, ⟨_, h⟩, _⟩ := St.heap h3
    rcases h with ⟨_, h1, h2, _⟩ | ⟨g, cur, h0, _⟩
    · exact ⟨by rw [toR_len]; exact h1, h2⟩
    · cases h0
theorem Ent.comm : ∀ (M L : List As), Ent (M ++ L) (L ++ M)
  | [], L => by rw [List.nil_append, List.append_nil]; exact Ent.refl _
  | p :: M, L => (Ent.cons p (Ent.comm M L)).trans (Ent.push p L M)
theorem St.ndopen2 {w0 w : World} {A : Option Addr} {cap : Nat} {l : List NodeE} {L : List As} (hs : St w0 (NdsB A cap l :: L) w) : ∃ rs : List KR, rs.map KR.e = l ∧ St w0 (YtpnjoeiohigjmaaDoor.own A l.length cap 63 2 (rs.flatMap krV) :: (L ++ rs.map krA)) w := by
  obtain ⟨rs, h1, h2⟩ := hs.ndopen
  exact ⟨rs, h1, h2.ent (Ent.cons _ (Ent.comm _ _))⟩
theorem size_nodeE : (Tryd.prog.info? 63).map (·.size) = some 2 := by kernel_rfl
theorem RdS.kids {w : World} {B : Option Addr} {kids : List Int} {L : List As} (h : KidsR w B kids) : RdS w L B (ints kids) := fun k u hu => by
  unfold ints at hu
  rw [List.getElem?_map] at hu
  cases hk : kids[k]? with
  | none => rw [hk] at hu; cases hu
  | some y =>
    rw [hk] at hu
    obtain ⟨b, o, rfl, hc⟩ := h k y hk
    simp at hu
    subst hu
    exact ⟨_, rfl, rfl, Rd.old hc⟩
theorem St.exnd {w0 w : World} {D : Nat} {l : List NodeE} {ss : List Value} {L : List As} (hs : St w0 (ExB D l ss :: L) w) (h64 : ∀ e ∈ l, e.kids.length ≤ 64) : ∃ N cap, w.cell? ⟨D, 0, none⟩ = some (.slice N l.length cap) ∧ NdV w N (l.map toR) := by
  obtain ⟨rs, N, cap, P, cap2, hrs, hs⟩ := hs.exopen
  obtain ⟨d0, _⟩ := exRd hs
  exact ⟨N, cap, d0, (hs.drop.rot.drop.ent (Ent.ndshut hrs rfl)).ndview h64⟩
theorem ArOk.kids64 {l : List NodeE} {m : Nat} (h : ArOk l m) : ∀ e ∈ l, e.kids.length ≤ 64 := fun e he => by
  obtain ⟨i, hi⟩ := List.mem_iff_getElem?.1 he
  exact (h.kind i e hi).2.2
theorem toR_get {l : List NodeE} {i : Nat} {x : NodeE} (h : l[i]? = some x) : (l.map toR)[i]? = some (toR x) := by rw [List.getElem?_map, h]; rfl
theorem take_snocE {l : List NodeE} {i : Nat} {x : NodeE} (h : l[i]? = some x) : l.take (i + 1) = l.take i ++ [x] := by
  obtain ⟨hi, rfl⟩ := List.getElem?_eq_some_iff.1 h
  exact List.take_succ_eq_append_getElem hi
end Go.Proofs.YtpnjoeiohigjmaaDoor

/-
  Expressions (expr.Arena), 12: Load.
-/
set_option maxRecDepth 100000
namespace Go.Proofs.YtpnjoeiohigjmaaDoor
open Go Go.RowKit
attribute [local irreducible] wpList Calls Code.wp

def toE (x : RNode) : NodeE := ⟨x.k.toNat, x.kids.map Int.toNat⟩
/-- What a node without fault is. -/
theorem nodeErr_ok {x : RNode} {i : Nat} {m : Nat} (h : nodeErr x i (m : Int) = 0) : 1 ≤ x.k ∧ x.k ≤ 5 ∧ x.kids.length ≤ 64 ∧ (x.k = 1 → ∃ s : Nat, x.kids = [(s : Int)] ∧ s < m) ∧ (x.k = 5 → x.kids.length = 1) ∧ (x.k ≠ 1 → ∀ y ∈ x.kids, 0 ≤ y ∧ y < i) := by
  unfold nodeErr at h
  split at h
  · cases h
  · rename_i h1
    have hl : (x.k = 1 ∨ x.k = 5) → x.kids.length = 1 := fun hk => Classical.byContradiction fun hn => h1 (.inr (.inr (.inr ⟨hk, hn⟩)))
    refine ⟨by omega, by omega, by omega, fun hk => ?_, fun hk => hl (.inr hk), fun hk => ?_⟩
    · rw [if_pos hk] at h
      obtain ⟨y, hy⟩ : ∃ y, x.kids = [y] := List.length_eq_one_iff.1 (hl (.inl hk))
      rw [hy] at h
      split at h
      · cases h
      · rename_i h2
        simp only [List.headD_cons] at h2
        obtain ⟨s, rfl⟩ := Int.eq_ofNat_of_zero_le (show 0 ≤ y by omega)
        exact ⟨s, hy, by omega⟩
    · rw [if_neg hk] at h
      split at h
      · cases h
      · rename_i h2
        intro y hy
        have h3 : x.kids.any (bad i) = false := by simpa using h2
        have := List.any_eq_false.1 h3 y hy
        simp [bad] at this
        omega
theorem nodesErr_all {m : Nat} : ∀ {xs : List RNode} {j : Nat}, nodesErr (m : Int) xs j = 0 → ∀ i x, xs[i]? = some x → nodeErr x (j + i) (m : Int) = 0
  | [], _, _, i, x, hx => by simp at hx
  | y :: xs, j, h, i, x, hx => by
    have h' : (if nodeErr y j (m : Int) ≠ 0 then nodeErr y j (m : Int) else nodesErr (m : Int) xs (j + 1)) = 0 := h
    split at h'
    · rename_i h1; exact absurd h' h1
    · rename_i h1
      cases i with
      | zero =>
        simp at hx
        subst hx
        exact Classical.byContradiction fun h2 => h1 h2
      | succ i =>
        have := nodesErr_all h' i x (by simpa using hx)
        rwa [show j + 1 + i = j + (i + 1) by omega] at this
theorem toR_toE {x : RNode} (h0 : 0 ≤ x.k) (h : ∀ y ∈ x.kids, 0 ≤ y) : toR (toE x) = x := by
  obtain ⟨k, kids⟩ := x
  unfold toR toE kI
  simp only
  rw [nat_ints h, Int.toNat_of_nonneg h0]
/-- Nodes without fault. -/
structure LoadOk (xs : List RNode) (m : Nat) : Prop where
  ok : ArOk (xs.map toE) m
  back : ∀ x ∈ xs, toR (toE x) = x
theorem checkV_ok {xs : List RNode} {m : Nat} (h : checkV xs (m : Int) = 0) : LoadOk xs m := by
  unfold checkV at h
  split at h
  · cases h
  · rename_i hl
    have hall := nodesErr_all h
    have hx : ∀ (i : Nat) (x : RNode), xs[i]? = some x → nodeErr x i (m : Int) = 0 := fun i x hx => by have := hall i x hx; rwa [Nat.zero_add] at this
    have hpos : ∀ (i : Nat) (x : RNode), xs[i]? = some x → ∀ y ∈ x.kids, 0 ≤ y := fun i x hi y hy => by
      obtain ⟨h1, h2, h3, h4, h5, h6⟩ := nodeErr_ok (hx i x hi)
      by_cases hk : x.k = 1
      · obtain ⟨s, hs, _⟩ := h4 hk
        rw [hs, List.mem_singleton] at hy
        omega
      · exact (h6 hk y hy).1
    have get : ∀ (i : Nat) (e : NodeE), (xs.map toE)[i]? = some e → ∃ x, xs[i]? = some x ∧ toE x = e := fun i e he => by
      rw [List.getElem?_map] at he
      cases hh : xs[i]? with
      | none => rw [hh] at he; cases he
      | some x => rw [hh] at he; exact ⟨x, rfl, by simpa using he⟩
    refine ⟨⟨by rw [List.length_map]; omega, fun i e he => ?_, fun i e he hk => ?_, fun i e he hk => ?_, fun i e he hk y hy => ?_⟩, fun x hxm => ?_⟩
    · obtain ⟨x, hi, rfl⟩ := get i e he
      obtain ⟨h1, h2, h3, _⟩ := nodeErr_ok (hx i x hi)
      refine ⟨?_, ?_, ?_⟩
      · show 1 ≤ x.k.toNat; omega
      · show x.k.toNat ≤ 5; omega
      · show (x.kids.map Int.toNat).length ≤ 64; rw [List.length_map]; exact h3
    · obtain ⟨x, hi, rfl⟩ := get i e he
      obtain ⟨h1, h2, h3, h4, _⟩ := nodeErr_ok (hx i x hi)
      have hk' : x.k.toNat = 1 := hk
      obtain ⟨s, h5, h6⟩ := h4 (by omega)
      refine ⟨s, ?_, h6⟩
      show x.kids.map Int.toNat = [s]
      rw [h5]
      rfl
    · obtain ⟨x, hi, rfl⟩ := get i e he
      obtain ⟨h1, h2, h3, h4, h5, _⟩ := nodeErr_ok (hx i x hi)
      have hk' : x.k.toNat = 5 := hk
      show (x.kids.map Int.toNat).length = 1
      rw [List.length_map]
      exact h5 (by omega)
    · obtain ⟨x, hi, rfl⟩ := get i e he
      obtain ⟨h1, h2, h3, h4, h5, h6⟩ := nodeErr_ok (hx i x hi)
      have hk' : ¬ x.k.toNat = 1 := hk
      obtain ⟨z, hz, rfl⟩ := List.mem_map.1 hy
      have := h6 (by omega) z hz
      omega
    · obtain ⟨i, hi⟩ := List.mem_iff_getElem?.1 hxm
      obtain ⟨h1, _⟩ := nodeErr_ok (hx i x hi)
      exact toR_toE (by omega) (hpos i x hi)
/-- Pointers in memory. -/
def PtrsR (w : World) (S : Option Addr) (ss : List Value) : Prop := ∀ (i : Nat) (v : Value), ss[i]? = some v → ∃ b o, S = some ⟨b, o, none⟩ ∧ w.cell? ⟨b, o + i, none⟩ = some v
theorem RdS.ptrs {w : World} {S : Option Addr} {ss : List Value} {L : List As} (h : PtrsR w S ss) : RdS w L S ss := fun k u hu => by
  obtain ⟨b, o, rfl, hc⟩ := h k u hu
  exact ⟨_, rfl, rfl, Rd.old hc⟩
attribute [local irreducible] checkV
set_option maxHeartbeats 1000000 in
theorem load_no {w : World} {A S : Option Addr} {xs : List RNode} {n cap m cap2 : Nat} (hn : Hid (xs.length = n)) (hm : n ≤ 4000000000) (hv : NdV w A xs) {v : Int} (hc : Hid (checkV xs (m : Int) = v)) (hne : v ≠ 0) :
    Calls Tryd.prog 32 #[.slice A n cap, .slice S m cap2] w fun e w' => e = .returned (.tuple #[.pointer none, .int .i64 v]) ∧ Grew w w' := by
  have hv1 : (v == 0) = false := by simp; exact hne
  have hv2 : (v != 0) = true := by simp; exact hne
  clear hne
  go_enter Tryd.func32, Tryd.ntmps32
  go_wp2_with (first
    | (go_at_call 51; refine (chk_c hn hm hv hc).mono ?_; rintro e w' ⟨rfl, hg⟩))
  go_ret2
  exact ⟨rfl, hg⟩
set_option maxHeartbeats 2000000 in
theorem load_c {w : World} {A S : Option Addr} {xs : List RNode} {ss : List Value} {n cap m cap2 : Nat} (hn : Hid (xs.length = n)) (hm : n ≤ 4000000000) (hv : NdV w A xs) (hc : Hid (checkV xs (m : Int) = 0)) (hp : PtrsR w S ss) (hss : Hid (ss.length = m)) (hm2 : m ≤ 1000000) (h1 : ∀ v ∈ ss, v.oneCell' = true) :
    Calls Tryd.prog 32 #[.slice A n cap, .slice S m cap2] w fun e w' => ∃ D, e = .returned (.tuple #[ptr D, .int .i64 0]) ∧ St w [ExB D (xs.map toE) ss] w' := by
  have HV := Lib.hid hv
  have hw := St.start w
  have HL := Lib.hid (checkV_ok hc.out)
  have hfew : n ≤ 1000 := by have := HL.out.ok.few; rw [List.length_map, hn.out] at this; exact this
  go_enter Tryd.func32, Tryd.ntmps32
  go_wp2_with (first
    | (go_at_call 51; refine (chk_c hn hm hv hc).mono ?_; rintro e w' ⟨rfl, hg⟩; replace hw := hw.grew hg; clear hg hv)
    | (go_at_call 10; refine (exnew_c hw).mono ?_; clear hw; rintro e w' ⟨D, rfl, hw⟩; obtain ⟨rs, N, capN, P, capP, hrs, hw⟩ := hw.exopen; obtain rfl : rs = [] := List.map_eq_nil_iff.1 hrs; clear hrs; obtain ⟨d0, d1⟩ := exRd hw)
    | (refine wpl_append (A := P) (n := 0) (m := m) (news := ss) elemP rfl rfl hw (Ent.skip (Ent.skip (Ent.refl _))) (RdS.ptrs hp) (by rw [hss.out, Nat.mul_one]) h1 (by unfold maxLen; omega) (by omega) ?_; clear hw; intro P2 capP2 w2 hw; rw [Nat.zero_add, List.nil_append] at hw)
    | (refine wpl_store (v := .slice P2 m capP2) rfl rfl rfl size_slP hw.rot (Wr.blk (by simp [exC])) ?_; clear hw; intro w2 hw))
  have hs : St w [ExB D ((xs.take 0).map toE) ss] w2 := by
    replace hw : St w (YtpnjoeiohigjmaaDoor.blk D (exC N P2 0 capN m capP2).toArray 73 :: own P2 m capP2 38 1 ss :: own N 0 capN 63 2 [] :: []) w2 := hw
    have := Ent.exshut (D := D) (n := 0) (m := m) (cap := capN) (cap2 := capP2) (N := N) (P := P2) (rs := []) (l := []) (ss := ss) (L := []) rfl rfl hss.out.symm
    exact (hw.up2.rot).ent this
  clear hw d0 d1
  go_loopw [29] (fun cv wr => ∃ i : Nat, i ≤ n ∧ cv = .int .i64 (i : Nat) ∧ St w [ExB D ((xs.take i).map toE) ss] wr) (fun cv _ => n - (intOf cv).toNat)
  case atStart => exact ⟨0, Nat.zero_le _, rfl, hs⟩
  case round =>
    clear hs
    obtain ⟨i, hi, rfl, hs⟩ := hrel
    by_cases hlt : i < n
    · obtain ⟨x, hx⟩ : ∃ x, xs[i]? = some x := ⟨_, List.getElem?_eq_getElem (by rw [hn.out]; exact hlt)⟩
      obtain ⟨g, o, B, bc, rfl, x1, x2, x3, x4, x5⟩ := HV.out.row i x hx
      have hb := HL.out.back x (List.mem_of_getElem? hx)
      have HT : Hid ((xs.take (i + 1)).map toE = (xs.take i).map toE ++ [toE x]) := by
        obtain ⟨hi', rfl⟩ := List.getElem?_eq_some_iff.1 hx
        rw [Hid, List.take_succ_eq_append_getElem hi', List.map_append]
        rfl
      have HLi : Hid (((xs.take i).map toE).length = i) := by rw [Hid, List.length_map, List.length_take, hn.out]; omega
      have HX3 := Lib.hid x3
      have HB := Lib.hid x5
      have hk64 := HL.out.ok.kids64 (toE x) (List.mem_map.2 ⟨x, List.mem_of_getElem? hx, rfl⟩)
      have hkn : (x.k.toNat : Int) = x.k := by have := congrArg RNode.k hb; exact this
      have HNa : Hid ((x.kids.map Int.toNat).map Int.ofNat = x.kids) := by have := congrArg RNode.kids hb; exact this
      obtain ⟨mk, HMK⟩ : ∃ m, Hid (x.kids.length = m) := ⟨_, rfl⟩
      have hxm : mk ≤ 64 := by rw [← HMK.out, ← List.length_map (f := Int.toNat)]; exact hk64
      obtain ⟨k, HK⟩ : ∃ k, Hid (x.k.toNat = k) := ⟨_, rfl⟩
      rw [← hkn, HK.out] at x1
      rw [HMK.out] at x2
      replace x1 := hs.made_grew.cell x1
      replace x2 := hs.made_grew.cell x2
      have HE : Hid (toE x = ⟨k, x.kids.map Int.toNat⟩) := by rw [Hid, ← HK.out]; rfl
      clear x3 x5 x4 hx hb hkn hk64
      go_upto_region 9 with (fail)
      have hw := (St.start wr).alloc #[.int .i64 (k : Nat), .slice B mk bc] 63
      generalize wr.heap.size = g9 at hw ⊢
      refine wp_gen hw ?_
      clear hw x1 x2
      intro w1 hw
      have hs2 := hs.made hw
      clear hw hs
      obtain ⟨rs, N2, capN2, P3, capP3, hrs, hs2⟩ := hs2.rot.exopen
      rw [HLi.out, hss.out] at hs2
      have HRs := Lib.hid hrs
      clear hrs
      replace hs2 := (hs2.ent (Ent.cons _ (Ent.cons _ (Ent.cons _ (Ent.comm (rs.map krA) _))))).up3
      have hsN := hs2.only2
      refine wp_region_plain [false, false, false, false, false, false, false, false, false, true, true, true, true, false, false, true] hsN (by kernel_rfl) (by kernel_rfl) fun hne => ?_
      have e0 := (Rd.blk (w0 := w) (g := g9) (k := 0) (cs := #[.int .i64 (k : Nat), .slice B mk bc]) (v := .int .i64 (k : Nat)) (t := 63) (L := [YtpnjoeiohigjmaaDoor.blk D (exC N2 P3 i capN2 m capP3).toArray 73]) (by rfl)).alln
      have e1 := (Rd.blk (w0 := w) (g := g9) (k := 1) (cs := #[.int .i64 (k : Nat), .slice B mk bc]) (v := .slice B mk bc) (t := 63) (L := [YtpnjoeiohigjmaaDoor.blk D (exC N2 P3 i capN2 m capP3).toArray 73]) (by rfl)).alln
      have e2 := (Rd.blk (w0 := w) (g := D) (k := 0) (cs := (exC N2 P3 i capN2 m capP3).toArray) (v := .slice N2 i capN2) (t := 73) (L := []) (by rfl)).tail (p := YtpnjoeiohigjmaaDoor.blk g9 #[.int .i64 (k : Nat), .slice B mk bc] 63) |>.alln
      simp only [pickOps]
      repeat (go_big_quiet_step (fail))
      refine wpQuiet_nil ?_
      clear hne e0 e1 e2
      simp only [chainIx]
      replace hs2 := hs2.drew
      clear hsN
      refine wpChainP_next rfl ?_
      go_wp2_with (first
        | (go_at_call 52; refine (clone_c (fun h => ⟨by have := (HB.out h).1; rw [HMK.out] at this; exact this, (HB.out h).2⟩) HMK.out (by omega) hs2 (RdS.kids HX3.out)).mono ?_; clear hs2; rintro e w' ⟨Bn, capB, rfl, hs2⟩))
      refine ⟨(hs2.ent (Ent.step (Ent.skip (Ent.refl _)) (Ent.step (Ent.skip (Ent.refl _)) (Ent.refl _)))).only2, ?_⟩
      refine wpChainP_next rfl ?_
      refine wpl_buildS (build_nodeE _ _ _ _) rfl ?_
      refine wpList_nil ⟨rfl, (hs2.ent (Ent.step (Ent.skip (Ent.refl _)) (Ent.step (Ent.skip (Ent.refl _)) (Ent.refl _)))).only2, ?_⟩
      refine wpChainP_next rfl ?_
      refine wpl_build1 (v := .agg #[.int .i64 (k : Nat), .slice Bn mk capB]) elemN (by decide) rfl rfl hs2 ?_
      clear hs2
      intro gb w2 hs2
      replace hs2 : St w (YtpnjoeiohigjmaaDoor.blk gb #[.int .i64 (k : Nat), .slice Bn mk capB] 63 :: _) w2 := hs2
      refine wpList_nil ⟨rfl, (hs2.ent (Ent.step (Ent.skip (Ent.skip (Ent.refl _))) (Ent.step (Ent.skip (Ent.skip (Ent.refl _))) (Ent.refl _)))).only2, ?_⟩
      refine wpChainP_next rfl ?_
      refine wpl_append (A := N2) (B := some ⟨gb, 0, none⟩) (n := i) (m := 1) (news := [.int .i64 (k : Nat), .slice Bn mk capB]) elemN rfl rfl hs2 (Ent.skip (Ent.skip (Ent.skip (Ent.skip (Ent.refl _))))) RdS.blk rfl (by intro u hu; simp at hu; rcases hu with rfl | rfl <;> rfl) (by unfold maxLen; omega) (by omega) ?_
      clear hs2
      intro N3 capN3 w3 hs2
      refine wpList_nil ⟨rfl, (hs2.ent (Ent.step (Ent.skip (Ent.skip (Ent.skip (Ent.refl _)))) (Ent.step (Ent.skip (Ent.skip (Ent.skip (Ent.refl _)))) (Ent.refl _)))).only2, ?_⟩
      refine wpChain_last rfl ?_
      replace hs2 := hs2.up4
      refine wpl_store (v := .slice N3 (i + 1) capN3) rfl rfl rfl size_slN hs2 (Wr.blk (by simp [exC])) ?_
      clear hs2
      intro w4 hs2
      replace hs2 : St w (YtpnjoeiohigjmaaDoor.blk D (exC N3 P3 (i + 1) capN3 m capP3).toArray 73 :: _) w4 := hs2
      refine wpList_nil ⟨rfl, ?_⟩
      replace hs2 := hs2.up2.drop.up3.drop
      have hs3 : St w [ExB D ((xs.take (i + 1)).map toE) ss] w4 := by
        rw [HT.out, HE.out]
        refine ex_grown (N := N3) (P := P3) (capN := capN3) (capP := capP3) (B := Bn) (capB := capB) (m := mk) (rs := rs) HRs.out HNa.out HMK ?_
        rw [HLi.out, hss.out, List.append_nil]
        exact hs2.up2.rot
      simp only [Act.put, List.setIfInBounds_toArray, List.set_cons_succ, List.set_cons_zero]
      go_wp2
      go_roundw
      case rel => exact ⟨i + 1, by omega, by go_num, hs3⟩
      case measure => simp [intOf] <;> omega
    · have hin : i = n := by omega
      subst hin
      have hT : xs.take i = xs := List.take_of_length_le (by rw [hn.out]; exact Nat.le_refl _)
      rw [hT] at hs
      clear hT
      go_wp2
      go_ret2
      exact ⟨D, rfl, hs⟩
end Go.Proofs.YtpnjoeiohigjmaaDoor

/-
  The document's Check of nodes.
-/
set_option maxRecDepth 100000
namespace Go.Proofs.YtpnjoeiohigjmaaDoor
open Go Go.RowKit
attribute [local irreducible] wpList Calls Code.wp nodeErr checkV

end Go.Proofs.YtpnjoeiohigjmaaDoor

/-
  Arguments that are slices of slices, and of nodes.
-/
set_option maxRecDepth 100000
namespace Go.Proofs.YtpnjoeiohigjmaaDoor
open Go Go.RowKit Go.ChangeShapes Go.WideShapes Go.Deep

/-- A slice of ints in a cell. -/
structure IRow where
  zs : List Int
  B : Option Addr
  bc : Nat
def encI (r : IRow) : List Value := [.slice r.B r.zs.length r.bc]
structure QI (w : World) (r : IRow) : Prop where
  le : r.zs.length ≤ r.bc
  bound : r.bc ≤ maxLen
  kids : KidsR w r.B r.zs
  nil : r.B = none → r.zs.length = 0 ∧ r.bc = 0
  fit : ∀ z ∈ r.zs, -9223372036854775808 ≤ z ∧ z ≤ 9223372036854775807
theorem goodI {H : Type} {enc : TypeId × Value → H} {w : World} (n : Nat) (cs : List Value) (y : DataW H × List MemPlace) (h : DataW.trod enc Tryd.prog w 0 (fun _ => true) true n 29 cs = some y) : ∃ x, cs = encI x ∧ QI w x := by
  rcases open_ints Tryd.underlying29 Tryd.underlying3 (by kernel_rfl) h with ⟨hcs, _⟩ | ⟨a, len, cap, zs, hcs, _, hlc, hcm, hz, _, hcell, hw⟩
  · exact ⟨⟨[], none, 0⟩, hcs, Nat.le_refl _, Nat.zero_le _, (fun j y h => by simp at h), (fun _ => ⟨rfl, rfl⟩), (fun z h => nomatch h)⟩
  · simp at hz
    have hl : (zs.take len).length = len := by rw [List.length_take]; omega
    refine ⟨⟨zs.take len, some a, cap⟩, by rw [hcs]; unfold encI; simp only [hl], by simp only [hl]; exact hlc, hcm, fun j y hy => ?_, (fun h => nomatch h), (fun z hm => bounds_i64 (hw z (List.mem_of_mem_take hm)))⟩
    obtain ⟨hj, e⟩ := List.getElem?_eq_some_iff.1 hy
    simp only [hl] at hj
    obtain ⟨b, o, rfl, hp2⟩ := ints_at hcell (by omega)
    refine ⟨b, o, rfl, ?_⟩
    rw [hp2 j (by omega)]
    simp only [List.getElem_take] at e
    rw [← e, List.getD_eq_getElem?_getD, List.getElem?_eq_getElem (by omega)]
    rfl
/-- A node in its cells. -/
structure NRow where
  x : RNode
  B : Option Addr
  bc : Nat
def encN (r : NRow) : List Value := [.int .i64 r.x.k, .slice r.B r.x.kids.length r.bc]
structure QN (w : World) (r : NRow) : Prop where
  row : QI w ⟨r.x.kids, r.B, r.bc⟩
  fit : -9223372036854775808 ≤ r.x.k ∧ r.x.k ≤ 9223372036854775807
theorem list_two {cs : List Value} (h : cs.length = 2) : ∃ a b, cs = [a, b] := by
  match cs, h with
  | [a, b], _ => exact ⟨a, b, rfl⟩
theorem goodN {H : Type} {enc : TypeId × Value → H} {w : World} (n : Nat) (cs : List Value) (y : DataW H × List MemPlace) (h : DataW.trod enc Tryd.prog w 0 (fun _ => true) true n 63 cs = some y) : ∃ x, cs = encN x ∧ QN w x := by
  obtain ⟨y0, y1, m, _, hl, h0, h1⟩ := Go.ChangeShapes.trod_struct2 Tryd.underlying63 h
  obtain ⟨a, b, rfl⟩ := list_two (hl.trans (by kernel_rfl))
  obtain ⟨n0, e0, hw0⟩ := DataW.trod_int Tryd.underlying3 h0
  obtain ⟨r, e1, hq⟩ := goodI _ _ _ h1
  rw [show Tryd.prog.cellsOf 3 = 1 by kernel_rfl] at e0
  rw [show Tryd.prog.cellsOf 29 = 1 by kernel_rfl] at e1
  simp at e0
  simp [encI] at e1
  subst e0; subst e1
  exact ⟨⟨⟨n0, r.zs⟩, r.B, r.bc⟩, rfl, hq, bounds_i64 hw0.2⟩
/-- Nodes that came as an argument. -/
theorem rows_ndv {w : World} {v : Value} {rs : List NRow} (h : RowsArg encN (QN w) w v rs) : ∃ A cap, v = .slice A rs.length cap ∧ rs.length ≤ cap ∧ cap ≤ maxLen ∧
    ∀ (i : Nat) (r : NRow), rs[i]? = some r → QN w r ∧ ∃ b o, A = some ⟨b, o, none⟩ ∧ w.cell? ⟨b, o + i * 2, none⟩ = some (.int .i64 r.x.k) ∧ w.cell? ⟨b, o + i * 2 + 1, none⟩ = some (.slice r.B r.x.kids.length r.bc) := by
  obtain ⟨A, cap, rfl, h1, h2, h3, h4⟩ := h
  refine ⟨A, cap, rfl, h1, h2, fun i r hr => ⟨h4 r (List.mem_of_getElem? hr), ?_⟩⟩
  have g0 := flat_get (f := encN) (p := 2) (fun _ => rfl) hr 0 _ rfl
  have g1 := flat_get (f := encN) (p := 2) (fun _ => rfl) hr 1 _ rfl
  obtain ⟨⟨b, o, s⟩, rfl, hs, c0⟩ := h3 _ _ g0
  obtain ⟨ad, e, _, c1⟩ := h3 _ _ g1
  injection e with e
  subst e
  simp only at hs
  subst hs
  refine ⟨b, o, rfl, c0 w (St.start w), ?_⟩
  have := c1 w (St.start w)
  rw [← Nat.add_assoc] at this
  exact this
theorem nd_short {w : World} {A : Option Addr} {rs : List NRow} (h : ∀ (i : Nat) (r : NRow), rs[i]? = some r → QN w r ∧ ∃ b o, A = some ⟨b, o, none⟩ ∧ w.cell? ⟨b, o + i * 2, none⟩ = some (.int .i64 r.x.k) ∧ w.cell? ⟨b, o + i * 2 + 1, none⟩ = some (.slice r.B r.x.kids.length r.bc))
    (hs : ∀ r ∈ rs, r.x.kids.length ≤ 80) : NdV w A (rs.map NRow.x) := ⟨fun i x hx => by
  rw [List.getElem?_map] at hx
  cases hr : rs[i]? with
  | none => rw [hr] at hx; cases hx
  | some r =>
    rw [hr] at hx
    have hx : r.x = x := by simpa using hx
    subst hx
    obtain ⟨hq, b, o, rfl, c0, c1⟩ := h i r hr
    have := hs r (List.mem_of_getElem? hr)
    exact ⟨b, o, r.B, r.bc, rfl, c0, c1, hq.row.kids, by omega, hq.row.nil⟩⟩
end Go.Proofs.YtpnjoeiohigjmaaDoor

/-
  The statements' Few and Sets.
-/
set_option maxRecDepth 100000
namespace Go.Proofs.YtpnjoeiohigjmaaDoor
open Go Go.RowKit
attribute [local irreducible] wpList Calls Code.wp

/-- Rows of ints in memory. -/
structure RowsV (w : World) (A : Option Addr) (rs : List IRow) : Prop where
  row : ∀ (i : Nat) (r : IRow), rs[i]? = some r → ∃ b o, A = some ⟨b, o, none⟩ ∧ w.cell? ⟨b, o + i, none⟩ = some (.slice r.B r.zs.length r.bc) ∧ KidsR w r.B r.zs ∧ r.zs.length ≤ 9223372036854775807
theorem RowsV.grew {w w' : World} {A : Option Addr} {rs : List IRow} (h : RowsV w A rs) (hg : Grew w w') : RowsV w' A rs :=
  ⟨fun i r hr => let ⟨b, o, h1, h2, h3, h4⟩ := h.row i r hr; ⟨b, o, h1, hg.cell h2, h3.grew hg, h4⟩⟩
theorem rows_v {w : World} {v : Value} {rs : List IRow} (h : RowsArg encI (QI w) w v rs) : ∃ A cap, v = .slice A rs.length cap ∧ rs.length ≤ cap ∧ cap ≤ maxLen ∧ RowsV w A rs := by
  obtain ⟨A, cap, rfl, h1, h2, h3, h4⟩ := h
  refine ⟨A, cap, rfl, h1, h2, ⟨fun i r hr => ?_⟩⟩
  have g0 := flat_get (f := encI) (p := 1) (fun _ => rfl) hr 0 _ rfl
  rw [Nat.mul_one, Nat.add_zero] at g0
  obtain ⟨b, o, rfl, c0⟩ := h3.get g0
  have hq := h4 r (List.mem_of_getElem? hr)
  exact ⟨b, o, rfl, c0 w (St.start w), hq.kids, by have := hq.le; have := hq.bound; unfold maxLen at this; omega⟩
def fewB (rs : List IRow) : Bool := rs.all (fun r => decide (r.zs.length ≤ 40)) && decide (rs.length ≤ 10)
theorem few_take {rs : List IRow} {i : Nat} {r : IRow} (h : (rs.take i).all (fun r => decide (r.zs.length ≤ 40)) = true) (hr : rs[i]? = some r) (hl : r.zs.length ≤ 40) : (rs.take (i + 1)).all (fun r => decide (r.zs.length ≤ 40)) = true := by
  obtain ⟨hi, rfl⟩ := List.getElem?_eq_some_iff.1 hr
  rw [List.take_succ_eq_append_getElem hi, List.all_append, h]
  simp [hl]
theorem few_bad {rs : List IRow} {i : Nat} {r : IRow} (hr : rs[i]? = some r) (hl : ¬ r.zs.length ≤ 40) : fewB rs = false := by
  unfold fewB
  have : rs.all (fun r => decide (r.zs.length ≤ 40)) = false := by
    rw [List.all_eq_false]
    exact ⟨r, List.mem_of_getElem? hr, by simpa using hl⟩
  rw [this, Bool.false_and]
theorem few_c {w : World} {A : Option Addr} {rs : List IRow} {n cap : Nat} (hn : Hid (rs.length = n)) (hm : n ≤ 9223372036854775807) (hv : RowsV w A rs) {b : Bool} (hb : Hid (fewB rs = b)) :
    Calls Tryd.prog 29 #[.slice A n cap] w fun e w' => e = .returned (.bool b) ∧ Grew w w' := by
  have HV := Lib.hid hv
  rw [← hb.out]
  clear hv hb b
  obtain ⟨fb, HF⟩ : ∃ b, Hid (fewB rs = b) := ⟨_, rfl⟩
  rw [HF.out]
  go_enter Tryd.func29, Tryd.ntmps29
  go_wp2
  go_loopw [3] (fun cv wr => ∃ i : Nat, i ≤ n ∧ cv = .int .i64 (i : Nat) ∧ Hid ((rs.take i).all (fun r => decide (r.zs.length ≤ 40)) = true) ∧ Grew w wr) (fun cv _ => n - (intOf cv).toNat)
  case atStart => exact ⟨0, Nat.zero_le _, rfl, rfl, Grew.refl _⟩
  case round =>
    obtain ⟨i, hi, rfl, HT, hg⟩ := hrel
    by_cases hlt : i < n
    · obtain ⟨r, hr⟩ : ∃ r, rs[i]? = some r := ⟨_, List.getElem?_eq_getElem (by rw [hn.out]; exact hlt)⟩
      obtain ⟨b, o, rfl, c0, _, hl⟩ := HV.out.row i r hr
      replace c0 := hg.cell c0
      obtain ⟨k, HK⟩ : ∃ k, Hid (r.zs.length = k) := ⟨_, rfl⟩
      rw [HK.out] at c0 hl
      by_cases h40 : 40 < k
      · have d : decide (40 < (k : Int)) = true := decide_eq_true (by omega)
        have HB : Hid (fb = false) := by rw [Hid, ← HF.out, few_bad hr (by rw [HK.out]; omega)]
        clear h40 hr
        go_wp2
        go_ret
        exact ⟨by rw [HB.out]; rfl, hg⟩
      · have d : decide (40 < (k : Int)) = false := decide_eq_false (by omega)
        have HT2 := Lib.hid (few_take HT.out hr (by rw [HK.out]; omega))
        clear h40 hr
        go_wp2
        go_roundw
        case rel => exact ⟨i + 1, by omega, by go_num, HT2, hg⟩
        case measure => simp [intOf] <;> omega
    · have hin : i = n := by omega
      subst hin
      have hB : fb = decide (i ≤ 10) := by
        rw [← HF.out]
        unfold fewB
        have h := HT.out
        rw [List.take_of_length_le (by rw [hn.out]; exact Nat.le_refl _)] at h
        rw [h, Bool.true_and, hn.out]
      by_cases h10 : i ≤ 10
      · rw [decide_eq_true h10] at hB
        have d : decide ((i : Int) ≤ 10) = true := decide_eq_true (by omega)
        replace hB := Lib.hid hB
        clear h10
        go_wp2
        go_ret
        exact ⟨by rw [hB.out]; rfl, hg⟩
      · rw [decide_eq_false h10] at hB
        have d : decide ((i : Int) ≤ 10) = false := decide_eq_false (by omega)
        replace hB := Lib.hid hB
        clear h10
        go_wp2
        go_ret
        exact ⟨by rw [hB.out]; rfl, hg⟩
/-- A set, and its numbers as a row. -/
structure KS where
  T : Nat
  S : List Nat
  R : Option Addr
  rc : Nat
def ksA (k : KS) : As := star (HSet k.T k.S) (YtpnjoeiohigjmaaDoor.own k.R k.S.length k.rc 3 1 (intv k.S))
def ksV (k : KS) : Value := .slice k.R k.S.length k.rc
def SrB (B : Option Addr) (c : Nat) (C : Option Addr) (c2 : Nat) (ks : List KS) : As := fun h =>
  big (YtpnjoeiohigjmaaDoor.own B ks.length c 38 1 (ks.map fun k => ptr k.T) :: YtpnjoeiohigjmaaDoor.own C ks.length c2 29 1 (ks.map ksV) :: ks.map ksA) h
theorem St.sropen {w0 w : World} {B C : Option Addr} {c c2 : Nat} {ks : List KS} {L : List As} (hs : St w0 (SrB B c C c2 ks :: L) w) :
    St w0 (YtpnjoeiohigjmaaDoor.own B ks.length c 38 1 (ks.map fun k => ptr k.T) :: YtpnjoeiohigjmaaDoor.own C ks.length c2 29 1 (ks.map ksV) :: (ks.map ksA ++ L)) w :=
  (show St w0 (big (YtpnjoeiohigjmaaDoor.own B ks.length c 38 1 (ks.map fun k => ptr k.T) :: YtpnjoeiohigjmaaDoor.own C ks.length c2 29 1 (ks.map ksV) :: ks.map ksA) :: L) w from hs).ent (Ent.flat _ L)
theorem Ent.srshut {B C : Option Addr} {c c2 n : Nat} {ks : List KS} {L : List As} (hn : n = ks.length) :
    Ent (YtpnjoeiohigjmaaDoor.own B n c 38 1 (ks.map fun k => ptr k.T) :: YtpnjoeiohigjmaaDoor.own C n c2 29 1 (ks.map ksV) :: (ks.map ksA ++ L)) (SrB B c C c2 ks :: L) := by
  subst hn
  exact Ent.unflat (YtpnjoeiohigjmaaDoor.own B ks.length c 38 1 (ks.map fun k => ptr k.T) :: YtpnjoeiohigjmaaDoor.own C ks.length c2 29 1 (ks.map ksV) :: ks.map ksA) L
structure KsOk (ks : List KS) : Prop where
  sorted : ∀ k ∈ ks, k.S.Pairwise (· < ·)
  small : ∀ k ∈ ks, ∀ a ∈ k.S, a < 16777216
  few : ∀ k ∈ ks, k.S.length ≤ 40
theorem KsOk.snoc {ks : List KS} {k : KS} {zs : List Int} (h : KsOk ks) (hz : zs.length ≤ 40) (hk : k.S = setS zs) : KsOk (ks ++ [k]) := by
  refine ⟨fun x hx => ?_, fun x hx => ?_, fun x hx => ?_⟩ <;> rcases List.mem_append.1 hx with h1 | h1
  · exact h.sorted x h1
  · rw [List.mem_singleton.1 h1, hk]; exact setS_sorted zs
  · exact h.small x h1
  · rw [List.mem_singleton.1 h1, hk]; exact setS_lt zs
  · exact h.few x h1
  · rw [List.mem_singleton.1 h1, hk]; have := setS_len zs; omega
theorem elemSS : ElemOk Tryd.prog 49 29 1 24 := ElemOk.of Tryd.underlying49 (z := .slice none 0 0) (by kernel_rfl) rfl (by decide)
theorem kidsR_nat {w : World} {A : Option Addr} {S : List Nat} (h : KidsR w A (natI S)) : RdS w [] A (intv S) := by
  have e : intv S = ints (natI S) := by
    unfold intv ints natI
    rw [List.map_map]
    rfl
  rw [e]
  exact RdS.kids h
attribute [local irreducible] setS
set_option maxHeartbeats 1000000 in
theorem sets_c {w : World} {A : Option Addr} {rs : List IRow} {n cap : Nat} (hn : Hid (rs.length = n)) (hv : RowsV w A rs) (hf : ∀ r ∈ rs, r.zs.length ≤ 40) :
    Calls Tryd.prog 30 #[.slice A n cap] w fun e w' => ∃ B c C c2 ks m, e = .returned (.tuple #[.slice B m c, .slice C m c2]) ∧ Hid (ks.length = m) ∧ m ≤ 6 ∧ KsOk ks ∧ St w [SrB B c C c2 ks] w' := by
  have HV := Lib.hid hv
  have HFw := Lib.hid hf
  have hs : St w [SrB none 0 none 0 []] w := (((St.start w).own_nil 29 1).own_nil 38 1).ent (Ent.srshut (ks := []) (L := []) rfl)
  clear hv hf
  go_enter Tryd.func30, Tryd.ntmps30
  go_wp2
  go_loopw [4, 5, 6] (fun bv cv iv wr => ∃ (i : Nat) (B : Option Addr) (c : Nat) (C : Option Addr) (c2 : Nat) (ks : List KS), i ≤ n ∧ i ≤ 6 ∧ bv = .slice B i c ∧ cv = .slice C i c2 ∧ iv = .int .i64 (i : Nat) ∧ Hid (ks.length = i) ∧ KsOk ks ∧ St w [SrB B c C c2 ks] wr) (fun _ _ iv _ => n - (intOf iv).toNat)
  case atStart => exact ⟨0, none, 0, none, 0, [], Nat.zero_le _, Nat.zero_le _, rfl, rfl, rfl, rfl, ⟨(fun k hk => nomatch hk), (fun k hk => nomatch hk), (fun k hk => nomatch hk)⟩, hs⟩
  case round =>
    clear hs
    obtain ⟨i, B, c, C, c2, ks, hi, hi6, rfl, rfl, rfl, HKl, HKo, hs⟩ := hrel
    by_cases hlt : i < n ∧ i < 6
    · obtain ⟨hlt, hlt6⟩ := hlt
      obtain ⟨r, hr⟩ : ∃ r, rs[i]? = some r := ⟨_, List.getElem?_eq_getElem (by rw [hn.out]; exact hlt)⟩
      obtain ⟨b, o, rfl, c0, hkR, _⟩ := HV.out.row i r hr
      have h40 := HFw.out r (List.mem_of_getElem? hr)
      have HR := Lib.hid hkR
      obtain ⟨k, HK⟩ : ∃ k, Hid (r.zs.length = k) := ⟨_, rfl⟩
      rw [HK.out] at c0 h40
      have HC := Lib.hid c0
      replace c0 := hs.made_grew.cell c0
      obtain ⟨S, HS⟩ : ∃ S, Hid (setS r.zs = S) := ⟨_, rfl⟩
      have hSl : S.length ≤ 40 := by rw [← HS.out]; have := setS_len r.zs; rw [HK.out] at this; omega
      have HKo2 : ∀ (T : Nat) (R : Option Addr) (rc : Nat), KsOk (ks ++ [⟨T, S, R, rc⟩]) := fun T R rc => HKo.snoc (zs := r.zs) (by rw [HK.out]; exact h40) HS.out.symm
      replace HKo2 := Lib.hid HKo2
      replace hs := hs.sropen
      rw [HKl.out] at hs
      clear hr hkR HKo
      go_wp2_with (first
        | (go_at_call 19; refine (new_v (n := k) hs (RdS.kids HR.out) HK (by unfold maxLen; omega) HS).mono ?_; clear hs c0; rintro e w' ⟨T1, rfl, hs⟩; have c0 := hs.made_grew.cell HC.out)
        | (refine wpl_build1 (v := ptr T1) elemP (by decide) rfl rfl hs ?_; clear hs c0; intro gp w3 hs)
        | (refine wpl_append (A := B) (B := some ⟨gp, 0, none⟩) (m := 1) (news := [ptr T1]) elemP rfl rfl hs (Ent.skip (Ent.skip (Ent.refl _))) RdS.blk rfl (by intro u hu; simp at hu; subst hu; rfl) (by unfold maxLen; omega) (by omega) ?_; clear hs; intro B2 cB2 w4 hs; replace hs := hs.rot.drop; have c0 := hs.made_grew.cell HC.out)
        | (go_at_call 23; refine (rset_c (n := k) hs (RdS.kids HR.out) HK.out (by omega) HS).mono ?_; clear hs c0; rintro e w' ⟨R1, rc1, rfl, hs⟩)
        | (refine wpl_build1 (v := .slice R1 S.length rc1) elemSS (by decide) rfl rfl hs ?_; clear hs; intro gs w5 hs)
        | (refine wpl_append (A := C) (B := some ⟨gs, 0, none⟩) (m := 1) (news := [.slice R1 S.length rc1]) elemSS rfl rfl hs (Ent.skip (Ent.skip (Ent.skip (Ent.skip (Ent.refl _))))) RdS.blk rfl (by intro u hu; simp at hu; subst hu; rfl) (by unfold maxLen; omega) (by omega) ?_; clear hs; intro C2 cC2 w6 hs; replace hs := hs.rot.drop))
      have hs2 : St w [SrB B2 cB2 C2 cC2 (ks ++ [⟨T1, S, R1, rc1⟩])] w6 := by
        have h1 := (hs.up2.ent (Ent.cons _ (Ent.cons _ (Ent.swap _ _ _)))).ent (Ent.cons _ (Ent.cons _ (Ent.shut2 (p := ksA ⟨T1, S, R1, rc1⟩) (fun _ h => h))))
        have h2 := h1.ent (Ent.cons _ (Ent.cons _ (Ent.push (ksA ⟨T1, S, R1, rc1⟩) (ks.map ksA) [])))
        have h3 := Ent.srshut (B := B2) (C := C2) (c := cB2) (c2 := cC2) (n := i + 1) (ks := ks ++ [⟨T1, S, R1, rc1⟩]) (L := []) (by rw [List.length_append, HKl.out]; rfl)
        simp only [List.map_append, List.map_cons, List.map_nil, List.append_assoc, List.cons_append, List.nil_append] at h3
        exact h2.ent h3
      go_roundw
      case rel => exact ⟨i + 1, B2, cB2, C2, cC2, _, by omega, by omega, rfl, rfl, by go_num, by rw [Hid, List.length_append, HKl.out]; rfl, HKo2.out T1 R1 rc1, hs2⟩
      case measure => simp [intOf] <;> omega
    · have hg : (decide ((i : Int) < (n : Int)) && decide ((i : Int) < 6)) = false := by
        rw [Bool.and_eq_false_iff]
        simp only [decide_eq_false_iff_not]
        omega
      have HKo' := Lib.hid HKo
      clear HKo
      by_cases h6 : i < n
      · have d1 : decide (i < n) = true := decide_eq_true h6
        have d2 : decide ((i : Int) < 6) = false := decide_eq_false (by omega)
        clear hlt h6 hg
        go_wp2
        go_ret2
        exact ⟨B, c, C, c2, ks, i, rfl, HKl, hi6, HKo'.out, hs⟩
      · have d1 : decide (i < n) = false := decide_eq_false h6
        clear hlt h6 hg
        go_wp2
        go_ret2
        exact ⟨B, c, C, c2, ks, i, rfl, HKl, hi6, HKo'.out, hs⟩
end Go.Proofs.YtpnjoeiohigjmaaDoor

/-
  The statements' Tame.
-/
set_option maxRecDepth 100000
namespace Go.Proofs.YtpnjoeiohigjmaaDoor
open Go Go.RowKit
attribute [local irreducible] wpList Calls Code.wp

theorem nodesErr_zero {m : Nat} : ∀ {l : List NodeE} {j : Nat}, (∀ (i : Nat) (x : NodeE), l[i]? = some x → nodeErr (toR x) (j + i) (m : Int) = 0) → nodesErr (m : Int) (l.map toR) j = 0
  | [], _, _ => rfl
  | x :: l, j, h => by
    have h0 := h 0 x rfl
    rw [Nat.add_zero] at h0
    show (if nodeErr (toR x) j (m : Int) ≠ 0 then nodeErr (toR x) j (m : Int) else nodesErr (m : Int) (l.map toR) (j + 1)) = 0
    rw [if_neg (fun h => h h0)]
    exact nodesErr_zero fun i y hy => by
      have := h (i + 1) y (by simpa using hy)
      rwa [show j + (i + 1) = j + 1 + i by omega] at this
theorem ArOk.noErr {l : List NodeE} {m : Nat} (h : ArOk l m) {i : Nat} {x : NodeE} (hx : l[i]? = some x) : nodeErr (toR x) i (m : Int) = 0 := by
  obtain ⟨k1, k5, k64⟩ := h.kind i x hx
  have hk : (toR x).k = (x.k : Int) := rfl
  have hkl : (toR x).kids.length = x.kids.length := toR_len x
  have hone : x.k = 1 → x.kids.length = 1 := fun h1 => by obtain ⟨s, hs, _⟩ := h.set i x hx h1; rw [hs]; rfl
  have h5 := h.not i x hx
  unfold nodeErr
  rw [hk, hkl, if_neg (by
    rintro (h' | h' | h' | ⟨h' | h', hn⟩)
    · omega
    · omega
    · omega
    · exact hn (hone (by omega))
    · exact hn (h5 (by omega)))]
  by_cases h1 : x.k = 1
  · obtain ⟨s, hs, hsm⟩ := h.set i x hx h1
    have e : (toR x).kids = [(s : Int)] := by unfold toR kI; simp only; rw [hs]; rfl
    rw [if_pos (by omega), e, if_neg (by simp only [List.headD_cons]; omega)]
  · rw [if_neg (by omega)]
    have : (toR x).kids.any (bad i) = false := by
      rw [List.any_eq_false]
      intro y hy
      unfold toR kI at hy
      obtain ⟨z, hz, rfl⟩ := List.mem_map.1 hy
      have := h.low i x hx h1 z hz
      simp [bad]
      omega
    rw [this]
    rfl
theorem ArOk.check {l : List NodeE} {m : Nat} (h : ArOk l m) : checkV (l.map toR) (m : Int) = 0 := by
  unfold checkV
  rw [List.length_map, if_neg (by have := h.few; omega)]
  exact nodesErr_zero fun i x hx => by rw [Nat.zero_add]; exact h.noErr hx
theorem addset_m {l : List NodeE} {m s : Nat} (h : ArOk l m) (hl : l.length < 1000) (hs : s < m) : ArOk (l ++ [⟨1, [s]⟩]) m :=
  h.snoc hl (Nat.le_refl m) ⟨Nat.le_refl 1, by show 1 ≤ 5; decide, by show 1 ≤ 64; decide⟩ (fun _ => ⟨s, rfl, hs⟩) (fun h => absurd h (by decide : (1 : Nat) ≠ 5)) (fun h => absurd rfl h)
theorem addop_m {l : List NodeE} {m k : Nat} {kids : List Nat} (h : ArOk l m) (hl : l.length < 1000) (hk : 2 ≤ k ∧ k ≤ 5) (h64 : kids.length ≤ 64) (h5 : k = 5 → kids.length = 1) (hlow : ∀ y ∈ kids, y < l.length) : ArOk (l ++ [⟨k, kids⟩]) m :=
  h.snoc hl (Nat.le_refl m) ⟨by show 1 ≤ k; omega, by show k ≤ 5; omega, h64⟩ (fun h1 => absurd h1 (by show ¬ k = 1; omega)) h5 (fun _ => hlow)
theorem blk_own {g n : Nat} {cs : List Value} {t : TypeId} (hn : cs.length = n) (hm : n ≤ maxLen) : ∀ h, blk g cs.toArray t h → own (some ⟨g, 0, none⟩) n n t 1 cs h := fun h hb => by
  subst hn
  exact ⟨by simp, .inr ⟨g, cs.toArray, rfl, Nat.le_refl _, hm, by simp, by simp, hb⟩⟩
theorem kid_at (x p : Nat) {q : Nat} (hq : 0 < q) : ∃ y : Nat, y < q ∧ ((x : Int) / 2 ^ (4 + 4 * p)).tmod (q : Int) = (y : Int) := by
  refine ⟨x / 2 ^ (4 + 4 * p) % q, Nat.mod_lt _ hq, ?_⟩
  have e : (x : Int) / 2 ^ (4 + 4 * p) = ((x / 2 ^ (4 + 4 * p) : Nat) : Int) := by push_cast; rfl
  rw [e, Int.ofNat_tmod]
theorem nd_add {w0 w : World} {L : List As} {B E : Option Addr} {q c kc p k : Nat} {l : List NodeE} {kl : List Nat} {rs : List KR} (hrs : rs.map KR.e = l) (hl : l.length = q) (hk : kl.length = p)
    (hs : St w0 (own B (q + 1) c 63 2 (rs.flatMap krV ++ [.int .i64 (k : Nat), .slice E p kc]) :: own E p kc 3 1 (ints (natI kl)) :: (rs.map krA ++ L)) w) : St w0 (NdsB B c (l ++ [⟨k, kl⟩]) :: L) w :=
  hs.ent (Ent.ndgrow (e := ⟨k, kl⟩) hrs (by rw [hl]) rfl hk)
set_option maxHeartbeats 1000000 in
theorem tame_c {w : World} {A : Option Addr} {zs : List Int} {n cap m : Nat} (hn : Hid (zs.length = n)) (hm : m ≤ 6) (hr : KidsR w A zs) :
    Calls Tryd.prog 31 #[.slice A n cap, .int .i64 (m : Nat)] w fun e w' => ∃ B c l q, e = .returned (.slice B q c) ∧ Hid (l.length = q) ∧ ArOk l m ∧ l.length ≤ 18 ∧ St w [NdsB B c l] w' := by
  have HR := Lib.hid hr
  have hs : St w [NdsB none 0 []] w := ((St.start w).own_nil 63 2).ent (Ent.ndshut (rs := []) (L := []) rfl rfl)
  clear hr
  go_enter Tryd.func31, Tryd.ntmps31
  go_wp2
  go_loopw [5, 6] (fun ov cv wr => ∃ (i : Nat) (B : Option Addr) (c : Nat) (l : List NodeE), i ≤ m ∧ ov = .slice B i c ∧ cv = .int .i64 (i : Nat) ∧ Hid (l.length = i) ∧ ArOk l m ∧ St w [NdsB B c l] wr) (fun _ cv _ => m - (intOf cv).toNat)
  case atStart => exact ⟨0, none, 0, [], Nat.zero_le _, rfl, rfl, rfl, ArOk.nil m, hs⟩
  case round =>
    clear hs
    obtain ⟨i, B, c, l, hi, rfl, rfl, HLl, hok, hs⟩ := hrel
    by_cases hlt : i < m
    · have hok2 := Lib.hid (addset_m hok (by rw [HLl.out]; omega) hlt)
      clear hok
      obtain ⟨rs, hrs, hs⟩ := hs.ndopen2
      have HRs := Lib.hid hrs
      rw [HLl.out] at hs
      clear hrs
      go_wp2_with (first
        | (refine wpl_build1 (v := .int .i64 (i : Nat)) elem24 (by decide) rfl rfl hs ?_; clear hs; intro gk w3 hs)
        | (refine wpl_buildS (build_nodeE _ _ _ _) rfl ?_)
        | (refine wpl_build1 (v := .agg #[.int .i64 1, .slice (some ⟨gk, 0, none⟩) 1 1]) elemN (by decide) rfl rfl hs ?_; clear hs; intro gb w3 hs; replace hs : St w (YtpnjoeiohigjmaaDoor.blk gb #[.int .i64 1, .slice (some ⟨gk, 0, none⟩) 1 1] 63 :: _) w3 := hs)
        | (refine wpl_append (A := B) (B := some ⟨gb, 0, none⟩) (n := i) (m := 1) (news := [.int .i64 1, .slice (some ⟨gk, 0, none⟩) 1 1]) elemN rfl rfl hs (Ent.skip (Ent.skip (Ent.refl _))) RdS.blk rfl (by intro u hu; simp at hu; rcases hu with rfl | rfl <;> rfl) (by unfold maxLen; omega) (by omega) ?_; clear hs; intro B2 c2 w3 hs; replace hs := hs.rot.drop))
      have hs2 : St w [NdsB B2 c2 (l ++ [⟨1, [i]⟩])] w3 := by
        replace hs : St w (own B2 (i + 1) c2 63 2 (rs.flatMap krV ++ [.int .i64 ((1 : Nat) : Int), .slice (some ⟨gk, 0, none⟩) 1 1]) :: YtpnjoeiohigjmaaDoor.blk gk [Value.int .i64 (i : Nat)].toArray 3 :: rs.map krA) w3 := hs
        have h1 := hs.rot.conv (blk_own (n := 1) rfl (by decide))
        replace h1 : St w (own B2 (i + 1) c2 63 2 (rs.flatMap krV ++ [.int .i64 ((1 : Nat) : Int), .slice (some ⟨gk, 0, none⟩) 1 1]) :: own (some ⟨gk, 0, none⟩) 1 1 3 1 (ints (kI ⟨1, [i]⟩)) :: (rs.map krA ++ [])) w3 := by
          rw [List.append_nil]; exact h1.rot
        exact h1.ent (Ent.ndgrow HRs.out (by rw [HLl.out]) rfl rfl)
      go_roundw
      case rel => exact ⟨i + 1, B2, c2, l ++ [⟨1, [i]⟩], by omega, rfl, by go_num, by rw [Hid, List.length_append, HLl.out]; rfl, hok2.out, hs2⟩
      case measure => simp [intOf] <;> omega
    · have him : i = m := by omega
      subst him
      go_wp2
      clear hlt
      go_loopw [5, 7] (fun ov cv wr => ∃ (j q : Nat) (B : Option Addr) (c : Nat) (l : List NodeE), j ≤ n ∧ q ≤ i + j ∧ ov = .slice B q c ∧ cv = .int .i64 (j : Nat) ∧ Hid (l.length = q) ∧ j ≤ 12 ∧ ArOk l i ∧ St w [NdsB B c l] wr) (fun _ cv _ => n - (intOf cv).toNat)
      case atStart => exact ⟨0, i, B, c, l, Nat.zero_le _, by omega, rfl, rfl, HLl, by omega, hok, hs⟩
      case round =>
        clear hs hok HLl
        obtain ⟨j, q, B, c, l, hj, hq, rfl, rfl, HLl, hj12, hok, hs⟩ := hrel
        by_cases hlt : j < n ∧ j < 12
        · obtain ⟨hlt, hlt12⟩ := hlt
          obtain ⟨z, hz⟩ : ∃ z, zs[j]? = some z := ⟨_, List.getElem?_eq_getElem (by rw [hn.out]; exact hlt)⟩
          obtain ⟨b, o, rfl, c0⟩ := HR.out j z hz
          replace c0 := hs.made_grew.cell c0
          have d12 : decide ((j : Int) < 12) = true := decide_eq_true (by omega)
          have hand := and_ffffff z
          have hx24 := kk24_lt z
          generalize kk24 z = x at hand hx24
          obtain ⟨K, hK⟩ : ∃ K : Nat, 2 + (x : Int) % 4 = (K : Int) := ⟨2 + x % 4, by omega⟩
          obtain ⟨N3, hN3, hN⟩ := mask_small ((x : Int) / 4) 2 (by decide)
          replace hN : bits .and .i64 ((x : Int) / 4) 3 = (N3 : Nat) := hN
          replace hN3 : N3 < 4 := hN3
          have hK2 : 2 ≤ K ∧ K ≤ 5 := by omega
          have HO := Lib.hid hok
          clear hz hok
          by_cases hK5 : K = 5
          · subst hK5
            replace hs := hs.own_nil 3 1
            go_wp2
            clear c0 hN hand hK
            go_loopw [10, 12] (fun kv cv wr => ∃ (p : Nat) (E : Option Addr) (kc : Nat) (kl : List Nat), p ≤ 1 ∧ kv = .slice E p kc ∧ cv = .int .i64 (p : Nat) ∧ Hid (kl.length = p) ∧ Hid (∀ y ∈ kl, y < q) ∧ St w [own E p kc 3 1 (ints (natI kl)), NdsB B c l] wr) (fun _ cv _ => 1 - (intOf cv).toNat)
            case atStart => exact ⟨0, none, 0, [], Nat.zero_le _, rfl, rfl, rfl, (fun y hy => nomatch hy), hs⟩
            case round =>
              clear hs
              obtain ⟨p, E, kc, kl, hp, rfl, rfl, HKl, HKq, hs⟩ := hrel
              by_cases hp1 : p < 1 ∧ 0 < q
              · obtain ⟨hp1, hq0⟩ := hp1
                obtain ⟨y, hyq, hy⟩ := kid_at x p hq0
                have hy0 : ∀ v ∈ kl ++ [y], v < q := fun v hv => by
                  rcases List.mem_append.1 hv with h | h
                  · exact HKq.out v h
                  · rw [List.mem_singleton.1 h]; exact hyq
                replace hy0 := Lib.hid hy0
                go_wp2_with (first
                  | (refine wpl_build1 (v := .int .i64 (y : Nat)) elem24 (by decide) rfl rfl hs ?_; clear hs; intro gk w3 hs)
                  | (refine wpl_append (A := E) (B := some ⟨gk, 0, none⟩) (m := 1) (news := [.int .i64 (y : Nat)]) elem24 rfl rfl hs (Ent.skip (Ent.refl _)) RdS.blk rfl (ints_one' [(y : Int)]) (by unfold maxLen; omega) (by omega) ?_; clear hs; intro E2 kc2 w4 hs; rw [natI_snoc] at hs; replace hs := hs.rot.drop))
                go_roundw
                case rel => first
                  | exact ⟨p + 1, E2, kc2, kl ++ [y], by omega, rfl, by go_num, by rw [Hid, List.length_append, HKl.out]; rfl, hy0.out, hs⟩
                  | ((repeat apply Exists.intro); refine ⟨?_, rfl⟩; exact ⟨p + 1, E2, kc2, kl ++ [y], by omega, rfl, by go_num, by rw [Hid, List.length_append, HKl.out]; rfl, hy0.out, hs⟩)
                case measure => simp [intOf] <;> omega
              · by_cases hp0 : p = 0
                · have hq0 : q = 0 := by omega
                  subst hp0 hq0
                  clear hp1
                  go_wp2
                  go_roundw
                  case rel => exact ⟨j + 1, 0, B, c, l, by omega, by omega, rfl, by go_num, HLl, by omega, HO.out, hs.rot.only⟩
                  case measure => simp [intOf] <;> omega
                · obtain rfl : p = 1 := by omega
                  have hok2 := Lib.hid (addop_m HO.out (k := 5) (kids := kl) (by rw [HLl.out]; omega) (by decide) (by rw [HKl.out]; decide) (fun _ => HKl.out) (by rw [HLl.out]; exact HKq.out))
                  clear hp1 hp0
                  obtain ⟨rs, hrs, hs⟩ := hs.rot.ndopen2
                  have HRs := Lib.hid hrs
                  rw [HLl.out] at hs
                  clear hrs
                  go_wp2_with (first
                    | (refine wpl_buildS (build_nodeE _ _ _ _) rfl ?_)
                    | (refine wpl_build1 (v := .agg #[.int .i64 (5 : Nat), .slice E 1 kc]) elemN (by decide) rfl rfl hs ?_; clear hs; intro gb w3 hs; replace hs : St w (YtpnjoeiohigjmaaDoor.blk gb #[.int .i64 (5 : Nat), .slice E 1 kc] 63 :: _) w3 := hs)
                    | (refine wpl_append (A := B) (B := some ⟨gb, 0, none⟩) (n := q) (m := 1) (news := [.int .i64 (5 : Nat), .slice E 1 kc]) elemN rfl rfl hs (Ent.skip (Ent.refl _)) RdS.blk rfl (by intro u hu; simp at hu; rcases hu with rfl | rfl <;> rfl) (by unfold maxLen; omega) (by omega) ?_; clear hs; intro B2 c2 w3 hs; replace hs := hs.rot.drop))
                  have hs2 : St w [NdsB B2 c2 (l ++ [⟨5, kl⟩])] w3 := nd_add HRs.out HLl.out HKl.out (by rw [List.append_nil]; exact hs)
                  go_roundw
                  case rel => exact ⟨j + 1, q + 1, B2, c2, l ++ [⟨5, kl⟩], by omega, by omega, rfl, by go_num, by rw [Hid, List.length_append, HLl.out]; rfl, by omega, hok2.out, hs2⟩
                  case measure => simp [intOf] <;> omega
          · have hk5 : ((K : Int) == 5) = false := by simp; omega
            have hk5n : ((K : Int) != 5) = true := by simp; omega
            replace hs := hs.own_nil 3 1
            go_wp2
            clear c0 hN hand hK
            go_loopw [10, 12] (fun kv cv wr => ∃ (p : Nat) (E : Option Addr) (kc : Nat) (kl : List Nat), p ≤ N3 ∧ kv = .slice E p kc ∧ cv = .int .i64 (p : Nat) ∧ Hid (kl.length = p) ∧ Hid (∀ y ∈ kl, y < q) ∧ St w [own E p kc 3 1 (ints (natI kl)), NdsB B c l] wr) (fun _ cv _ => N3 - (intOf cv).toNat)
            case atStart => exact ⟨0, none, 0, [], Nat.zero_le _, rfl, rfl, rfl, (fun y hy => nomatch hy), hs⟩
            case round =>
              clear hs
              obtain ⟨p, E, kc, kl, hp, rfl, rfl, HKl, HKq, hs⟩ := hrel
              by_cases hp1 : p < N3 ∧ 0 < q
              · obtain ⟨hp1, hq0⟩ := hp1
                obtain ⟨y, hyq, hy⟩ := kid_at x p hq0
                have hy0 : ∀ v ∈ kl ++ [y], v < q := fun v hv => by
                  rcases List.mem_append.1 hv with h | h
                  · exact HKq.out v h
                  · rw [List.mem_singleton.1 h]; exact hyq
                replace hy0 := Lib.hid hy0
                go_wp2_with (first
                  | (refine wpl_build1 (v := .int .i64 (y : Nat)) elem24 (by decide) rfl rfl hs ?_; clear hs; intro gk w3 hs)
                  | (refine wpl_append (A := E) (B := some ⟨gk, 0, none⟩) (m := 1) (news := [.int .i64 (y : Nat)]) elem24 rfl rfl hs (Ent.skip (Ent.refl _)) RdS.blk rfl (ints_one' [(y : Int)]) (by unfold maxLen; omega) (by omega) ?_; clear hs; intro E2 kc2 w4 hs; rw [natI_snoc] at hs; replace hs := hs.rot.drop))
                go_roundw
                case rel => first
                  | exact ⟨p + 1, E2, kc2, kl ++ [y], by omega, rfl, by go_num, by rw [Hid, List.length_append, HKl.out]; rfl, hy0.out, hs⟩
                  | ((repeat apply Exists.intro); refine ⟨?_, rfl⟩; exact ⟨p + 1, E2, kc2, kl ++ [y], by omega, rfl, by go_num, by rw [Hid, List.length_append, HKl.out]; rfl, hy0.out, hs⟩)
                case measure => simp [intOf] <;> omega
              · have hok2 := Lib.hid (addop_m HO.out (k := K) (kids := kl) (by rw [HLl.out]; omega) hK2 (by rw [HKl.out]; omega) (fun h => absurd h hK5) (by rw [HLl.out]; exact HKq.out))
                by_cases hp0 : p < N3
                · have hq0 : q = 0 := by omega
                  have hqd : decide ((0 : Int) < (q : Int)) = false := decide_eq_false (by omega)
                  have hqd2 : decide (0 < q) = false := decide_eq_false (by omega)
                  clear hp1 hq0
                  obtain ⟨rs, hrs, hs⟩ := hs.rot.ndopen2
                  have HRs := Lib.hid hrs
                  rw [HLl.out] at hs
                  clear hrs
                  go_wp2_with (first
                    | (refine wpl_buildS (build_nodeE _ _ _ _) rfl ?_)
                    | (refine wpl_build1 (v := .agg #[.int .i64 (K : Nat), .slice E p kc]) elemN (by decide) rfl rfl hs ?_; clear hs; intro gb w3 hs; replace hs : St w (YtpnjoeiohigjmaaDoor.blk gb #[.int .i64 (K : Nat), .slice E p kc] 63 :: _) w3 := hs)
                    | (refine wpl_append (A := B) (B := some ⟨gb, 0, none⟩) (n := q) (m := 1) (news := [.int .i64 (K : Nat), .slice E p kc]) elemN rfl rfl hs (Ent.skip (Ent.refl _)) RdS.blk rfl (by intro u hu; simp at hu; rcases hu with rfl | rfl <;> rfl) (by unfold maxLen; omega) (by omega) ?_; clear hs; intro B2 c2 w3 hs; replace hs := hs.rot.drop))
                  have hs2 : St w [NdsB B2 c2 (l ++ [⟨K, kl⟩])] w3 := nd_add HRs.out HLl.out HKl.out (by rw [List.append_nil]; exact hs)
                  go_roundw
                  case rel => exact ⟨j + 1, q + 1, B2, c2, l ++ [⟨K, kl⟩], by omega, by omega, rfl, by go_num, by rw [Hid, List.length_append, HLl.out]; rfl, by omega, hok2.out, hs2⟩
                  case measure => simp [intOf] <;> omega
                · clear hp1
                  obtain ⟨rs, hrs, hs⟩ := hs.rot.ndopen2
                  have HRs := Lib.hid hrs
                  rw [HLl.out] at hs
                  clear hrs
                  go_wp2_with (first
                    | (refine wpl_buildS (build_nodeE _ _ _ _) rfl ?_)
                    | (refine wpl_build1 (v := .agg #[.int .i64 (K : Nat), .slice E p kc]) elemN (by decide) rfl rfl hs ?_; clear hs; intro gb w3 hs; replace hs : St w (YtpnjoeiohigjmaaDoor.blk gb #[.int .i64 (K : Nat), .slice E p kc] 63 :: _) w3 := hs)
                    | (refine wpl_append (A := B) (B := some ⟨gb, 0, none⟩) (n := q) (m := 1) (news := [.int .i64 (K : Nat), .slice E p kc]) elemN rfl rfl hs (Ent.skip (Ent.refl _)) RdS.blk rfl (by intro u hu; simp at hu; rcases hu with rfl | rfl <;> rfl) (by unfold maxLen; omega) (by omega) ?_; clear hs; intro B2 c2 w3 hs; replace hs := hs.rot.drop))
                  have hs2 : St w [NdsB B2 c2 (l ++ [⟨K, kl⟩])] w3 := nd_add HRs.out HLl.out HKl.out (by rw [List.append_nil]; exact hs)
                  go_roundw
                  case rel => exact ⟨j + 1, q + 1, B2, c2, l ++ [⟨K, kl⟩], by omega, by omega, rfl, by go_num, by rw [Hid, List.length_append, HLl.out]; rfl, by omega, hok2.out, hs2⟩
                  case measure => simp [intOf] <;> omega
        · by_cases h6 : j < n
          · have d1 : decide (j < n) = true := decide_eq_true h6
            have d2 : decide ((j : Int) < 12) = false := decide_eq_false (by omega)
            have HO := Lib.hid hok
            have hl18 : l.length ≤ 18 := by rw [HLl.out]; omega
            clear hlt h6 hok
            go_wp2
            go_ret
            exact ⟨B, c, l, q, rfl, HLl, HO.out, hl18, hs⟩
          · have d1 : decide (j < n) = false := decide_eq_false h6
            have HO := Lib.hid hok
            have hl18 : l.length ≤ 18 := by rw [HLl.out]; omega
            clear hlt h6 hok
            go_wp2
            go_ret
            exact ⟨B, c, l, q, rfl, HLl, HO.out, hl18, hs⟩
end Go.Proofs.YtpnjoeiohigjmaaDoor

/-
  ExprChecks: the walk.
-/
set_option maxRecDepth 100000
namespace Go.Proofs.YtpnjoeiohigjmaaDoor
open Go Go.RowKit
attribute [local irreducible] wpList Calls Code.wp

theorem PtrsR.own {w0 w : World} {B : Option Addr} {n cap : Nat} {e : TypeId} {ss : List Value} {L : List As} (hs : St w0 (own B n cap e 1 ss :: L) w) : PtrsR w B ss := fun i v hv => by
  obtain ⟨b, o, rfl, hc⟩ := (RdS.own hs).get hv
  exact ⟨b, o, rfl, hc _ hs⟩
theorem load_back {xs : List RNode} {m : Nat} (h : checkV xs (m : Int) = 0) : (xs.map toE).map toR = xs := by
  have := (checkV_ok h).back
  rw [List.map_map]
  conv => rhs; rw [← List.map_id xs]
  exact List.map_congr_left fun x hx => this x hx
theorem take_all {α : Type} {rs : List α} {i : Nat} {r : α} {p : α → Prop} (h : ∀ x ∈ rs.take i, p x) (hr : rs[i]? = some r) (hp : p r) : ∀ x ∈ rs.take (i + 1), p x := by
  obtain ⟨hi, rfl⟩ := List.getElem?_eq_some_iff.1 hr
  rw [List.take_succ_eq_append_getElem hi]
  intro x hx
  rcases List.mem_append.1 hx with h1 | h1
  · exact h x h1
  · rw [List.mem_singleton.1 h1]; exact hp
attribute [local irreducible] checkV sameNd setS
end Go.Proofs.YtpnjoeiohigjmaaDoor

/-
  ExprLoads: the walk.
-/
set_option maxRecDepth 100000
namespace Go.Proofs.YtpnjoeiohigjmaaDoor
open Go Go.RowKit
attribute [local irreducible] wpList Calls Code.wp

theorem toE_toR (e : NodeE) : toE (toR e) = e := by
  obtain ⟨k, kids⟩ := e
  unfold toE toR kI
  simp only [Int.toNat_natCast, List.map_map]
  congr 1
  conv => rhs; rw [← List.map_id kids]
  exact List.map_congr_left fun x _ => by simp
theorem maps_back (l : List NodeE) : (l.map toR).map toE = l := by
  rw [List.map_map]
  conv => rhs; rw [← List.map_id l]
  exact List.map_congr_left fun x _ => toE_toR x
/-- What the sets' rows say. -/
def ksS (ks : List KS) (s : Nat) : List Nat := (ks.map KS.S).getD s []
structure KsV (w : World) (B C : Option Addr) (ks : List KS) : Prop where
  ptrs : PtrsR w B (ks.map fun k => ptr k.T)
  sets : SetsOk w (ks.map fun k => ptr k.T) (ksS ks)
  row : ∀ (i : Nat) (k : KS), ks[i]? = some k → ∃ b o, C = some ⟨b, o, none⟩ ∧ w.cell? ⟨b, o + i, none⟩ = some (.slice k.R k.S.length k.rc) ∧ KidsR w k.R (natI k.S)
theorem KsV.grew {w w' : World} {B C : Option Addr} {ks : List KS} (h : KsV w B C ks) (hg : Grew w w') : KsV w' B C ks :=
  ⟨fun i v hv => let ⟨b, o, h1, h2⟩ := h.ptrs i v hv; ⟨b, o, h1, hg.cell h2⟩, h.sets.grew hg, fun i k hk => let ⟨b, o, h1, h2, h3⟩ := h.row i k hk; ⟨b, o, h1, hg.cell h2, h3.grew hg⟩⟩
theorem KidsR.own {w0 w : World} {R : Option Addr} {n c : Nat} {S : List Nat} {L : List As} (hs : St w0 (own R n c 3 1 (intv S) :: L) w) : KidsR w R (natI S) := fun j y hy => by
  have hg : (intv S)[j]? = some (.int .i64 y) := by
    unfold natI at hy
    rw [List.getElem?_map] at hy
    cases hk : S[j]? with
    | none => rw [hk] at hy; cases hy
    | some v =>
      rw [hk] at hy
      simp at hy
      subst hy
      exact intv_get hk
  obtain ⟨b, o, rfl, hc⟩ := (RdS.own hs).get hg
  exact ⟨b, o, rfl, hc _ hs⟩
theorem St.ksview {w0 w : World} {B C : Option Addr} {c c2 : Nat} {ks : List KS} {L : List As} (hs : St w0 (SrB B c C c2 ks :: L) w) : KsV w B C ks := by
  have h := hs.sropen
  have item : ∀ (i : Nat) (k : KS), ks[i]? = some k → ∃ M, St w0 (HSet k.T k.S :: YtpnjoeiohigjmaaDoor.own k.R k.S.length k.rc 3 1 (intv k.S) :: M) w := fun i k hk => by
    obtain ⟨M, hp⟩ := Ent.pick (L := L) (M := ks.map ksA) (i := i) (p := ksA k) (by rw [List.getElem?_map, hk]; rfl)
    exact ⟨M, (h.drop.drop.ent hp).ent (Ent.open2 fun _ hx => hx)⟩
  refine ⟨PtrsR.own h, fun s v hv => ?_, fun i k hk => ?_⟩
  · rw [List.getElem?_map] at hv
    cases hk : ks[s]? with
    | none => rw [hk] at hv; cases hv
    | some k =>
      rw [hk] at hv
      simp at hv
      subst hv
      obtain ⟨M, hm⟩ := item s k hk
      have e : ksS ks s = k.S := by unfold ksS; rw [List.getD_eq_getElem?_getD, List.getElem?_map, hk]; rfl
      rw [e]
      exact SetW.here hm
  · obtain ⟨b, o, rfl, hc⟩ := (RdS.own h.rot).get (show (ks.map ksV)[i]? = some (ksV k) by rw [List.getElem?_map, hk]; rfl)
    obtain ⟨M, hm⟩ := item i k hk
    exact ⟨b, o, rfl, hc _ h.rot, KidsR.own hm.rot⟩
theorem PtrsR.grew {w w' : World} {S : Option Addr} {ss : List Value} (h : PtrsR w S ss) (hg : Grew w w') : PtrsR w' S ss := fun i v hv => let ⟨b, o, h1, h2⟩ := h i v hv; ⟨b, o, h1, hg.cell h2⟩
theorem ptrs_one (ks : List KS) : ∀ v ∈ ks.map (fun k => ptr k.T), v.oneCell' = true := by
  intro v hv
  obtain ⟨k, _, rfl⟩ := List.mem_map.1 hv
  rfl
theorem few_all {rs : List IRow} (h : fewB rs = true) : (∀ r ∈ rs, r.zs.length ≤ 40) ∧ rs.length ≤ 10 := by
  unfold fewB at h
  rw [Bool.and_eq_true] at h
  refine ⟨fun r hr => ?_, of_decide_eq_true h.2⟩
  have := List.all_eq_true.1 h.1 r hr
  exact of_decide_eq_true this
attribute [local irreducible] checkV sameNd setS fewB exTell ksS
end Go.Proofs.YtpnjoeiohigjmaaDoor

/-
  The document's Words and Tells.
-/
set_option maxRecDepth 100000
namespace Go.Proofs.YtpnjoeiohigjmaaDoor
open Go Go.RowKit
attribute [local irreducible] wpList Calls Code.wp joinA joinW wordS exTell

/-- Words in memory. -/
def WdsR (w : World) (A : Option Addr) (ws : List Nat) : Prop := ∀ (j x : Nat), ws[j]? = some x → ∃ b, A = some ⟨b, 0, none⟩ ∧ w.cell? ⟨b, j, none⟩ = some (.int .u64 (x : Nat))
theorem WdsR.own {w0 w : World} {A : Option Addr} {n c : Nat} {e : TypeId} {ws : List Nat} {L : List As} (hs : St w0 (own A n c e 1 (u64s ws) :: L) w) : WdsR w A ws := fun j x hx => by
  have hl : 0 < n := by
    have h1 := hs.own_len.1
    rw [u64s_len, Nat.mul_one] at h1
    have := (List.getElem?_eq_some_iff.1 hx).1
    omega
  obtain ⟨b, rfl⟩ := hs.own_at hl
  refine ⟨b, rfl, Rd.own ?_ _ hs⟩
  unfold u64s
  rw [List.getElem?_map, hx]
  rfl
theorem WdsR.grew {w w' : World} {A : Option Addr} {ws : List Nat} (h : WdsR w A ws) (hg : Grew w w') : WdsR w' A ws := fun j x hx => let ⟨b, h1, h2⟩ := h j x hx; ⟨b, h1, hg.cell h2⟩
set_option maxHeartbeats 1000000 in
theorem rjoin_c {w : World} {k n m cap cap2 : Nat} (hk3 : k = 2 ∨ k = 3 ∨ k = 4) {B A : Option Addr} {kids ws : List Nat} (hn : Hid (kids.length = n)) (hn2 : n ≤ 64) (hk : KidsR w B (natI kids)) (hm : Hid (ws.length = m)) (hr : WdsR w A ws) (hlt : ∀ v ∈ ws, v < 2 ^ 64)
    (HI : Hid (∀ i ∈ kids, i < m)) {y : Nat} (hy : Hid (joinW k (kids.map fun i => ws.getD i 0) = y)) :
    Calls Tryd.prog 54 #[.int .i64 (k : Nat), .slice B n cap, .slice A m cap2] w fun e w' => e = .returned (.int .u64 (y : Nat)) ∧ Grew w w' := by
  rcases hk3 with rfl | rfl | rfl
  · skip
    have HJ : Hid (joinA 2 ((kids.map fun i => ws.getD i 0).take 0) 18446744073709551615 = 18446744073709551615) := by rw [List.take_zero]; unfold joinA; rfl
    have HY : Hid (joinA 2 (kids.map fun i => ws.getD i 0) 18446744073709551615 = y) := by rw [← hy.out]; unfold joinW joinA; rfl
    have HB : Hid (∀ j, joinA 2 ((kids.map fun i => ws.getD i 0).take j) 18446744073709551615 < 2 ^ 64) := fun j => joinA_lt (by decide) fun v hv => by
      obtain ⟨i, _, rfl⟩ := List.mem_map.1 (List.mem_of_mem_take hv)
      exact getD_lt hlt i
    go_enter Tryd.func54, Tryd.ntmps54
    go_wp2
    go_loop [7, 8] (fun xv cv => ∃ j v : Nat, j ≤ n ∧ cv = .int .i64 (j : Nat) ∧ xv = .int .u64 (v : Nat) ∧ Hid (joinA 2 ((kids.map fun i => ws.getD i 0).take j) 18446744073709551615 = v)) (fun _ cv => n - (intOf cv).toNat)
    case atStart => exact ⟨0, 18446744073709551615, Nat.zero_le _, rfl, by first | rfl | decide, HJ⟩
    case round =>
      obtain ⟨j, v, hj, rfl, rfl, HV⟩ := hrel
      by_cases hl2 : j < n
      · obtain ⟨i, hi⟩ : ∃ i, kids[j]? = some i := ⟨_, List.getElem?_eq_getElem (by rw [hn.out]; exact hl2)⟩
        have him := HI.out i (List.mem_of_getElem? hi)
        obtain ⟨b, o, rfl, hc⟩ := hk j (i : Int) (by unfold natI; rw [List.getElem?_map, hi]; rfl)
        obtain ⟨x, hx⟩ : ∃ x, ws[i]? = some x := ⟨_, List.getElem?_eq_getElem (by rw [hm.out]; exact him)⟩
        have hx2 : ws.getD i 0 = x := by rw [List.getD_eq_getElem?_getD, hx]; rfl
        obtain ⟨b2, rfl, hc2⟩ := hr i x hx
        have ho := and_u64 v x (by rw [← HV.out]; exact HB.out j) (by rw [← hx2]; exact getD_lt hlt i)
        have HS : Hid (joinA 2 ((kids.map fun i => ws.getD i 0).take (j + 1)) 18446744073709551615 = v &&& x) := by
          rw [Hid, List.take_add_one, List.getElem?_map, hi]
          show joinA 2 ((kids.map fun i => ws.getD i 0).take j ++ [ws.getD i 0]) 18446744073709551615 = _
          rw [joinA_snoc, HV.out, hx2]
          rfl
        clear hi hx hx2
        go_wp2
        go_round
        case rel => exact ⟨j + 1, v &&& x, by omega, by go_num, rfl, HS⟩
        case measure => simp [intOf] <;> omega
      · have hjn : j = n := by omega
        subst hjn
        go_wp2
        go_ret
        have h3 := HV.out
        rw [List.take_of_length_le (by rw [List.length_map, hn.out]; exact Nat.le_refl _), HY.out] at h3
        subst h3
        exact ⟨rfl, Grew.refl _⟩
  · skip
    have HJ : Hid (joinA 3 ((kids.map fun i => ws.getD i 0).take 0) 0 = 0) := by rw [List.take_zero]; unfold joinA; rfl
    have HY : Hid (joinA 3 (kids.map fun i => ws.getD i 0) 0 = y) := by rw [← hy.out]; unfold joinW joinA; rfl
    have HB : Hid (∀ j, joinA 3 ((kids.map fun i => ws.getD i 0).take j) 0 < 2 ^ 64) := fun j => joinA_lt (by decide) fun v hv => by
      obtain ⟨i, _, rfl⟩ := List.mem_map.1 (List.mem_of_mem_take hv)
      exact getD_lt hlt i
    go_enter Tryd.func54, Tryd.ntmps54
    go_wp2
    go_loop [7, 8] (fun xv cv => ∃ j v : Nat, j ≤ n ∧ cv = .int .i64 (j : Nat) ∧ xv = .int .u64 (v : Nat) ∧ Hid (joinA 3 ((kids.map fun i => ws.getD i 0).take j) 0 = v)) (fun _ cv => n - (intOf cv).toNat)
    case atStart => exact ⟨0, 0, Nat.zero_le _, rfl, by first | rfl | decide, HJ⟩
    case round =>
      obtain ⟨j, v, hj, rfl, rfl, HV⟩ := hrel
      by_cases hl2 : j < n
      · obtain ⟨i, hi⟩ : ∃ i, kids[j]? = some i := ⟨_, List.getElem?_eq_getElem (by rw [hn.out]; exact hl2)⟩
        have him := HI.out i (List.mem_of_getElem? hi)
        obtain ⟨b, o, rfl, hc⟩ := hk j (i : Int) (by unfold natI; rw [List.getElem?_map, hi]; rfl)
        obtain ⟨x, hx⟩ : ∃ x, ws[i]? = some x := ⟨_, List.getElem?_eq_getElem (by rw [hm.out]; exact him)⟩
        have hx2 : ws.getD i 0 = x := by rw [List.getD_eq_getElem?_getD, hx]; rfl
        obtain ⟨b2, rfl, hc2⟩ := hr i x hx
        have ho := or_u64 v x (by rw [← HV.out]; exact HB.out j) (by rw [← hx2]; exact getD_lt hlt i)
        have HS : Hid (joinA 3 ((kids.map fun i => ws.getD i 0).take (j + 1)) 0 = v ||| x) := by
          rw [Hid, List.take_add_one, List.getElem?_map, hi]
          show joinA 3 ((kids.map fun i => ws.getD i 0).take j ++ [ws.getD i 0]) 0 = _
          rw [joinA_snoc, HV.out, hx2]
          rfl
        clear hi hx hx2
        go_wp2
        go_round
        case rel => exact ⟨j + 1, v ||| x, by omega, by go_num, rfl, HS⟩
        case measure => simp [intOf] <;> omega
      · have hjn : j = n := by omega
        subst hjn
        go_wp2
        go_ret
        have h3 := HV.out
        rw [List.take_of_length_le (by rw [List.length_map, hn.out]; exact Nat.le_refl _), HY.out] at h3
        subst h3
        exact ⟨rfl, Grew.refl _⟩
  · skip
    have HJ : Hid (joinA 4 ((kids.map fun i => ws.getD i 0).take 0) 0 = 0) := by rw [List.take_zero]; unfold joinA; rfl
    have HY : Hid (joinA 4 (kids.map fun i => ws.getD i 0) 0 = y) := by rw [← hy.out]; unfold joinW joinA; rfl
    have HB : Hid (∀ j, joinA 4 ((kids.map fun i => ws.getD i 0).take j) 0 < 2 ^ 64) := fun j => joinA_lt (by decide) fun v hv => by
      obtain ⟨i, _, rfl⟩ := List.mem_map.1 (List.mem_of_mem_take hv)
      exact getD_lt hlt i
    go_enter Tryd.func54, Tryd.ntmps54
    go_wp2
    go_loop [7, 8] (fun xv cv => ∃ j v : Nat, j ≤ n ∧ cv = .int .i64 (j : Nat) ∧ xv = .int .u64 (v : Nat) ∧ Hid (joinA 4 ((kids.map fun i => ws.getD i 0).take j) 0 = v)) (fun _ cv => n - (intOf cv).toNat)
    case atStart => exact ⟨0, 0, Nat.zero_le _, rfl, by first | rfl | decide, HJ⟩
    case round =>
      obtain ⟨j, v, hj, rfl, rfl, HV⟩ := hrel
      by_cases hl2 : j < n
      · obtain ⟨i, hi⟩ : ∃ i, kids[j]? = some i := ⟨_, List.getElem?_eq_getElem (by rw [hn.out]; exact hl2)⟩
        have him := HI.out i (List.mem_of_getElem? hi)
        obtain ⟨b, o, rfl, hc⟩ := hk j (i : Int) (by unfold natI; rw [List.getElem?_map, hi]; rfl)
        obtain ⟨x, hx⟩ : ∃ x, ws[i]? = some x := ⟨_, List.getElem?_eq_getElem (by rw [hm.out]; exact him)⟩
        have hx2 : ws.getD i 0 = x := by rw [List.getD_eq_getElem?_getD, hx]; rfl
        obtain ⟨b2, rfl, hc2⟩ := hr i x hx
        have ho := xor_u64 v x (by rw [← HV.out]; exact HB.out j) (by rw [← hx2]; exact getD_lt hlt i)
        have HS : Hid (joinA 4 ((kids.map fun i => ws.getD i 0).take (j + 1)) 0 = v ^^^ x) := by
          rw [Hid, List.take_add_one, List.getElem?_map, hi]
          show joinA 4 ((kids.map fun i => ws.getD i 0).take j ++ [ws.getD i 0]) 0 = _
          rw [joinA_snoc, HV.out, hx2]
          rfl
        clear hi hx hx2
        go_wp2
        go_round
        case rel => exact ⟨j + 1, v ^^^ x, by omega, by go_num, rfl, HS⟩
        case measure => simp [intOf] <;> omega
      · have hjn : j = n := by omega
        subst hjn
        go_wp2
        go_ret
        have h3 := HV.out
        rw [List.take_of_length_le (by rw [List.length_map, hn.out]; exact Nat.le_refl _), HY.out] at h3
        subst h3
        exact ⟨rfl, Grew.refl _⟩
set_option maxHeartbeats 1000000 in
theorem rjoin_not {w : World} {m cap cap2 i x : Nat} {B A : Option Addr} {ws : List Nat} (hk : KidsR w B (natI [i])) (hm : Hid (ws.length = m)) (hr : WdsR w A ws) (hlt : ∀ v ∈ ws, v < 2 ^ 64) (hx : ws[i]? = some x) :
    Calls Tryd.prog 54 #[.int .i64 5, .slice B 1 cap, .slice A m cap2] w fun e w' => e = .returned (.int .u64 (notW x : Nat)) ∧ Grew w w' := by
  obtain ⟨b, o, rfl, hc⟩ := hk 0 (i : Int) rfl
  rw [Nat.add_zero] at hc
  obtain ⟨b2, rfl, hc2⟩ := hr i x hx
  have hx64 := hlt x (List.mem_of_getElem? hx)
  have him : i < m := by rw [← hm.out]; exact (List.getElem?_eq_some_iff.1 hx).1
  have HNO := not_u64 hx64
  clear hx hk hr hlt hm
  go_enter Tryd.func54, Tryd.ntmps54
  go_wp2
  go_loop [7, 8] (fun xv cv => (cv = .int .i64 0 ∧ xv = .int .u64 0) ∨ (cv = .int .i64 1 ∧ xv = .int .u64 (notW x : Nat))) (fun _ cv => 1 - (intOf cv).toNat)
  case atStart => exact .inl ⟨rfl, rfl⟩
  case round =>
    rcases hrel with ⟨rfl, rfl⟩ | ⟨rfl, rfl⟩
    · go_wp2
      go_round
      case rel => exact .inr ⟨rfl, rfl⟩
      case measure => simp [intOf] <;> omega
    · go_wp2
      go_ret
      exact ⟨rfl, Grew.refl _⟩
end Go.Proofs.YtpnjoeiohigjmaaDoor

/-
  The document's Words and Tells, 2.
-/
set_option maxRecDepth 100000
namespace Go.Proofs.YtpnjoeiohigjmaaDoor
open Go Go.RowKit
attribute [local irreducible] wpList Calls Code.wp joinA joinW wordS exTell

theorem words_snoc (sw : Nat → Nat) (l : List NodeE) (x : NodeE) : wordsE sw (l ++ [x]) = wordsE sw l ++ [wordE sw x (wordsE sw l)] := by simp [wordsE]
theorem words_len (sw : Nat → Nat) (l : List NodeE) : (wordsE sw l).length = l.length := by rw [← mays_words, mays_len]
theorem elem64 : ElemOk Tryd.prog 58 31 1 8 := ElemOk.of Tryd.underlying58 (z := .int .u64 0) (by kernel_rfl) rfl (by decide)
theorem u64s_snoc (W : List Nat) (x : Nat) : u64s W ++ [.int .u64 (x : Nat)] = u64s (W ++ [x]) := by simp [u64s]
theorem u64_one (x : Nat) : ∀ u ∈ [Value.int .u64 (x : Nat)], u.oneCell' = true := by simp; rfl
theorem ksS_at {ks : List KS} {s : Nat} {k : KS} (hk : ks[s]? = some k) : ksS ks s = k.S := by unfold ksS; rw [List.getD_eq_getElem?_getD, List.getElem?_map, hk]; rfl
theorem words_zero (sw : Nat → Nat) (l : List NodeE) : u64s (wordsE sw (l.take 0)) = [] := rfl
attribute [local irreducible] wordsE wordE notW ksS
set_option maxHeartbeats 2000000 in
theorem refwords_c {w : World} {E B C : Option Addr} {l : List NodeE} {ks : List KS} {q ce m c2 : Nat} {at_ : Int} (HLl : Hid (l.length = q)) (hok : ArOk l m) (hv : NdV w E (l.map toR)) (hkv : KsV w B C ks) (HKl : Hid (ks.length = m)) (hko : KsOk ks) {sw : Nat → Nat} (hsw : Hid ((fun s => wordS (ksS ks s) 0 at_) = sw)) :
    Calls Tryd.prog 36 #[.slice E q ce, .slice C m c2, .int .i64 at_] w fun e w' => ∃ A c, e = .returned (.slice A q c) ∧ St w [own A q c 31 1 (u64s (wordsE sw l))] w' := by
  have hfew : q ≤ 1000 := by have := hok.few; rw [HLl.out] at this; exact this
  have HV := Lib.hid hv
  have HO := Lib.hid hok
  have HKv := Lib.hid hkv
  have HKo := Lib.hid hko
  have hlt64 : ∀ s, sw s < 2 ^ 64 := fun s => by rw [← hsw.out]; exact wordS_lt _ _ _
  have HLt := Lib.hid hlt64
  have hs : St w [own none 0 0 31 1 (u64s (wordsE sw (l.take 0)))] w := by rw [words_zero]; exact (St.start w).own_nil 31 1
  clear hv hok hkv hko hlt64
  go_enter Tryd.func36, Tryd.ntmps36
  go_wp2
  go_loopw [7, 8] (fun ov cv wr => ∃ (i : Nat) (A : Option Addr) (c : Nat), i ≤ q ∧ ov = .slice A i c ∧ cv = .int .i64 (i : Nat) ∧ St w [own A i c 31 1 (u64s (wordsE sw (l.take i)))] wr) (fun _ cv _ => q - (intOf cv).toNat)
  case atStart => exact ⟨0, none, 0, Nat.zero_le _, rfl, rfl, hs⟩
  case round =>
    clear hs
    obtain ⟨i, A, c, hi, rfl, rfl, hs⟩ := hrel
    by_cases hlt : i < q
    · obtain ⟨x, hx⟩ : ∃ x, l[i]? = some x := ⟨_, List.getElem?_eq_getElem (by rw [HLl.out]; exact hlt)⟩
      obtain ⟨b, o, X, bx, rfl, x1, x2, x3, x4, x5⟩ := HV.out.row i _ (toR_get hx)
      replace x1 : w.cell? ⟨b, o + i * 2, none⟩ = some (.int .i64 ((x.k : Nat) : Int)) := x1
      rw [toR_len] at x2
      have HT := Lib.hid (take_snocE hx)
      obtain ⟨k1, k5, k64⟩ := HO.out.kind i x hx
      have hset := HO.out.set i x hx
      have hnot := HO.out.not i x hx
      have hlow := HO.out.low i x hx
      have HWl : Hid ((wordsE sw (l.take i)).length = i) := by rw [Hid, words_len, List.length_take, HLl.out]; omega
      have HW64 : Hid (∀ v ∈ wordsE sw (l.take i), v < 2 ^ 64) := wordsE_lt HLt.out _
      have X3 : Hid (KidsR w X (natI x.kids)) := x3
      clear x3 x5 x4 hx
      obtain ⟨y, HX⟩ : ∃ y, Hid (wordE sw x (wordsE sw (l.take i)) = y) := ⟨_, rfl⟩
      by_cases h1 : x.k = 1
      · obtain ⟨s, hks, hsm⟩ := hset h1
        obtain ⟨k, hk⟩ : ∃ k, ks[s]? = some k := ⟨_, List.getElem?_eq_getElem (by rw [HKl.out]; exact hsm)⟩
        obtain ⟨b2, o2, rfl, r1, r2⟩ := HKv.out.row s k hk
        obtain ⟨b3, o3, rfl, r3⟩ := X3.out 0 (s : Int) (by rw [hks]; rfl)
        rw [Nat.add_zero] at r3
        have hkm := List.mem_of_getElem? hk
        have HSo := Lib.hid (HKo.out.sorted k hkm)
        have HSm := Lib.hid (HKo.out.small k hkm)
        have hS40 := HKo.out.few k hkm
        have HR2 := Lib.hid r2
        have HY : Hid (wordS k.S 0 at_ = y) := by
          rw [Hid, ← HX.out]
          unfold wordE
          rw [if_pos h1, hks, ← hsw.out]
          show wordS k.S 0 at_ = wordS (ksS ks s) 0 at_
          rw [ksS_at hk]
        rw [h1] at x1
        rw [hks] at x2
        replace x2 : w.cell? ⟨b, o + i * 2 + 1, none⟩ = some (.slice (some ⟨b3, o3, none⟩) 1 bx) := x2
        replace x1 := hs.made_grew.cell x1
        replace x2 := hs.made_grew.cell x2
        replace r1 := hs.made_grew.cell r1
        replace r3 := hs.made_grew.cell r3
        obtain ⟨N, HNs⟩ : ∃ n, Hid (k.S.length = n) := ⟨_, rfl⟩
        rw [HNs.out] at r1 hS40
        clear hset hnot hlow h1 hks hk hkm r2
        go_wp2_with (first
          | (go_at_call 53; refine (rword_c (n := N) HSo.out HSm.out HNs.out (by omega) (St.start _) (kidsR_nat (HR2.out.grew hs.made_grew)) HY).mono ?_; clear x1 x2 r1 r3; rintro e w' ⟨rfl, hg⟩; replace hs := hs.grew hg; clear hg)
          | (refine wpl_build1 (v := .int .u64 (y : Nat)) elem64 (by decide) rfl rfl hs ?_; clear hs; intro gb w8 hs)
          | (refine wpl_append (A := A) (B := some ⟨gb, 0, none⟩) (n := i) (m := 1) (news := [.int .u64 (y : Nat)]) elem64 rfl rfl hs (Ent.skip (Ent.refl _)) RdS.blk rfl (u64_one y) (by unfold maxLen; omega) (by omega) ?_; clear hs; intro A2 c3 w9 hs; replace hs := hs.rot.drop))
        have hs3 : St w [own A2 (i + 1) c3 31 1 (u64s (wordsE sw (l.take (i + 1))))] w9 := by
          rw [HT.out, words_snoc, ← u64s_snoc, HX.out]
          exact hs
        go_roundw
        case rel => exact ⟨i + 1, A2, c3, by omega, rfl, by go_num, hs3⟩
        case measure => simp [intOf] <;> omega
      · have e1 : ((x.k : Int) == 1) = false := by simp; omega
        have HI : Hid (∀ z ∈ x.kids, z < i) := hlow h1
        by_cases h5 : x.k = 5
        · obtain ⟨s, hks⟩ : ∃ s, x.kids = [s] := List.length_eq_one_iff.1 (hnot h5)
          have hsi : s < i := HI.out s (by rw [hks]; exact List.mem_cons_self)
          obtain ⟨v, hv⟩ : ∃ v, (wordsE sw (l.take i))[s]? = some v := ⟨_, List.getElem?_eq_getElem (by rw [HWl.out]; exact hsi)⟩
          have HVs := Lib.hid hv
          have HY : y = notW v := by
            rw [← HX.out]
            unfold wordE
            rw [if_neg h1, if_pos h5, hks]
            show notW ((wordsE sw (l.take i)).getD s 0) = _
            rw [List.getD_eq_getElem?_getD, hv]
            rfl
          subst HY
          rw [hks] at X3 x2
          rw [h5] at x1
          replace x2 : w.cell? ⟨b, o + i * 2 + 1, none⟩ = some (.slice X 1 bx) := x2
          have X1 := Lib.hid x1
          have X2 := Lib.hid x2
          replace x1 := hs.made_grew.cell x1
          replace x2 := hs.made_grew.cell x2
          clear hset hnot hlow h1 e1 hks hv
          obtain ⟨y, HYY⟩ : ∃ y, Hid (notW v = y) := ⟨_, rfl⟩
          rw [HYY.out] at HX
          go_upto_region 7 with (fail)
          have hsN := hs.nothing
          refine wp_region_plain [false, false, false, false, false, false, false, false, false, false, false, false, true, true, true, true] hsN (by kernel_rfl) (by kernel_rfl) fun hne => ?_
          have e0 := (Rd.old (L := []) X1.out).alln
          have e1 := (Rd.old (L := []) X2.out).alln
          simp only [pickOps]
          repeat (go_big_quiet_step (fail))
          refine wpQuiet_nil ?_
          clear hne e0 e1
          simp only [chainIx]
          replace hs := hs.drew
          clear hsN
          refine wpChainP_next rfl ?_
          go_wp2_with (first
            | (go_at_call 54; refine (rjoin_not (m := i) (X3.out.grew hs.made_grew) HWl (WdsR.own hs) HW64.out HVs.out).mono ?_; rw [HYY.out]; rintro e w' ⟨rfl, hg⟩; replace hs := hs.grew hg; clear hg))
          refine ⟨hs.nothing, ?_⟩
          refine wpChainP_next rfl ?_
          refine wpl_build1 (v := .int .u64 (y : Nat)) elem64 (by decide) rfl rfl hs ?_
          clear hs
          intro gb w8 hs
          refine wpList_nil ⟨rfl, hs.nothing, ?_⟩
          refine wpChainP_next rfl ?_
          refine wpl_append (A := A) (B := some ⟨gb, 0, none⟩) (n := i) (m := 1) (news := [.int .u64 (y : Nat)]) elem64 rfl rfl hs (Ent.skip (Ent.refl _)) RdS.blk rfl (u64_one y) (by unfold maxLen; omega) (by omega) ?_
          clear hs
          intro A2 c3 w9 hs
          replace hs := hs.rot.drop
          refine wpList_nil ⟨rfl, hs.nothing, ?_⟩
          refine wpChain_last rfl ?_
          go_wp2
          have hs3 : St w [own A2 (i + 1) c3 31 1 (u64s (wordsE sw (l.take (i + 1))))] w9 := by
            rw [HT.out, words_snoc, ← u64s_snoc, HX.out]
            exact hs
          go_roundw
          case rel => exact ⟨i + 1, A2, c3, by omega, rfl, by go_num, hs3⟩
          case measure => simp [intOf] <;> omega
        · have h234 : x.k = 2 ∨ x.k = 3 ∨ x.k = 4 := by omega
          have HY : Hid (joinW x.k (x.kids.map fun i' => ((wordsE sw (l.take i)).getD i' 0)) = y) := by
            rw [Hid, ← HX.out]
            unfold wordE
            rw [if_neg h1, if_neg h5]
          obtain ⟨kk, HKK⟩ : ∃ kk, Hid (x.k = kk) := ⟨_, rfl⟩
          rw [HKK.out] at HY x1 h234
          obtain ⟨p, HP⟩ : ∃ p, Hid (x.kids.length = p) := ⟨_, rfl⟩
          rw [HP.out] at x2 k64
          have e1' : ((kk : Int) == 1) = false := by rw [HKK.out] at e1; exact e1
          have H234 := Lib.hid h234
          have X1 := Lib.hid x1
          have X2 := Lib.hid x2
          replace x1 := hs.made_grew.cell x1
          replace x2 := hs.made_grew.cell x2
          clear hset hnot hlow h1 e1 h5 h234 k1 k5
          go_upto_region 7 with (fail)
          have hsN := hs.nothing
          refine wp_region_plain [false, false, false, false, false, false, false, false, false, false, false, false, true, true, true, true] hsN (by kernel_rfl) (by kernel_rfl) fun hne => ?_
          have e0 := (Rd.old (L := []) X1.out).alln
          have e1 := (Rd.old (L := []) X2.out).alln
          simp only [pickOps]
          repeat (go_big_quiet_step (fail))
          refine wpQuiet_nil ?_
          clear hne e0 e1
          simp only [chainIx]
          replace hs := hs.drew
          clear hsN
          refine wpChainP_next rfl ?_
          go_wp2_with (first
            | (go_at_call 54; refine (rjoin_c (m := i) H234.out HP k64 (X3.out.grew hs.made_grew) HWl (WdsR.own hs) HW64.out HI HY).mono ?_; rintro e w' ⟨rfl, hg⟩; replace hs := hs.grew hg; clear hg))
          refine ⟨hs.nothing, ?_⟩
          refine wpChainP_next rfl ?_
          refine wpl_build1 (v := .int .u64 (y : Nat)) elem64 (by decide) rfl rfl hs ?_
          clear hs
          intro gb w8 hs
          refine wpList_nil ⟨rfl, hs.nothing, ?_⟩
          refine wpChainP_next rfl ?_
          refine wpl_append (A := A) (B := some ⟨gb, 0, none⟩) (n := i) (m := 1) (news := [.int .u64 (y : Nat)]) elem64 rfl rfl hs (Ent.skip (Ent.refl _)) RdS.blk rfl (u64_one y) (by unfold maxLen; omega) (by omega) ?_
          clear hs
          intro A2 c3 w9 hs
          replace hs := hs.rot.drop
          refine wpList_nil ⟨rfl, hs.nothing, ?_⟩
          refine wpChain_last rfl ?_
          go_wp2
          have hs3 : St w [own A2 (i + 1) c3 31 1 (u64s (wordsE sw (l.take (i + 1))))] w9 := by
            rw [HT.out, words_snoc, ← u64s_snoc, HX.out]
            exact hs
          go_roundw
          case rel => exact ⟨i + 1, A2, c3, by omega, rfl, by go_num, hs3⟩
          case measure => simp [intOf] <;> omega
    · have hiq : i = q := by omega
      subst hiq
      have hT : l.take i = l := List.take_of_length_le (by rw [HLl.out]; exact Nat.le_refl _)
      rw [hT] at hs
      clear hT
      go_wp2
      go_ret
      exact ⟨A, c, rfl, hs⟩
theorem shr_one {x d : Nat} (hx : x < 2 ^ 64) : bits .and .u64 ((x : Int) / 2 ^ d) 1 = if x.testBit d then 1 else 0 := by
  have e : (x : Int) / 2 ^ d = ((x / 2 ^ d : Nat) : Int) := by push_cast; rfl
  have hy : x / 2 ^ d < 2 ^ 64 := Nat.lt_of_le_of_lt (Nat.div_le_self _ _) hx
  rw [e, show (1 : Int) = ((1 : Nat) : Int) from rfl, and_u64 _ _ hy (by decide), Nat.and_one_is_mod]
  rw [Nat.testBit_eq_decide_div_mod_eq]
  rcases Nat.mod_two_eq_zero_or_one (x / 2 ^ d) with h | h <;> rw [h] <;> rfl
theorem exTell_bit {l : List NodeE} {Ss : Nat → List Nat} {n i : Nat} (hn : n < l.length) (hi : i < 16777216) :
    ((wordsE (fun s => wordS (Ss s) 0 ((i : Int) / 64)) l).getD n 0).testBit (i % 64) = exTell l Ss n i := by
  have hd : i % 64 < 64 := Nat.mod_lt _ (by decide)
  rw [wordsE_bit (fun s => wordS_lt _ _ _) hd]
  unfold exTell
  rw [decide_eq_true ⟨by omega, by omega, by omega, by omega⟩, Bool.true_and, Int.toNat_natCast]
  congr 2
  funext s
  rw [show (i : Int) / 64 = ((i / 64 : Nat) : Int) by omega]
  exact word_mem hi
set_option maxHeartbeats 1000000 in
theorem reftells_c {w : World} {E B C : Option Addr} {l : List NodeE} {ks : List KS} {q ce m c2 : Nat} (HLl : Hid (l.length = q)) (hok : ArOk l m) (hv : NdV w E (l.map toR)) (hkv : KsV w B C ks) (HKl : Hid (ks.length = m)) (hko : KsOk ks) (n i : Int) {b : Bool} (hb : Hid (exTell l (ksS ks) n i = b)) :
    Calls Tryd.prog 56 #[.slice E q ce, .slice C m c2, .int .i64 n, .int .i64 i] w fun e w' => e = .returned (.bool b) ∧ Grew w w' := by
  have hfew : q ≤ 1000 := by have := hok.few; rw [HLl.out] at this; exact this
  by_cases hin : 0 ≤ n ∧ n < q ∧ 0 ≤ i ∧ i < 16777216
  · obtain ⟨h1, h2, h3, h4⟩ := hin
    obtain ⟨n, rfl⟩ := Int.eq_ofNat_of_zero_le h1
    obtain ⟨i, rfl⟩ := Int.eq_ofNat_of_zero_le h3
    have hn : n < q := by omega
    have hi : i < 16777216 := by omega
    have d1 : decide ((n : Int) < 0) = false := decide_eq_false (by omega)
    have d2 : decide (q ≤ n) = false := decide_eq_false (by omega)
    have d3 : decide ((i : Int) < 0) = false := decide_eq_false (by omega)
    have d4 : decide ((16777216 : Int) ≤ (i : Int)) = false := decide_eq_false (by omega)
    have hi4 : (i : Int) ≤ 9223372036854775807 := by omega
    have ha : bits .and .i64 (i : Int) 63 = (i : Int) % 64 := by rw [i64_and63 i (by omega)]; omega
    have ha0 : 0 ≤ (i : Int) % 64 := by omega
    have ha1 : (i : Int) % 64 < 64 := by omega
    obtain ⟨sw, HSW⟩ : ∃ sw, Hid ((fun s => wordS (ksS ks s) 0 ((i : Int) / 64)) = sw) := ⟨_, rfl⟩
    have hbit := exTell_bit (l := l) (Ss := ksS ks) (n := n) (i := i) (by rw [HLl.out]; exact hn) hi
    rw [hb.out, HSW.out] at hbit
    obtain ⟨x, hx⟩ : ∃ x, (wordsE sw l)[n]? = some x := ⟨_, List.getElem?_eq_getElem (by rw [words_len, HLl.out]; exact hn)⟩
    rw [List.getD_eq_getElem?_getD, hx] at hbit
    have hx64 : x < 2 ^ 64 := wordsE_lt (fun s => by rw [← HSW.out]; exact wordS_lt _ _ _) l x (List.mem_of_getElem? hx)
    have hsh := shr_one (d := i % 64) hx64
    rw [show x.testBit (i % 64) = b from hbit] at hsh
    have HXX := Lib.hid hx
    clear hbit hx h1 h2 h3 h4 hi
    cases b
    all_goals
      simp only [Bool.false_eq_true, if_false, if_true] at hsh
      go_enter Tryd.func56, Tryd.ntmps56
      go_wp2_with (first
        | (go_at_call 36; refine (refwords_c HLl hok hv hkv HKl hko HSW).mono ?_; rintro e w' ⟨A, c, rfl, hl⟩; obtain ⟨b9, rfl, hc9⟩ := WdsR.own hl _ _ HXX.out))
      go_ret
      exact ⟨rfl, hl.made_grew⟩
  · have hb2 : exTell l (ksS ks) n i = false := exTell_out (fun h => hin (by rw [HLl.out] at h; exact h))
    rw [hb.out] at hb2
    subst hb2
    by_cases h1 : n < 0
    · have d1 : decide (n < 0) = true := decide_eq_true h1
      clear hin h1
      go_enter Tryd.func56, Tryd.ntmps56
      go_wp2
      go_ret
      exact ⟨rfl, Grew.refl _⟩
    · have d1 : decide (n < 0) = false := decide_eq_false h1
      by_cases h2 : (q : Int) ≤ n
      · have d2 : decide ((q : Int) ≤ n) = true := decide_eq_true h2
        clear hin h1 h2
        go_enter Tryd.func56, Tryd.ntmps56
        go_wp2
        go_ret
        exact ⟨rfl, Grew.refl _⟩
      · have d2 : decide ((q : Int) ≤ n) = false := decide_eq_false h2
        by_cases h3 : i < 0
        · have d3 : decide (i < 0) = true := decide_eq_true h3
          clear hin h1 h2 h3
          go_enter Tryd.func56, Tryd.ntmps56
          go_wp2
          go_ret
          exact ⟨rfl, Grew.refl _⟩
        · have d3 : decide (i < 0) = false := decide_eq_false h3
          have d4 : decide ((16777216 : Int) ≤ i) = true := decide_eq_true (by omega)
          clear hin h1 h2 h3
          go_enter Tryd.func56, Tryd.ntmps56
          go_wp2
          go_ret
          exact ⟨rfl, Grew.refl _⟩
end Go.Proofs.YtpnjoeiohigjmaaDoor
