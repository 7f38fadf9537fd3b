/-
  ExprDeep: the walk.
-/
import Derived.Test.YtkcbjkadalebjaaExLw
set_option maxRecDepth 100000
namespace Go.Proofs.Ytkcbjkadalebjaa
open Go Go.RowKit
attribute [local irreducible] wpList Calls Code.wp

theorem tells_snoc (sb : Nat → Bool) (l : List NodeE) (y : NodeE) : tellsE sb (l ++ [y]) = tellsE sb l ++ [tellE sb y (tellsE sb l)] := by simp [tellsE]
theorem tells_len (sb : Nat → Bool) (l : List NodeE) : (tellsE sb l).length = l.length := by
  suffices h : ∀ (l : List NodeE) (bs : List Bool), (l.foldl (fun bs x => bs ++ [tellE sb x bs]) bs).length = bs.length + l.length by
    have := h l []
    simpa [tellsE] using this
  intro l
  induction l with
  | nil => intro bs; simp
  | cons x l ih => intro bs; rw [List.foldl_cons, ih]; simp; omega
/-- A row of k + 1 nodes, each told by the next one; t: an odd number of Nots. -/
structure DeepI (l : List NodeE) (k : Nat) (t : Bool) : Prop where
  len : l.length = k + 1
  ok : ArOk l 1
  tell : ∀ sb : Nat → Bool, (tellsE sb l).getD k false = (sb 0 != t)
theorem deep_start : DeepI [⟨1, [0]⟩] 0 false := ⟨rfl, (ArOk.nil 0).addset (by decide), fun sb => by
  show sb 0 = (sb 0 != false)
  cases sb 0 <;> rfl⟩
theorem DeepI.ok1 {l : List NodeE} {k : Nat} {t : Bool} (h : DeepI l k t) (hk : k < 998) : addOk l 5 [(k : Int)] = true ∧ addOk l 2 [(k : Int), (k : Int)] = true := by
  have hb : bad l.length (k : Int) = false := by
    unfold bad
    rw [h.len, decide_eq_false (by omega), decide_eq_false (by omega)]
    rfl
  have hl : decide (l.length < 1000) = true := decide_eq_true (by rw [h.len]; omega)
  constructor
  · unfold addOk
    rw [hl, List.any_cons, hb]
    rfl
  · unfold addOk
    rw [hl, List.any_cons, List.any_cons, hb]
    rfl
theorem DeepI.not {l l' : List NodeE} {k : Nat} {t : Bool} (h : DeepI l k t) (hk : k < 998) (hl : addN l 5 [(k : Int)] = l') : addV l 5 [(k : Int)] = ((k + 1 : Nat) : Int) ∧ DeepI l' (k + 1) (!t) := by
  have ho := (h.ok1 hk).1
  have hok := h.ok.addop (k := 5) (kids := [(k : Int)]) (by decide) (fun _ => rfl)
  rw [hl] at hok
  refine ⟨by unfold addV; rw [ho, if_pos rfl, h.len], ?_, hok, fun sb => ?_⟩
  · rw [← hl]; unfold addN; rw [ho, if_pos rfl, List.length_append, h.len]; rfl
  · rw [← hl]
    unfold addN
    rw [ho, if_pos rfl, tells_snoc, List.getD_eq_getElem?_getD, List.getElem?_append_right (by rw [tells_len, h.len]; omega), tells_len, h.len, Nat.sub_self]
    show (!(tellsE sb l).getD (Int.toNat (k : Int)) false) = _
    rw [Int.toNat_natCast, h.tell sb]
    cases sb 0 <;> cases t <;> rfl
theorem DeepI.and {l l' : List NodeE} {k : Nat} {t : Bool} (h : DeepI l k t) (hk : k < 998) (hl : addN l 2 [(k : Int), (k : Int)] = l') : addV l 2 [(k : Int), (k : Int)] = ((k + 1 : Nat) : Int) ∧ DeepI l' (k + 1) t := by
  have ho := (h.ok1 hk).2
  have hok := h.ok.addop (k := 2) (kids := [(k : Int), (k : Int)]) (by decide) (fun h => absurd h (by decide))
  rw [hl] at hok
  refine ⟨by unfold addV; rw [ho, if_pos rfl, h.len], ?_, hok, fun sb => ?_⟩
  · rw [← hl]; unfold addN; rw [ho, if_pos rfl, List.length_append, h.len]; rfl
  · rw [← hl]
    unfold addN
    rw [ho, if_pos rfl, tells_snoc, List.getD_eq_getElem?_getD, List.getElem?_append_right (by rw [tells_len, h.len]; omega), tells_len, h.len, Nat.sub_self]
    show ((true && (tellsE sb l).getD (Int.toNat (k : Int)) false) && (tellsE sb l).getD (Int.toNat (k : Int)) false) = _
    rw [Int.toNat_natCast, h.tell sb]
    cases sb 0 <;> cases t <;> rfl
theorem DeepI.has {l : List NodeE} {k : Nat} {t : Bool} (h : DeepI l k t) {S : List Nat} {m : Nat} (hm : m < 16777216) {b : Bool} (hb : memS S (m : Int) = b) : exTell l (fun _ => S) (k : Int) (m : Int) = (b != t) := by
  have hl := h.len
  unfold exTell
  rw [decide_eq_true ⟨by omega, by omega, by omega, by omega⟩, Bool.true_and, Int.toNat_natCast, h.tell, hb]
theorem and_mask {z : Int} {p : Nat} (hp : p < 63) : bits .and .i64 z ((2 ^ p - 1 : Nat) : Int) = ((z % (2 ^ p : Nat)).toNat : Nat) := by
  have h0 : (0 : Nat) < 2 ^ p := Nat.two_pow_pos p
  have h1 : 2 ^ p ≤ 2 ^ 62 := Nat.pow_le_pow_right (by decide) (by omega)
  have h2 : (BitVec.ofInt 64 ((2 ^ p - 1 : Nat) : Int)).toNat = 2 ^ p - 1 := ofInt_u64 _ (by omega)
  show IntKind.i64.wrap ((BitVec.ofInt 64 z &&& BitVec.ofInt 64 ((2 ^ p - 1 : Nat) : Int)).toNat : Int) = _
  rw [BitVec.toNat_and, h2, Nat.and_two_pow_sub_one_eq_mod, BitVec.toNat_ofInt, IntKind.wrap_i64]
  have h3 : ((z % ((2 ^ 64 : Nat) : Int)).toNat % 2 ^ p : Nat) = (z % ((2 ^ p : Nat) : Int)).toNat := by
    have hz : 0 ≤ z % ((2 ^ 64 : Nat) : Int) := Int.emod_nonneg _ (by decide)
    have hd : ((2 ^ p : Nat) : Int) ∣ ((2 ^ 64 : Nat) : Int) := Int.natCast_dvd_natCast.2 (Nat.pow_dvd_pow 2 (by omega))
    have e : z % ((2 ^ 64 : Nat) : Int) % ((2 ^ p : Nat) : Int) = z % ((2 ^ p : Nat) : Int) := Int.emod_emod_of_dvd z hd
    rw [← e]
    generalize z % ((2 ^ 64 : Nat) : Int) = y at hz
    obtain ⟨n, rfl⟩ := Int.eq_ofNat_of_zero_le hz
    rw [Int.toNat_natCast, ← Int.natCast_emod, Int.toNat_natCast]
  rw [h3]
  have h4 : z % ((2 ^ p : Nat) : Int) < ((2 ^ p : Nat) : Int) := Int.emod_lt_of_pos _ (by omega)
  have h5 : 0 ≤ z % ((2 ^ p : Nat) : Int) := Int.emod_nonneg _ (by omega)
  omega
theorem mask_small (z : Int) (p : Nat) (hp : p < 63) : ∃ y : Nat, y < 2 ^ p ∧ bits .and .i64 z ((2 ^ p - 1 : Nat) : Int) = (y : Nat) := by
  refine ⟨_, ?_, and_mask hp⟩
  have h0 : (0 : Nat) < 2 ^ p := Nat.two_pow_pos p
  have h4 : z % ((2 ^ p : Nat) : Int) < ((2 ^ p : Nat) : Int) := Int.emod_lt_of_pos _ (by omega)
  have h5 : 0 ≤ z % ((2 ^ p : Nat) : Int) := Int.emod_nonneg _ (by omega)
  omega
attribute [local irreducible] addV addN exTell setS memS
set_option maxHeartbeats 2000000 in
theorem edeep_c {w0 : World} (zn : Int) {va : Value} {za : List Int} (hva : IntArg w0 va za) (zi : Int) (x : Int) : Calls Try.prog 3 #[.int .i64 zn, va, .int .i64 zi, .int .u64 x] w0 (LawPost w0) := by
  obtain ⟨A, na, ca, rfl, hlen, hnc, hcm, hra, hba⟩ := hva
  have HL := Lib.hid hlen
  unfold maxLen at hcm
  have hs := St.start w0
  have hand := and_ffffff zi
  have hm := kk24_lt zi
  generalize kk24 zi = m at hand hm
  obtain ⟨y, hy, ha⟩ := mask_small zn 10 (by decide)
  replace ha : bits .and .i64 zn 1023 = (y : Nat) := ha
  obtain ⟨n, hn⟩ : ∃ n : Nat, (y : Int) % 900 + 1 = (n : Int) := ⟨y % 900 + 1, by omega⟩
  have hn9 : n ≤ 900 := by omega
  have hy1 : y < 1024 := hy
  clear hba hlen hy
  by_cases h30 : 30 < na
  · go_enter Try.func3, Try.ntmps3
    go_wp2_with (first
      | (go_at_call 11; refine (awake3 _).mono ?_; rintro e w' ⟨rfl, hg⟩; replace hs := hs.grew hg; clear hg))
    go_ret
    exact ⟨rfl, hs⟩
  · obtain ⟨S, HS⟩ : ∃ S, Hid (setS za = S) := ⟨_, rfl⟩
    obtain ⟨b, HB⟩ : ∃ b, Hid (memS S (m : Int) = b) := ⟨_, rfl⟩
    have HM := Lib.hid hm
    clear hm
    go_enter Try.func3, Try.ntmps3
    go_wp2_with (first
      | (go_at_call 12; refine (exnew_c hs).mono ?_; clear hs; rintro e w' ⟨D, rfl, hs⟩)
      | (go_at_call 13; refine (new_v hs (hra.any _) HL (by unfold maxLen; omega) HS).mono ?_; clear hs; rintro e w' ⟨T1, rfl, hs⟩; replace hs := hs.rot)
      | (go_at_call 14; refine (exset_v (v := 0) (l' := [⟨1, [0]⟩]) (ss' := [ptr T1]) hs _ (Lib.hid rfl) (Lib.hid rfl) (Lib.hid rfl) (by decide) (by decide)).mono ?_; clear hs; rintro e w' ⟨rfl, hs⟩))
    go_loopw [11, 12, 13] (fun av tv cv wr => ∃ (k : Nat) (l : List NodeE) (t : Bool), k ≤ n ∧ av = .int .i64 (k : Nat) ∧ tv = .bool t ∧ cv = .int .i64 (k : Nat) ∧ DeepI l k t ∧ St w0 [ExB D l [ptr T1], HSet T1 S] wr) (fun _ _ cv _ => n - (intOf cv).toNat)
    case atStart => exact ⟨0, _, false, Nat.zero_le _, rfl, rfl, rfl, deep_start, hs⟩
    case round =>
      clear hs
      obtain ⟨k, l, t, hk, rfl, rfl, rfl, HI, hs⟩ := hrel
      by_cases hlt : k < n
      · have hk64 : bits .and .i64 (k : Int) 63 = (k : Int) % 64 := by rw [i64_and63 k (by omega)]; omega
        have hk0 : 0 ≤ (k : Int) % 64 := by omega
        have hk1 : (k : Int) % 64 < 64 := by omega
        obtain ⟨l1, HL1⟩ : ∃ l', Hid (addN l 5 [(k : Int)] = l') := ⟨_, rfl⟩
        obtain ⟨l2, HL2⟩ : ∃ l', Hid (addN l 2 [(k : Int), (k : Int)] = l') := ⟨_, rfl⟩
        obtain ⟨v1, I1⟩ := HI.not (by omega) HL1.out
        obtain ⟨v2, I2⟩ := HI.and (by omega) HL2.out
        have V1 := Lib.hid v1
        have V2 := Lib.hid v2
        clear v1 v2 HI
        go_wp2_with (first
          | (go_at_call 15; refine (not_c hs (k : Int) V1 HL1).mono ?_; clear hs; rintro e w' ⟨rfl, hs⟩)
          | (refine wpl_buildN (vs := [.int .i64 (k : Int), .int .i64 (k : Int)]) elem24 rfl rfl (by simp) (by simp) (by simp; rfl) hs ?_; clear hs; intro gb w3 hs; replace hs := hs.rot)
          | (go_at_call 16; refine (and_c (kids := [(k : Int), (k : Int)]) (A := some ⟨gb, 0, none⟩) (m := 2) hs (fun h => nomatch h) (Lib.hid rfl) (by decide) (RdS.blk.tail) V2 HL2).mono ?_; clear hs; rintro e w' ⟨rfl, hs⟩; replace hs := hs.rot.drop))
        all_goals
          go_roundw
          case rel => first
            | exact ⟨k + 1, l1, !t, by omega, by go_num, rfl, by go_num, I1, hs⟩
            | exact ⟨k + 1, l2, t, by omega, by go_num, rfl, by go_num, I2, hs⟩
          case measure => simp [intOf] <;> omega
      · have hkn : k = n := by omega
        subst hkn
        have HE := Lib.hid (HI.has (S := S) HM.out HB.out)
        have hso : SetsOk wr [ptr T1] (fun _ => S) := SetsOk.nil.snoc (SetW.here hs.rot)
        have hok := Lib.hid HI.ok
        clear HI
        go_wp2_with (first
          | (go_at_call 17; refine (exhas_v hs hok.out hso HE).mono ?_; rintro e w' ⟨rfl, hg⟩; replace hs := hs.grew hg; clear hg hso)
          | (go_at_call 18; refine (hhas_v hs.rot HB).mono ?_; rintro e w' ⟨rfl, hg⟩; replace hs := hs.grew hg; clear hg)
          | (go_at_call 11; refine (awake3 _).mono ?_; rintro e w' ⟨rfl, hg⟩; replace hs := hs.grew hg; clear hg))
        go_ret
        exact ⟨rfl, hs.nothing⟩
end Go.Proofs.Ytkcbjkadalebjaa
