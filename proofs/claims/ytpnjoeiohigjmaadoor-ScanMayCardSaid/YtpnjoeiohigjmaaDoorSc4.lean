/-
  Going over (scan), 4: Next, May, Word, List.
-/
import Derived.Test.YtpnjoeiohigjmaaDoorSc3
set_option maxRecDepth 100000
namespace Go.Proofs.YtpnjoeiohigjmaaDoor
open Go Go.RowKit
attribute [local irreducible] wpList Calls Code.wp mayW scW exTell

/-- An arena in memory, with its sets. -/
structure ScV (w : World) (D : Nat) (l : List NodeE) (ss : List Value) (Ss : Nat → List Nat) : Prop where
  view : ∃ N cap P cap2, ExV D l ss N cap P cap2 w
  ok : ArOk l ss.length
  sets : SetsOk w ss Ss
  tab : Tab w
theorem ScV.grew {w w' : World} {D : Nat} {l : List NodeE} {ss : List Value} {Ss : Nat → List Nat} (h : ScV w D l ss Ss) (hg : Grew w w') : ScV w' D l ss Ss :=
  ⟨let ⟨N, c, P, c2, hv⟩ := h.view; ⟨N, c, P, c2, hv.grew hg⟩, h.ok, h.sets.grew hg, fun i hi => hg.cell (h.tab i hi)⟩
theorem St.scv {w0 w : World} {D : Nat} {l : List NodeE} {ss : List Value} {L : List As} {Ss : Nat → List Nat} (hs : St w0 (ExB D l ss :: L) w) (hok : ArOk l ss.length) (hsets : SetsOk w ss Ss) (hT : Tab w0) : ScV w D l ss Ss :=
  ⟨hs.exview, hok, hsets, hT.st hs⟩
theorem tel_out {l : List NodeE} {Ss : Nat → List Nat} {n : Int} (hn : n < 0 ∨ (l.length : Int) ≤ n) (i : Nat) : tel l Ss n i = false := exTell_out (by omega)
theorem nxt_out {p : Nat → Bool} (h : ∀ i, p i = false) (lo hi : Nat) : nxt p lo hi = -1 := (Nx.eq (.inl ⟨rfl, fun i _ _ => h i⟩)).symm
theorem scn_nil (n f : Int) (w : World) : Calls Tryd.prog 13 #[.pointer none, .int .i64 n, .int .i64 f] w fun e w' => e = .returned (.int .i64 (-1)) ∧ w' = w := by
  go_enter Tryd.func13, Tryd.ntmps13
  go_wp2_with (first
    | (go_at_call 39; refine (over_nil _ _).mono ?_; rintro e w' ⟨rfl, rfl⟩))
  go_ret
  exact ⟨rfl, rfl⟩
theorem scn_c {w : World} {D : Nat} {l : List NodeE} {ss : List Value} {Ss : Nat → List Nat} (hc : ScV w D l ss Ss) (n f : Int) {r : Int} (hr : Hid (nxt (tel l Ss n) f.toNat 16777216 = r)) :
    Calls Tryd.prog 13 #[ptr D, .int .i64 n, .int .i64 f] w fun e w' => e = .returned (.int .i64 r) ∧ Grew w w' := by
  have HC := Lib.hid hc
  obtain ⟨N, cap, P, cap2, hv⟩ := hc.view
  have HV := Lib.hid hv
  clear hc hv
  by_cases hn : 0 ≤ n ∧ n < l.length
  · obtain ⟨n, rfl⟩ := Int.eq_ofNat_of_zero_le hn.1
    have HN : Hid (n < l.length) := by have := hn.2; exact Int.ofNat_lt.1 this
    clear hn
    go_enter Tryd.func13, Tryd.ntmps13
    go_wp2_with (first
      | (go_at_call 39; refine (over_c HV.out HC.out.ok HC.out.sets HN.out).mono ?_; rintro e w' ⟨K, R, rfl, HS, hs⟩)
      | (go_at_call 42; refine (scnext_c HS (Lib.hid HC.out.tab) hs f hr).mono ?_; clear hs; rintro e w' ⟨rfl, hs⟩))
    go_ret
    exact ⟨rfl, hs.made_grew⟩
  · have HN : Hid (n < 0 ∨ (l.length : Int) ≤ n) := by rw [Hid]; omega
    have HR : Hid (r = -1) := by rw [Hid, ← hr.out]; exact nxt_out (tel_out HN.out) _ _
    clear hn
    go_enter Tryd.func13, Tryd.ntmps13
    go_wp2_with (first
      | (go_at_call 39; refine (over_none HV.out HN.out).mono ?_; rintro e w' ⟨rfl, rfl⟩))
    go_ret
    exact ⟨by rw [HR.out]; rfl, Grew.refl _⟩
def scMay (l : List NodeE) (Ss : Nat → List Nat) (n level at_ : Int) : Nat := if 0 ≤ n ∧ n < l.length then scW l Ss n.toNat level at_ else 0
theorem scMay_lt (l : List NodeE) (Ss : Nat → List Nat) (n level at_ : Int) : scMay l Ss n level at_ < 2 ^ 64 := by
  unfold scMay
  split
  · exact scW_lt _ _ _ _ _
  · decide
theorem scmay_c {w : World} {D : Nat} {l : List NodeE} {ss : List Value} {Ss : Nat → List Nat} (hc : ScV w D l ss Ss) (n level at_ : Int) {x : Nat} (hr : Hid (scMay l Ss n level at_ = x)) :
    Calls Tryd.prog 16 #[ptr D, .int .i64 n, .int .i64 level, .int .i64 at_] w fun e w' => e = .returned (.int .u64 (x : Nat)) ∧ Grew w w' := by
  have HC := Lib.hid hc
  obtain ⟨N, cap, P, cap2, hv⟩ := hc.view
  have HV := Lib.hid hv
  clear hc hv
  by_cases hn : 0 ≤ n ∧ n < l.length
  · have hr2 := hr.out
    unfold scMay at hr2
    rw [if_pos hn] at hr2
    have HR := Lib.hid hr2
    clear hr2 hr
    obtain ⟨n, rfl⟩ := Int.eq_ofNat_of_zero_le hn.1
    have HN : Hid (n < l.length) := by have := hn.2; exact Int.ofNat_lt.1 this
    clear hn
    rw [Int.toNat_natCast] at HR
    go_enter Tryd.func16, Tryd.ntmps16
    go_wp2_with (first
      | (go_at_call 39; refine (over_c HV.out HC.out.ok HC.out.sets HN.out).mono ?_; rintro e w' ⟨K, R, rfl, HS, hs⟩)
      | (go_at_call 41; refine (scword_c HS.out hs _ _ HR).mono ?_; clear hs; rintro e w' ⟨rfl, hs⟩))
    go_ret
    exact ⟨rfl, hs.made_grew⟩
  · have HN : Hid (n < 0 ∨ (l.length : Int) ≤ n) := by rw [Hid]; omega
    have HR : Hid (x = 0) := by rw [Hid, ← hr.out]; exact if_neg hn
    clear hn
    go_enter Tryd.func16, Tryd.ntmps16
    go_wp2_with (first
      | (go_at_call 39; refine (over_none HV.out HN.out).mono ?_; rintro e w' ⟨rfl, rfl⟩))
    go_ret
    exact ⟨by rw [HR.out]; rfl, Grew.refl _⟩
theorem scwd_c {w : World} {D : Nat} {l : List NodeE} {ss : List Value} {Ss : Nat → List Nat} (hc : ScV w D l ss Ss) (n at_ : Int) {x : Nat} (hr : Hid (scMay l Ss n 0 at_ = x)) :
    Calls Tryd.prog 15 #[ptr D, .int .i64 n, .int .i64 at_] w fun e w' => e = .returned (.int .u64 (x : Nat)) ∧ Grew w w' := by
  have HC := Lib.hid hc
  clear hc
  generalize hp : ptr D = p
  go_enter Tryd.func15, Tryd.ntmps15
  go_wp2_with (first
    | (go_at_call 16; subst hp; refine (scmay_c HC.out n 0 at_ hr).mono ?_; rintro e w' ⟨rfl, hg⟩))
  go_ret
  exact ⟨rfl, hg⟩

/-! ### List -/
def lenV : Value → Nat
  | .slice _ n _ => n
  | _ => 0
theorem in_word {p : Nat → Bool} {x a k : Nat} {q : Int} (hb : ∀ d, d < 64 → x.testBit d = p (64 * a + d)) (ha : a < 262144) (hq : q = firstW x k) (h0 : 0 ≤ q) : ∃ d : Nat, q = d ∧ d < 64 ∧ k ≤ d ∧ Nx p (64 * a + k) 16777216 ((64 * a + d : Nat) : Int) := by
  rcases firstW_cases x k with ⟨h1, _⟩ | ⟨e, h1, h2, h3, h4, h5⟩
  · omega
  · refine ⟨e, by omega, h3, by omega, .inr ⟨64 * a + e, rfl, by omega, by omega, by rw [← hb e h3]; exact h4, fun i hi1 hi2 => ?_⟩⟩
    have := h5 (i - 64 * a) (by omega) (by omega)
    rw [hb _ (by omega), show 64 * a + (i - 64 * a) = i by omega] at this
    exact this
theorem out_word {p : Nat → Bool} {x a k lo : Nat} {q : Int} (hb : ∀ d, d < 64 → x.testBit d = p (64 * a + d)) (hq : q = firstW x k) (h0 : q < 0) (hk : k ≤ 64) (hl : lo ≤ 64 * a + k) : sel p lo (64 * a + 64) = sel p lo (64 * a + k) := by
  rcases firstW_cases x k with ⟨h1, h2⟩ | ⟨e, h1, h2, h3, h4, h5⟩
  · rw [sel_cut p hl (show 64 * a + k ≤ 64 * a + 64 by omega), sel_none (a := 64 * a + k) (b := 64 * a + 64) (fun i hi1 hi2 => ?_), List.append_nil]
    have := h2 (i - 64 * a) (by omega) (by omega)
    rw [hb _ (by omega), show 64 * a + (i - 64 * a) = i by omega] at this
    exact this
  · omega
/-- Some are listed, up to c; the next one is q. -/
structure LiI (p : Nat → Bool) (lo m c : Nat) (o : List Nat) (q : Int) : Prop where
  hlo : lo ≤ c
  hhi : c ≤ 16777216
  ho : o = sel p lo c
  len : o.length ≤ m
  next : o.length < m → q = nxt p c 16777216
/-- .. within a word. -/
structure LiJ (p : Nat → Bool) (lo m a x b n0 k : Nat) (o : List Nat) (q : Int) : Prop where
  hlo : lo ≤ 64 * a + k
  hk : k ≤ 64
  ho : o = sel p lo (64 * a + k)
  len : o.length ≤ m
  hq : q = firstW x k
  more : n0 < o.length ∨ k = b ∧ o.length = n0
theorem LiI.done {p : Nat → Bool} {lo m c : Nat} {o : List Nat} {q : Int} (h : LiI p lo m c o q) (hq : q < 0 ∨ ¬ o.length < m) : lst p lo 16777216 m = o := by
  by_cases hl : o.length < m
  · have h1 : q < 0 := by
      rcases hq with h1 | h1
      · exact h1
      · exact absurd hl h1
    have h2 := h.next hl
    have h3 := sel_done h.hlo h.hhi (nxt_nx p c 16777216) (by omega)
    rw [lst_all (by rw [h3, ← h.ho]; omega), h3, h.ho]
  · rw [h.ho, lst_full h.hlo h.hhi (by rw [← h.ho]; have := h.len; omega)]
theorem LiI.word {p : Nat → Bool} {lo m c : Nat} {o : List Nat} {i : Nat} (h : LiI p lo m c o i) (hl : o.length < m) {x : Nat} : LiJ p lo m (i / 64) x (i % 64) o.length (i % 64) o (firstW x (i % 64 : Nat)) ∧ i < 16777216 ∧ p i = true := by
  have h1 := h.next hl
  rcases nxt_nx p c 16777216 with ⟨h2, _⟩ | ⟨k, h2, h3, h4, h5, h6⟩
  · omega
  · have hk : k = i := by omega
    subst hk
    have hlo := h.hlo
    refine ⟨⟨by omega, by omega, ?_, h.len, rfl, .inr ⟨rfl, rfl⟩⟩, h4, h5⟩
    rw [show 64 * (k / 64) + k % 64 = k by omega, h.ho, sel_cut p h.hlo h3, sel_none h6, List.append_nil]
theorem LiJ.step {p : Nat → Bool} {lo m a x b n0 k d : Nat} {o : List Nat} (h : LiJ p lo m a x b n0 k o d) (hb : ∀ d, d < 64 → x.testBit d = p (64 * a + d)) (ha : a < 262144) (hl : o.length < m) : d < 64 ∧ LiJ p lo m a x b n0 (d + 1) (o ++ [64 * a + d]) (firstW x ((d : Int) + 1)) := by
  obtain ⟨e, he, h1, h2, h3⟩ := in_word hb ha h.hq (by omega)
  have : e = d := by omega
  subst this
  have hlo := h.hlo
  refine ⟨h1, by omega, by omega, ?_, by simp; omega, by congr 1, .inl ?_⟩
  · rw [h.ho, ← sel_next hlo h3]; rfl
  · have := h.more
    simp
    omega
theorem LiJ.end_ {p : Nat → Bool} {lo m a x b n0 k : Nat} {o : List Nat} {q q' : Int} (h : LiJ p lo m a x b n0 k o q) (hb : ∀ d, d < 64 → x.testBit d = p (64 * a + d)) (ha : a < 262144) (hb2 : x.testBit b = true) (hb3 : b < 64) (hn : n0 < m) (hq : q < 0 ∨ ¬ o.length < m) (hq' : o.length < m → q' = nxt p (64 * a + 64) 16777216) : n0 < o.length ∧ ∃ c, LiI p lo m c o q' := by
  have hne : n0 < o.length := by
    rcases h.more with h1 | ⟨rfl, h1⟩
    · exact h1
    · rcases hq with h2 | h2
      · exfalso
        rcases firstW_cases x k with ⟨_, h3⟩ | ⟨e, h3, _⟩
        · have := h3 k (by omega) hb3
          rw [hb2] at this
          cases this
        · have := h.hq; omega
      · omega
  refine ⟨hne, ?_⟩
  have hlo := h.hlo
  have hk := h.hk
  by_cases hl : o.length < m
  · have h1 : q < 0 := by
      rcases hq with h1 | h1
      · exact h1
      · exact absurd hl h1
    exact ⟨64 * a + 64, by omega, by omega, by rw [out_word hb h.hq h1 hk hlo]; exact h.ho, h.len, hq'⟩
  · exact ⟨64 * a + k, hlo, by omega, h.ho, h.len, fun h1 => absurd h1 hl⟩
theorem li_measure {m n0 n1 : Nat} (h : n0 < n1) (h2 : n1 ≤ m) : m - n1 < m - n0 := by omega
attribute [local irreducible] firstW sel lst nxt
set_option maxHeartbeats 1000000 in
theorem sclist_c {w : World} {D : Nat} {l : List NodeE} {ss : List Value} {Ss : Nat → List Nat} (hc : ScV w D l ss Ss) (n f most : Int) {o : List Nat} {z : Nat} (hr : Hid (lst (tel l Ss n) f.toNat 16777216 (min most 100000).toNat = o)) (hz : Hid (o.length = z)) :
    Calls Tryd.prog 14 #[ptr D, .int .i64 n, .int .i64 f, .int .i64 most] w fun e w' => ∃ A cp, e = .returned (.slice A z cp) ∧ St w [own A z cp 3 1 (ints (natI o))] w' := by
  have HC := Lib.hid hc
  obtain ⟨N, cap, P, cap2, hv⟩ := hc.view
  have HV := Lib.hid hv
  clear hc hv
  by_cases hn : 0 ≤ n ∧ n < l.length
  · obtain ⟨n, rfl⟩ := Int.eq_ofNat_of_zero_le hn.1
    have HN : Hid (n < l.length) := by have := hn.2; exact Int.ofNat_lt.1 this
    clear hn
    by_cases h0 : min most 100000 ≤ 0
    · have d0 : decide (min most 100000 ≤ 0) = true := decide_eq_true h0
      have HR : Hid (o = []) := by
        rw [Hid, ← hr.out, show (min most 100000).toNat = 0 by omega]
        unfold lst
        rfl
      have hl0 : z = 0 := by rw [← hz.out, HR.out]; rfl
      subst hl0
      clear h0
      go_enter Tryd.func14, Tryd.ntmps14
      go_wp2_with (first
        | (go_at_call 39; refine (over_c HV.out HC.out.ok HC.out.sets HN.out).mono ?_; rintro e w' ⟨K, R, rfl, HS, hs⟩))
      go_ret
      exact ⟨none, 0, rfl, by rw [HR.out]; exact (hs.own_nil 3 1).rot.drop⟩
    · obtain ⟨m, hm⟩ : ∃ m : Nat, min most 100000 = (m : Int) := ⟨(min most 100000).toNat, by omega⟩
      have hm1 : 0 < m := by omega
      have hm2 : m ≤ 100000 := by omega
      rw [hm, Int.toNat_natCast] at hr
      have d0 : decide (m = 0) = false := decide_eq_false (by omega)
      have HT := Lib.hid HC.out.tab
      obtain ⟨lo, hlo⟩ : ∃ lo, lo = min f.toNat 16777216 := ⟨_, rfl⟩
      have HR : Hid (lst (tel l Ss (n : Nat)) lo 16777216 m = o) := by
        rw [Hid, ← hr.out, hlo]
        unfold lst
        rw [sel_lo]
      have HNX : Hid (nxt (tel l Ss (n : Nat)) f.toNat 16777216 = nxt (tel l Ss (n : Nat)) lo 16777216) := by rw [Hid, hlo, nxt_min]
      have hlo2 : lo ≤ 16777216 := by omega
      obtain ⟨q0, HQ0⟩ : ∃ q, Hid (nxt (tel l Ss (n : Nat)) lo 16777216 = q) := ⟨_, rfl⟩
      rw [HQ0.out] at HNX
      clear h0 hlo hr
      go_enter Tryd.func14, Tryd.ntmps14
      go_wp2_with (first
        | (go_at_call 39; refine (over_c HV.out HC.out.ok HC.out.sets HN.out).mono ?_; rintro e w' ⟨K, R, rfl, HS, hs⟩)
        | (go_at_call 42; refine (scnext_c HS HT hs f HNX).mono ?_; clear hs; rintro e w' ⟨rfl, hs⟩))
      replace hs := hs.own_nil 3 1
      have hst : LiI (tel l Ss (n : Nat)) lo m lo [] q0 := ⟨Nat.le_refl _, hlo2, (sel_empty (Nat.le_refl _)).symm, Nat.zero_le _, fun _ => HQ0.out.symm⟩
      go_loopw [11, 12] (fun ov iv wr => ∃ (c : Nat) (A : Option Addr) (cp : Nat) (o : List Nat) (z : Nat) (q : Int), ov = .slice A z cp ∧ iv = .int .i64 q ∧ Hid (o.length = z) ∧ LiI (tel l Ss (n : Nat)) lo m c o q ∧ St w [own A z cp 3 1 (ints (natI o)), WkB K D n R] wr) (fun ov _ _ => m - lenV ov)
      case atStart => exact ⟨lo, none, 0, [], 0, q0, rfl, rfl, rfl, hst, hs⟩
      case round =>
        clear hs hst
        obtain ⟨c, A, cp, o2, z2, q, rfl, rfl, HZ, HI, hs⟩ := hrel
        by_cases hg : 0 ≤ q ∧ z2 < m
        · obtain ⟨hq, hlt⟩ := hg
          obtain ⟨i, rfl⟩ := Int.eq_ofNat_of_zero_le hq
          obtain ⟨hJ, hi24, hpi⟩ := HI.word (by rw [HZ.out]; exact hlt) (x := scW l Ss n 0 ((i / 64 : Nat) : Int))
          obtain ⟨a, ha⟩ : ∃ a, i / 64 = a := ⟨_, rfl⟩
          obtain ⟨b, hb⟩ : ∃ b, i % 64 = b := ⟨_, rfl⟩
          rw [ha, hb] at hJ
          have ha2 : a < 262144 := by omega
          have hb2 : b < 64 := by omega
          obtain ⟨x, HX⟩ : ∃ x, Hid (scW l Ss n 0 (a : Nat) = x) := ⟨_, rfl⟩
          rw [HX.out] at hJ
          have HX64 : Hid (x < 2 ^ 64) := by rw [Hid, ← HX.out]; exact scW_lt _ _ _ _ _
          have HB : Hid (∀ d, d < 64 → x.testBit d = tel l Ss (n : Nat) (64 * a + d)) := fun d hd => by
            rw [← HX.out, scW_in ⟨by decide, by decide, by omega, by simp; omega⟩]
            exact mayW_tell2 HN.out ha2 hd
          have hxb : Hid (x.testBit b = true) := by rw [Hid, HB.out b hb2, show 64 * a + b = i by omega]; exact hpi
          have hd1 : (i : Int) / 64 = (a : Int) := by omega
          have hd2 : bits .and .i64 (i : Int) 63 = (b : Int) := by rw [i64_and63 i (by omega), hb]
          have d1 : decide (z2 < m) = true := decide_eq_true hlt
          have HZ2 := Lib.hid HZ.out
          rw [HZ.out] at hJ
          clear ha hb hpi HI
          replace hs := hs.rot
          have hT := HT.out.st hs
          go_wp2_with (first
            | (go_at_call 41; refine (scword_c HS.out hs _ _ HX).mono ?_; clear hs hT; rintro e w' ⟨rfl, hs⟩; have hT := HT.out.st hs)
            | (go_at_call 43; refine (first_c HX64.out _ _ hT).mono ?_; rintro e w' ⟨rfl, rfl⟩))
          replace hs := hs.rot
          clear hd1 hd2 hq
          go_loopw [11, 15] (fun ov dv wr => ∃ (k : Nat) (A : Option Addr) (cp : Nat) (o : List Nat) (z : Nat) (q : Int), ov = .slice A z cp ∧ dv = .int .i64 q ∧ Hid (o.length = z) ∧ LiJ (tel l Ss (n : Nat)) lo m a x b z2 k o q ∧ St w [own A z cp 3 1 (ints (natI o)), WkB K D n R] wr) (fun _ dv _ => downM (intOf dv))
          case atStart => exact ⟨b, A, cp, o2, z2, _, rfl, rfl, HZ2, hJ, hs⟩
          case round =>
            clear hs hJ hT
            obtain ⟨k, A, cp, o3, z3, q, rfl, rfl, HZ3, HJ, hs⟩ := hrel
            by_cases hg : 0 ≤ q ∧ z3 < m
            · obtain ⟨hq, hlt3⟩ := hg
              obtain ⟨d, rfl⟩ := Int.eq_ofNat_of_zero_le hq
              obtain ⟨hd64, hJ2⟩ := HJ.step HB.out ha2 (by rw [HZ3.out]; exact hlt3)
              have HZ4 : Hid ((o3 ++ [64 * a + d]).length = z3 + 1) := by rw [Hid, List.length_append, HZ3.out]; rfl
              have ho := or_up ha2 hd64
              have HO := Lib.hid (natI_snoc o3 (64 * a + d))
              generalize 64 * a + d = v at *
              have HM := Lib.hid (downM_first x d hd64)
              have HJ2 := Lib.hid hJ2
              have hT := HT.out.st hs
              have d2 : decide (z3 < m) = true := decide_eq_true hlt3
              have hz3 : z3 < 100000 := by omega
              clear HJ hq hJ2 hlt3
              go_wp2_with (first
                | (refine wpl_build1 (v := .int .i64 (v : Nat)) elem24 (by decide) rfl rfl hs ?_; clear hs; intro g w1 hs)
                | (refine wpl_append (B := some ⟨g, 0, none⟩) (m := 1) (news := [.int .i64 (v : Nat)]) elem24 rfl rfl hs (Ent.skip (Ent.refl _)) RdS.blk rfl (ints_one (v : Int)) (by unfold maxLen; omega) (by omega) ?_; clear hs; intro A2 cp2 w2 hs; rw [HO.out] at hs; replace hs := hs.rot.drop; have hT := HT.out.st hs)
                | (go_at_call 43; refine (first_c HX64.out _ _ hT).mono ?_; rintro e w' ⟨rfl, rfl⟩))
              go_roundw
              case rel => exact ⟨d + 1, A2, cp2, _, z3 + 1, _, rfl, rfl, HZ4, HJ2.out, hs⟩
              case measure => exact HM.out
            · obtain ⟨q', HQ'⟩ : ∃ q', Hid (nxt (tel l Ss (n : Nat)) (64 * a + 64) 16777216 = q') := ⟨_, rfl⟩
              have hend : q < 0 ∨ ¬ o3.length < m := by rw [HZ3.out]; omega
              by_cases hl3 : z3 < m
              · obtain ⟨hne, c2, hI2⟩ := HJ.end_ (q' := q') HB.out ha2 hxb.out hb2 hlt hend (fun _ => HQ'.out.symm)
                rw [HZ3.out] at hne
                have hq2 : q < 0 := by omega
                have HM := Lib.hid (li_measure hne (by omega : z3 ≤ m))
                have HI2 := Lib.hid hI2
                have d2 : decide (z3 < m) = true := decide_eq_true hl3
                have HQ2 : Hid (nxt (tel l Ss (n : Nat)) (((a : Int) + 1) * 64).toNat 16777216 = q') := by rw [Hid, ← HQ'.out]; congr 1; omega
                replace hs := hs.rot
                have HLT := Lib.hid hlt
                clear HJ hend hg hne hI2 hl3 hi24 d1 hlt
                go_wp2_with (first
                  | (go_at_call 42; refine (scnext_c HS HT hs _ HQ2).mono ?_; clear hs; rintro e w' ⟨rfl, hs⟩))
                replace hs := hs.rot
                go_roundw
                case rel => exact ⟨c2, A, cp, o3, z3, q', rfl, rfl, HZ3, HI2.out, hs⟩
                case measure => exact HM.out
              · obtain ⟨hne, c2, hI2⟩ := HJ.end_ (q' := (i : Int)) HB.out ha2 hxb.out hb2 hlt hend (fun h => absurd h (by rw [HZ3.out]; exact hl3))
                rw [HZ3.out] at hne
                have hzm : z3 ≤ m := by have := HJ.len; rw [HZ3.out] at this; exact this
                have HM := Lib.hid (li_measure hne hzm)
                have HI2 := Lib.hid hI2
                have d2 : decide (z3 < m) = false := decide_eq_false hl3
                clear HJ hend hg hne hI2 hl3 hi24 d1 hlt hzm
                by_cases hq : 0 ≤ q
                · go_wp2
                  go_roundw
                  case rel => exact ⟨c2, A, cp, o3, z3, _, rfl, rfl, HZ3, HI2.out, hs⟩
                  case measure => exact HM.out
                · go_wp2
                  go_roundw
                  case rel => exact ⟨c2, A, cp, o3, z3, _, rfl, rfl, HZ3, HI2.out, hs⟩
                  case measure => exact HM.out
        · have HE : Hid (o2 = o) := by
            rw [Hid, ← HR.out]
            exact (HI.done (by rw [HZ.out]; omega)).symm
          have HZE : Hid (z2 = z) := by rw [Hid, ← HZ.out, HE.out, hz.out]
          clear HI
          by_cases hq : 0 ≤ q
          · have d1 : decide (z2 < m) = false := decide_eq_false (by omega)
            clear hg
            go_wp2
            go_ret
            have h1 := HE.out
            have h2 := HZE.out
            subst h1 h2
            exact ⟨A, cp, rfl, hs.rot.drop⟩
          · clear hg
            go_wp2
            go_ret
            have h1 := HE.out
            have h2 := HZE.out
            subst h1 h2
            exact ⟨A, cp, rfl, hs.rot.drop⟩
  · skip
    have HN : Hid (n < 0 ∨ (l.length : Int) ≤ n) := by rw [Hid]; omega
    have HR : Hid (o = []) := by
      rw [Hid, ← hr.out]
      unfold lst
      rw [sel_none fun i _ _ => tel_out HN.out i, List.take_nil]
    have hl0 : z = 0 := by rw [← hz.out, HR.out]; rfl
    subst hl0
    have hs := (St.start w).own_nil 3 1
    clear hn
    go_enter Tryd.func14, Tryd.ntmps14
    go_wp2_with (first
      | (go_at_call 39; refine (over_none HV.out HN.out).mono ?_; rintro e w' ⟨rfl, rfl⟩))
    go_ret
    exact ⟨none, 0, rfl, by rw [HR.out]; exact hs⟩
end Go.Proofs.YtpnjoeiohigjmaaDoor
