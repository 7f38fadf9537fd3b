/-
  Expressions (expr.Arena), 5: what an Arena reads as; Needs.
-/
import Derived.Test.YtkcbjkadalebjaaEx4
set_option maxRecDepth 100000
namespace Go.Proofs.Ytkcbjkadalebjaa
open Go Go.RowKit
attribute [local irreducible] wpList Calls Code.wp

/-- Nodes that may be, of m sets. -/
structure ArOk (l : List NodeE) (m : Nat) : Prop where
  few : l.length ≤ 1000
  kind : ∀ (i : Nat) (x : NodeE), l[i]? = some x → 1 ≤ x.k ∧ x.k ≤ 5 ∧ x.kids.length ≤ 64
  set : ∀ (i : Nat) (x : NodeE), l[i]? = some x → x.k = 1 → ∃ s, x.kids = [s] ∧ s < m
  not : ∀ (i : Nat) (x : NodeE), l[i]? = some x → x.k = 5 → x.kids.length = 1
  low : ∀ (i : Nat) (x : NodeE), l[i]? = some x → x.k ≠ 1 → ∀ y ∈ x.kids, y < i
/-- What stands in memory of an Arena. -/
structure ExV (D : Nat) (l : List NodeE) (ss : List Value) (N : Option Addr) (cap : Nat) (P : Option Addr) (cap2 : Nat) (w : World) : Prop where
  d0 : w.cell? ⟨D, 0, none⟩ = some (.slice N l.length cap)
  d1 : w.cell? ⟨D, 1, none⟩ = some (.slice P ss.length cap2)
  row : ∀ (i : Nat) (x : NodeE), l[i]? = some x → ∃ g B bc, N = some ⟨g, 0, none⟩ ∧ w.cell? ⟨g, i * 2, none⟩ = some (.int .i64 (x.k : Nat)) ∧ w.cell? ⟨g, i * 2 + 1, none⟩ = some (.slice B x.kids.length bc) ∧
    (∀ (j y : Nat), x.kids[j]? = some y → ∃ b, B = some ⟨b, 0, none⟩ ∧ w.cell? ⟨b, j, none⟩ = some (.int .i64 (y : Nat)))
  set : ∀ (i : Nat) (v : Value), ss[i]? = some v → ∃ g, P = some ⟨g, 0, none⟩ ∧ w.cell? ⟨g, i, none⟩ = some v
theorem ExV.grew {D : Nat} {l : List NodeE} {ss : List Value} {N P : Option Addr} {cap cap2 : Nat} {w w' : World} (h : ExV D l ss N cap P cap2 w) (hg : Grew w w') : ExV D l ss N cap P cap2 w' :=
  ⟨hg.cell h.d0, hg.cell h.d1, fun i x hx => by
    obtain ⟨g, B, bc, h1, h2, h3, h4⟩ := h.row i x hx
    exact ⟨g, B, bc, h1, hg.cell h2, hg.cell h3, fun j y hy => let ⟨b, h5, h6⟩ := h4 j y hy; ⟨b, h5, hg.cell h6⟩⟩, fun i v hv => let ⟨g, h1, h2⟩ := h.set i v hv; ⟨g, h1, hg.cell h2⟩⟩
theorem krs_get : ∀ {rs : List KR} {i : Nat} {r : KR}, rs[i]? = some r → ∀ j u, (krV r)[j]? = some u → (rs.flatMap krV)[i * 2 + j]? = some u
  | [], i, r, h, _, _, _ => by simp at h
  | x :: rs, 0, r, h, j, u, hu => by
    simp at h
    subst h
    rw [List.flatMap_cons, Nat.zero_mul, Nat.zero_add, List.getElem?_append_left (by rw [krV_len]; have := (List.getElem?_eq_some_iff.1 hu).1; rw [krV_len] at this; exact this)]
    exact hu
  | x :: rs, i + 1, r, h, j, u, hu => by
    rw [List.flatMap_cons, List.getElem?_append_right (by rw [krV_len]; omega), krV_len, show (i + 1) * 2 + j - 2 = i * 2 + j by omega]
    exact krs_get (by simpa using h) j u hu
theorem Ent.pick {L : List As} : ∀ {M : List As} {i : Nat} {p : As}, M[i]? = some p → ∃ M', Ent (M ++ L) (p :: M')
  | [], i, p, h => by simp at h
  | q :: M, 0, p, h => by
    simp at h
    subst h
    exact ⟨_, Ent.refl _⟩
  | q :: M, i + 1, p, h => by
    obtain ⟨M', h'⟩ := Ent.pick (L := L) (M := M) (i := i) (p := p) (by simpa using h)
    exact ⟨_, Ent.skip h'⟩
theorem St.exview {w0 w : World} {D : Nat} {l : List NodeE} {ss : List Value} {L : List As} (hs : St w0 (ExB D l ss :: L) w) : ∃ N cap P cap2, ExV D l ss N cap P cap2 w := by
  obtain ⟨rs, N, cap, P, cap2, hrs, hs⟩ := hs.exopen
  obtain ⟨d0, d1⟩ := exRd hs
  refine ⟨N, cap, P, cap2, d0, d1, fun i x hx => ?_, fun i v hv => ?_⟩
  · have hN := hs.rot
    obtain ⟨r, hr, rfl⟩ : ∃ r, rs[i]? = some r ∧ r.e = x := by
      subst hrs
      rw [List.getElem?_map] at hx
      cases h : rs[i]? with
      | none => rw [h] at hx; cases hx
      | some r => rw [h] at hx; exact ⟨r, rfl, by simpa using hx⟩
    have hpos : 0 < l.length := by have := (List.getElem?_eq_some_iff.1 hx).1; omega
    obtain ⟨g, rfl⟩ := hN.own_at hpos
    refine ⟨g, r.B, r.cap, rfl, ?_, ?_, fun j y hy => ?_⟩
    · exact Rd.own (krs_get hr 0 _ rfl) _ hN
    · exact Rd.own (krs_get hr 1 _ rfl) _ hN
    · have hk : (rs.map krA)[i]? = some (krA r) := by rw [List.getElem?_map, hr]; rfl
      obtain ⟨M', hp⟩ := Ent.pick (L := L) hk
      have h3 := hs.drop.drop.drop.ent hp
      have hpos2 : 0 < r.e.kids.length := by have := (List.getElem?_eq_some_iff.1 hy).1; omega
      obtain ⟨b, hb⟩ := St.own_at h3 hpos2
      refine ⟨b, hb, ?_⟩
      unfold krA at h3
      rw [hb] at h3
      refine Rd.own (ints_get (x := (y : Int)) ?_) _ h3
      unfold kI
      rw [List.getElem?_map, hy]
      rfl
  · have hP := hs.up2
    have hpos : 0 < ss.length := by have := (List.getElem?_eq_some_iff.1 hv).1; omega
    obtain ⟨g, rfl⟩ := hP.own_at hpos
    exact ⟨g, rfl, Rd.own hv _ hP⟩

/-! ### Needs -/
/-- Rising numbers up to n, closed under kids. -/
structure NeedOk (l : List NodeE) (n : Nat) (R : List Nat) : Prop where
  sorted : R.Pairwise (· < ·)
  last : R.getLast? = some n
  low : ∀ i ∈ R, i ≤ n
  kids : ∀ i ∈ R, ∀ x, l[i]? = some x → x.k ≠ 1 → ∀ y ∈ x.kids, y ∈ R
def mkV (b : Bool) : Int := if b then 1 else 0
def flg (n : Nat) (mk : Nat → Bool) : List Int := (List.range (n + 1)).map fun j => mkV (mk j)
theorem flg_len (n : Nat) (mk : Nat → Bool) : (flg n mk).length = n + 1 := by simp [flg]
theorem flg_get {n j : Nat} {mk : Nat → Bool} (h : j ≤ n) : (flg n mk)[j]? = some (mkV (mk j)) := by
  unfold flg
  rw [List.getElem?_map, List.getElem?_range (by omega)]
  rfl
theorem flg_set {n j : Nat} {mk : Nat → Bool} (h : j ≤ n) : (ints (flg n mk)).set j (.int .i64 1) = ints (flg n fun i => mk i || i == j) := by
  apply List.ext_getElem?
  intro k
  by_cases hk : k ≤ n
  · rw [ints_get (flg_get (mk := fun i => mk i || i == j) hk), List.getElem?_set]
    split
    · rename_i e
      subst e
      rw [if_pos (by rw [ints_len, flg_len]; omega)]
      simp [mkV]
    · rename_i e
      rw [ints_get (flg_get hk)]
      have : (k == j) = false := by simp; omega
      rw [this, Bool.or_false]
  · rw [List.getElem?_eq_none (by rw [List.length_set, ints_len, flg_len]; omega), List.getElem?_eq_none (by rw [ints_len, flg_len]; omega)]
structure NeedI (l : List NodeE) (n i : Nat) (mk : Nat → Bool) : Prop where
  top : mk n = true
  kids : ∀ j, i ≤ j → j ≤ n → mk j = true → ∀ x : NodeE, l[j]? = some x → x.k ≠ 1 → ∀ y ∈ x.kids, mk y = true
def marks (mk : Nat → Bool) (l : List Nat) : Nat → Bool := fun j => mk j || l.contains j
theorem NeedI.skip {l : List NodeE} {n i : Nat} {mk : Nat → Bool} (h : NeedI l n (i + 1) mk) (hx : mk i = true → ∀ x, l[i]? = some x → x.k = 1) : NeedI l n i mk :=
  ⟨h.top, fun j hij hj hm x hl hk => by
    by_cases e : i = j
    · subst e; exact absurd (hx hm x hl) hk
    · exact h.kids j (by omega) hj hm x hl hk⟩
theorem NeedI.mark {l : List NodeE} {n m i : Nat} {mk : Nat → Bool} {x : NodeE} (h : NeedI l n (i + 1) mk) (hok : ArOk l m) (hx : l[i]? = some x) (hk : x.k ≠ 1) : NeedI l n i (marks mk x.kids) :=
  ⟨by unfold marks; rw [h.top]; rfl, fun j hij hj hm x' hl hk' y hy => by
    by_cases e : i = j
    · subst e
      rw [hx] at hl
      injection hl with hl
      subst hl
      unfold marks
      rw [Bool.or_eq_true]
      right
      simpa using hy
    · have hmj : mk j = true := by
        unfold marks at hm
        rcases Bool.or_eq_true _ _ ▸ hm with h1 | h1
        · exact h1
        · have hjk : j ∈ x.kids := by simpa using h1
          have := hok.low i x hx hk j hjk
          omega
      unfold marks
      rw [h.kids j (by omega) hj hmj x' hl hk' y hy]
      rfl⟩
theorem NeedI.ok {l : List NodeE} {n m : Nat} {mk : Nat → Bool} (h : NeedI l n 0 mk) (hok : ArOk l m) : NeedOk l n ((List.range (n + 1)).filter mk) := by
  refine ⟨List.Pairwise.filter _ List.pairwise_lt_range, ?_, ?_, ?_⟩
  · rw [List.range_succ, List.filter_append, List.filter_cons_of_pos h.top, List.filter_nil, List.getLast?_append]
    rfl
  · intro i hi
    have := (List.mem_filter.1 hi).1
    rw [List.mem_range] at this
    omega
  · intro i hi x hx hk y hy
    obtain ⟨h1, h2⟩ := List.mem_filter.1 hi
    rw [List.mem_range] at h1
    have := hok.low i x hx hk y hy
    exact List.mem_filter.2 ⟨List.mem_range.2 (by omega), h.kids i (Nat.zero_le _) (by omega) h2 x hx hk y hy⟩
theorem marks_nil (mk : Nat → Bool) : marks mk [] = mk := by funext j; simp [marks]
theorem marks_snoc (mk : Nat → Bool) (l : List Nat) (y : Nat) : (fun i => marks mk l i || i == y) = marks mk (l ++ [y]) := by
  funext j
  unfold marks
  rw [Bool.or_assoc]
  congr 1
  rw [Bool.eq_iff_iff]
  simp
theorem filter_snoc (mk : Nat → Bool) (k : Nat) : (List.range (k + 1)).filter mk = (List.range k).filter mk ++ if mk k then [k] else [] := by
  rw [List.range_succ, List.filter_append]
  congr 1
  cases h : mk k <;> simp [h]
def natI (l : List Nat) : List Int := l.map Int.ofNat
theorem natI_len (l : List Nat) : (natI l).length = l.length := by simp [natI]
theorem needs_none {w : World} {D : Nat} {l : List NodeE} {ss : List Value} {N P : Option Addr} {cap cap2 : Nat} (hv : ExV D l ss N cap P cap2 w) {n : Int} (hn : n < 0 ∨ (l.length : Int) ≤ n) :
    Calls Try.prog 34 #[ptr D, .int .i64 n] w fun e w' => e = .returned (.slice none 0 0) ∧ w' = w := by
  have d0 := hv.d0
  clear hv
  unfold ptr
  by_cases h0 : n < 0
  · go_enter Try.func34, Try.ntmps34
    go_wp2
    go_ret
    exact ⟨rfl, rfl⟩
  · have h1 : decide ((l.length : Int) ≤ n) = true := decide_eq_true (by omega)
    clear hn
    go_enter Try.func34, Try.ntmps34
    go_wp2
    go_ret
    exact ⟨rfl, rfl⟩
theorem made_flg (n : Nat) : (madeCells (Value.int .i64 0).cells ((n + 1) * 1)).toList = ints (flg n fun _ => false) := by
  rw [show (Value.int .i64 0).cells = #[Value.int .i64 0] from rfl, Nat.mul_one, toList_madeCells_one]
  unfold ints flg
  rw [List.map_map]
  apply List.ext_getElem (by simp)
  intro i h1 h2
  simp [mkV]
theorem ints_natI_len (R : List Nat) : (ints (natI R)).length = R.length := by rw [ints_len, natI_len]
theorem natI_snoc (R : List Nat) (k : Nat) : ints (natI R) ++ [.int .i64 (k : Nat)] = ints (natI (R ++ [k])) := by simp [ints, natI]
attribute [local irreducible] flg marks
set_option maxHeartbeats 1000000 in
theorem needs_c {w : World} {D m : Nat} {l : List NodeE} {ss : List Value} {N P : Option Addr} {cap cap2 : Nat} (hv : ExV D l ss N cap P cap2 w) (hok : ArOk l m) {n : Nat} (hn : n < l.length) :
    Calls Try.prog 34 #[ptr D, .int .i64 (n : Nat)] w fun e w' => ∃ A cap R, e = .returned (.slice A R.length cap) ∧ NeedOk l n R ∧ St w [own A R.length cap 3 1 (ints (natI R))] w' := by
  have d0 := hv.d0
  have hfew := hok.few
  have HO := Lib.hid hok
  have HV := Lib.hid hv
  have hw := St.start w
  clear hv hok
  have g0 : decide ((n : Int) < 0) = false := decide_eq_false (by omega)
  have g1 : decide (l.length ≤ n) = false := decide_eq_false (by omega)
  unfold ptr
  go_enter Try.func34, Try.ntmps34
  go_wp2_with (first
    | (at_make; refine wpl_make (n := n + 1) (bytes := 8) (size := 1) (z := .int .i64 0) Try.underlying22 (by kernel_rfl) rfl rfl rfl (by omega) (by unfold maxLen; omega) hw ?_; clear hw; intro g w1 hw; rw [made_flg] at hw)
    | (refine wpl_store (v := .int .i64 1) rfl rfl rfl size_int hw (Wr.own (by rw [ints_len, flg_len]; omega)) ?_; clear hw; intro w1 hw; rw [flg_set (Nat.le_refl n)] at hw))
  clear g0 g1
  go_loopw [6] (fun cv wr => ∃ (k : Nat) (mk : Nat → Bool), k ≤ n + 1 ∧ cv = .int .i64 ((k : Int) - 1) ∧ NeedI l n k mk ∧ St w [own (some ⟨g, 0, none⟩) (n + 1) (n + 1) 3 1 (ints (flg n mk))] wr) (fun cv _ => (intOf cv + 1).toNat)
  case atStart => exact ⟨n + 1, _, Nat.le_refl _, by simp, ⟨by simp, fun j h1 h2 => by omega⟩, hw⟩
  case round =>
    obtain ⟨k, mk, hk, rfl, HI, hs⟩ := hrel
    clear hw
    cases k with
    | zero =>
      rw [show ((0 : Nat) : Int) - 1 = -1 from rfl]
      replace hs := (hs.own_nil 3 1)
      go_wp2
      go_loopw [9, 69] (fun ov cv wr => ∃ (k : Nat) (A : Option Addr) (cp : Nat) (R : List Nat), k ≤ n + 1 ∧ ov = .slice A R.length cp ∧ cv = .int .i64 (k : Nat) ∧ Hid (R = (List.range k).filter mk) ∧ St w [own A R.length cp 3 1 (ints (natI R)), own (some ⟨g, 0, none⟩) (n + 1) (n + 1) 3 1 (ints (flg n mk))] wr) (fun _ cv _ => n + 1 - (intOf cv).toNat)
      case atStart => exact ⟨0, none, 0, [], Nat.zero_le _, rfl, rfl, rfl, hs⟩
      case round =>
        obtain ⟨k, A, cp, R, hk, rfl, rfl, HR, hs⟩ := hrel
        by_cases hlt : k < n + 1
        · have hRl : R.length ≤ k := by
            rw [HR.out]
            exact Nat.le_trans (List.length_filter_le _ _) (by rw [List.length_range]; exact Nat.le_refl _)
          have hc := Rd.own (w0 := w) (g := g) (n := n + 1) (cap := n + 1) (e := 3) (size := 1) (L := [own A R.length cp 3 1 (ints (natI R))]) (ints_get (flg_get (mk := mk) (show k ≤ n by omega))) _ hs.rot
          have HF := Lib.hid (filter_snoc mk k)
          rw [← HR.out] at HF
          cases hmk : mk k with
          | false =>
            rw [hmk] at hc HF
            replace hc : wr.cell? ⟨g, k, none⟩ = some (.int .i64 0) := hc
            clear hmk
            go_wp2
            go_roundw
            case rel => exact ⟨k + 1, A, cp, R, by omega, rfl, by go_num, by rw [Hid, HF.out]; simp, hs⟩
            case measure => simp [intOf] <;> omega
          | true =>
            rw [hmk] at hc HF
            replace hc : wr.cell? ⟨g, k, none⟩ = some (.int .i64 1) := hc
            clear hmk
            go_wp2_with (first
              | (refine wpl_build1 (v := .int .i64 (k : Nat)) elem24 (by decide) rfl rfl hs ?_; clear hs; intro gb w2 hs)
              | (refine wpl_append (B := some ⟨gb, 0, none⟩) (m := 1) (news := [.int .i64 (k : Nat)]) elem24 rfl rfl hs (Ent.skip (Ent.refl _)) RdS.blk rfl (ints_one' [(k : Int)]) (by unfold maxLen; omega) (by omega) ?_; clear hs; intro A2 cp2 w2 hs; rw [natI_snoc] at hs))
            go_roundw
            case rel => exact ⟨k + 1, A2, cp2, R ++ [k], by omega, by rw [List.length_append]; rfl, by go_num, by rw [Hid, HF.out]; simp, by rw [List.length_append]; exact hs.rot.drop⟩
            case measure => simp [intOf] <;> omega
        · have hkn : k = n + 1 := by omega
          subst hkn
          go_wp2
          go_ret
          exact ⟨A, cp, R, rfl, by rw [HR.out]; exact HI.ok HO.out, hs.rot.drop⟩
    | succ i =>
      rw [show ((i + 1 : Nat) : Int) - 1 = (i : Int) by omega]
      have hin : i ≤ n := by omega
      obtain ⟨x, hx⟩ : ∃ x, l[i]? = some x := ⟨_, List.getElem?_eq_getElem (by omega)⟩
      have hc := Rd.own (w0 := w) (g := g) (n := n + 1) (cap := n + 1) (e := 3) (size := 1) (L := []) (ints_get (flg_get (mk := mk) hin)) _ hs
      obtain ⟨gn, B, bc, rfl, r1, r2, r3⟩ := HV.out.row i x hx
      replace d0 := hs.made_grew.cell d0
      replace r1 := hs.made_grew.cell r1
      replace r2 := hs.made_grew.cell r2
      have hil : i < l.length := by omega
      cases hmk : mk i with
      | false =>
        rw [hmk] at hc
        replace hc : wr.cell? ⟨g, i, none⟩ = some (.int .i64 0) := hc
        have HI2 := Lib.hid (HI.skip (fun h => by rw [hmk] at h; cases h))
        clear hmk HI hx r1 r2 r3
        go_wp2
        go_roundw
        case rel => exact ⟨i, mk, by omega, rfl, HI2.out, hs⟩
        case measure => simp [intOf] <;> omega
      | true =>
        rw [hmk] at hc
        replace hc : wr.cell? ⟨g, i, none⟩ = some (.int .i64 1) := hc
        clear hmk
        by_cases hk1 : x.k = 1
        · rw [hk1] at r1
          have HI2 := Lib.hid (HI.skip (fun _ x' h => by rw [hx] at h; injection h with h; subst h; exact hk1))
          clear HI hx r2 r3 hk1
          go_wp2
          go_roundw
          case rel => exact ⟨i, mk, by omega, rfl, HI2.out, hs⟩
          case measure => simp [intOf] <;> omega
        · have HI2 := Lib.hid (HI.mark HO.out hx hk1)
          have hlow := Lib.hid (HO.out.low i x hx hk1)
          have hq : ((x.k : Int) == 1) = false := by simp; omega
          have h64 := (HO.out.kind i x hx).2.2
          have HX := Lib.hid hx
          have R3 := Lib.hid r3
          clear HI hx r3 hk1
          go_wp2
          go_loopw [59] (fun cv wi => ∃ j : Nat, j ≤ x.kids.length ∧ cv = .int .i64 (j : Nat) ∧ St w [own (some ⟨g, 0, none⟩) (n + 1) (n + 1) 3 1 (ints (flg n (marks mk (x.kids.take j))))] wi) (fun cv _ => x.kids.length - (intOf cv).toNat)
          case atStart => exact ⟨0, Nat.zero_le _, rfl, by rw [List.take_zero, marks_nil]; exact hs⟩
          case round =>
            obtain ⟨j, hj, rfl, hs2⟩ := hrel
            clear hs hc d0 r1 r2 hq
            by_cases hlt : j < x.kids.length
            · obtain ⟨y, hy⟩ : ∃ y, x.kids[j]? = some y := ⟨_, List.getElem?_eq_getElem hlt⟩
              obtain ⟨b, rfl, hc⟩ := R3.out j y hy
              replace hc := hs2.made_grew.cell hc
              have hyi := hlow.out y (List.mem_of_getElem? hy)
              have HT : Hid ((fun q => marks mk (x.kids.take j) q || q == y) = marks mk (x.kids.take (j + 1))) := by
                rw [Hid, marks_snoc, List.take_add_one, hy]
                rfl
              clear hy
              go_wp2_with (first
                | (refine wpl_store (v := .int .i64 1) rfl rfl rfl size_int hs2 (Wr.own (by rw [ints_len, flg_len]; omega)) ?_; clear hs2 hc; intro w1 hs2; rw [flg_set (show y ≤ n by omega), HT.out] at hs2))
              go_roundw
              case rel => exact ⟨j + 1, by omega, by go_num, hs2⟩
              case measure => simp [intOf] <;> omega
            · have hjn : j = x.kids.length := by omega
              subst hjn
              rw [List.take_length] at hs2
              go_wp2
              go_roundw
              case rel => exact ⟨i, marks mk x.kids, by omega, rfl, HI2.out, hs2⟩
              case measure => simp [intOf] <;> omega
end Go.Proofs.Ytkcbjkadalebjaa
