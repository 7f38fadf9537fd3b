/-
  The document's answer for going over, 2: all numbers of the sets, a number of none; the next one of a node.
-/
import Derived.Test.YtpnjoeiohigjmaaDoorScDo
set_option maxRecDepth 100000
namespace Go.Proofs.YtpnjoeiohigjmaaDoor
open Go Go.RowKit
attribute [local irreducible] wpList Calls Code.wp wordS exTell

/-! ### Plain law -/
def insAll (l : List Nat) : List Nat := l.foldl (fun u a => insS a u) []
theorem insAll_snoc (l : List Nat) (a : Nat) : insAll (l ++ [a]) = insS a (insAll l) := by simp [insAll]
theorem mem_insAll_aux : ∀ (l u : List Nat) (a : Nat), a ∈ l.foldl (fun u a => insS a u) u ↔ a ∈ u ∨ a ∈ l
  | [], u, a => by simp
  | b :: l, u, a => by
    rw [List.foldl_cons, mem_insAll_aux l, mem_insS, List.mem_cons]
    constructor
    · rintro ((h | h) | h)
      · exact .inr (.inl h)
      · exact .inl h
      · exact .inr (.inr h)
    · rintro (h | h | h)
      · exact .inl (.inr h)
      · exact .inl (.inl h)
      · exact .inr h
theorem mem_insAll {l : List Nat} {a : Nat} : a ∈ insAll l ↔ a ∈ l := by
  unfold insAll
  rw [mem_insAll_aux]
  simp
theorem sorted_insAll (l : List Nat) : (insAll l).Pairwise (· < ·) := by
  suffices h : ∀ (l u : List Nat), u.Pairwise (· < ·) → (l.foldl (fun u a => insS a u) u).Pairwise (· < ·) from h l [] List.Pairwise.nil
  intro l
  induction l with
  | nil => intro u h; exact h
  | cons a l ih => intro u h; exact ih _ (sorted_insS h)
theorem len_insAll (l : List Nat) : (insAll l).length ≤ l.length := by
  suffices h : ∀ (l u : List Nat), (l.foldl (fun u a => insS a u) u).length ≤ u.length + l.length from by
    have := h l []
    simpa [insAll] using this
  intro l
  induction l with
  | nil => intro u; simp
  | cons a l ih =>
    intro u
    rw [List.foldl_cons]
    have h1 := ih (insS a u)
    have h2 := insS_len a u
    rw [List.length_cons]
    omega
/-- The numbers of all sets. -/
def ksU (ks : List KS) : List Nat := insAll (ks.flatMap KS.S)
theorem mem_ksU {ks : List KS} {a : Nat} : a ∈ ksU ks ↔ ∃ k ∈ ks, a ∈ k.S := by
  unfold ksU
  rw [mem_insAll, List.mem_flatMap]
theorem flat_few {ks : List KS} (h : KsOk ks) : (ks.flatMap KS.S).length ≤ 40 * ks.length := by
  have h2 := h.few
  clear h
  induction ks with
  | nil => simp
  | cons k ks ih =>
    rw [List.flatMap_cons, List.length_append, List.length_cons]
    have := h2 k List.mem_cons_self
    have := ih fun x hx => h2 x (List.mem_cons_of_mem _ hx)
    omega
/-- A number of no set is as good as another. -/
theorem exTell_free {l : List NodeE} {ks : List KS} {n : Int} {i j : Nat} (hi : i < 16777216) (hj : j < 16777216) (h1 : i ∉ ksU ks) (h2 : j ∉ ksU ks) : exTell l (ksS ks) n i = exTell l (ksS ks) n j := by
  have key : ∀ i : Nat, i ∉ ksU ks → (fun s => memS (ksS ks s) (i : Int)) = fun _ => false := fun i hi => by
    funext s
    cases h : memS (ksS ks s) (i : Int) with
    | false => rfl
    | true =>
      exfalso
      have hm := memS_nat.1 h
      unfold ksS at hm
      rw [List.getD_eq_getElem?_getD, List.getElem?_map] at hm
      cases hk : ks[s]? with
      | none => rw [hk] at hm; cases hm
      | some k =>
        rw [hk] at hm
        exact hi (mem_ksU.2 ⟨k, List.mem_of_getElem? hk, hm⟩)
  unfold exTell
  rw [key i h1, key j h2]
  congr 1
  rw [decide_eq_decide]
  omega
/-- What the document stands on. -/
structure RfV (w : World) (E B C : Option Addr) (l : List NodeE) (ks : List KS) (q m : Nat) : Prop where
  len : l.length = q
  ok : ArOk l m
  nd : NdV w E (l.map toR)
  kv : KsV w B C ks
  kl : ks.length = m
  m6 : m ≤ 6
  kok : KsOk ks
theorem RfV.grew {w w' : World} {E B C : Option Addr} {l : List NodeE} {ks : List KS} {q m : Nat} (h : RfV w E B C l ks q m) (hg : Grew w w') : RfV w' E B C l ks q m := ⟨h.len, h.ok, h.nd.grew hg, h.kv.grew hg, h.kl, h.m6, h.kok⟩
theorem tells_v {w : World} {E B C : Option Addr} {l : List NodeE} {ks : List KS} {q m ce c2 : Nat} (h : RfV w E B C l ks q m) (n i : Int) {b : Bool} (hb : Hid (exTell l (ksS ks) n i = b)) :
    Calls Tryd.prog 56 #[.slice E q ce, .slice C m c2, .int .i64 n, .int .i64 i] w fun e w' => e = .returned (.bool b) ∧ Grew w w' :=
  reftells_c (Lib.hid h.len) h.ok h.nd h.kv (Lib.hid h.kl) h.kok n i hb
attribute [local irreducible] insAll ksU ksS
theorem ksU_sorted (ks : List KS) : (ksU ks).Pairwise (· < ·) := by unfold ksU; exact sorted_insAll _
theorem ksU_len {ks : List KS} {m : Nat} (h : KsOk ks) (hm : ks.length = m) (h6 : m ≤ 6) : (ksU ks).length ≤ 240 := by
  unfold ksU
  have h1 := len_insAll (ks.flatMap KS.S)
  have h2 := flat_few h
  omega
theorem ksU_lt {ks : List KS} (h : KsOk ks) : ∀ a ∈ ksU ks, a < 16777216 := fun a ha => by
  obtain ⟨k, hk, h1⟩ := mem_ksU.1 ha
  exact h.small k hk a h1
def upK (ks : List KS) (i v : Nat) : List Nat := insAll ((ks.take i).flatMap KS.S ++ ((ks.drop i).headD ⟨0, [], none, 0⟩).S.take v)
theorem upK_start (ks : List KS) : upK ks 0 0 = [] := by unfold upK; simp; unfold insAll; rfl
theorem upK_step {ks : List KS} {i v a : Nat} {k : KS} (hk : ks[i]? = some k) (ha : k.S[v]? = some a) : upK ks i (v + 1) = insS a (upK ks i v) := by
  have e : (ks.drop i).headD ⟨0, [], none, 0⟩ = k := by
    obtain ⟨hi, he⟩ := List.getElem?_eq_some_iff.1 hk
    rw [List.drop_eq_getElem_cons hi, he]
    rfl
  unfold upK
  rw [e, List.take_add_one, ha, ← insAll_snoc, List.append_assoc]
  rfl
theorem upK_zero {ks : List KS} {i : Nat} {k : KS} (hk : ks[i]? = some k) : upK ks (i + 1) 0 = upK ks i k.S.length := by
  have e : (ks.drop i).headD ⟨0, [], none, 0⟩ = k := by
    obtain ⟨hi, he⟩ := List.getElem?_eq_some_iff.1 hk
    rw [List.drop_eq_getElem_cons hi, he]
    rfl
  unfold upK
  rw [e, List.take_zero, List.append_nil, List.take_length, List.take_add_one, hk, List.flatMap_append]
  simp
theorem upK_all {ks : List KS} {m : Nat} (hm : ks.length = m) : upK ks m 0 = ksU ks := by
  unfold upK ksU
  rw [List.take_zero, List.append_nil, List.take_of_length_le (by omega)]
theorem upK_len {ks : List KS} (h : KsOk ks) (h6 : ks.length ≤ 6) (i v : Nat) : (upK ks i v).length ≤ 280 := by
  unfold upK
  refine Nat.le_trans (len_insAll _) ?_
  rw [List.length_append]
  have h1 : ((ks.take i).flatMap KS.S).length ≤ 40 * (ks.take i).length := by
    refine flat_few ⟨fun k hk => h.sorted k (List.mem_of_mem_take hk), fun k hk => h.small k (List.mem_of_mem_take hk), fun k hk => h.few k (List.mem_of_mem_take hk)⟩
  have h2 : (((ks.drop i).headD ⟨0, [], none, 0⟩).S.take v).length ≤ 40 := by
    rw [List.length_take]
    refine Nat.le_trans (Nat.min_le_right _ _) ?_
    cases hd : ks.drop i with
    | nil => simp
    | cons k t => exact h.few k (List.mem_of_mem_drop (i := i) (by rw [hd]; exact List.mem_cons_self))
  rw [List.length_take] at h1
  omega
theorem upK_sorted (ks : List KS) (i v : Nat) : (upK ks i v).Pairwise (· < ·) := by unfold upK; exact sorted_insAll _
attribute [local irreducible] upK
set_option maxHeartbeats 1000000 in
theorem all_v {w : World} {B C : Option Addr} {ks : List KS} {m c2 : Nat} (hkv : KsV w B C ks) (hl : Hid (ks.length = m)) (h6 : m ≤ 6) (hok : KsOk ks) {u : List Nat} {z : Nat} (hu : Hid (ksU ks = u)) (hz : Hid (u.length = z)) :
    Calls Tryd.prog 55 #[.slice C m c2] w fun e w' => ∃ A c, e = .returned (.slice A z c) ∧ St w [own A z c 3 1 (intv u)] w' := by
  have HKv := Lib.hid hkv
  have HKo := Lib.hid hok
  have hs := (St.start w).own_nil 3 1
  have HU0 : Hid (upK ks 0 0 = []) := upK_start ks
  clear hkv hok
  go_enter Tryd.func55, Tryd.ntmps55
  go_wp2
  go_loopw [3, 4] (fun ov iv wr => ∃ (i : Nat) (A : Option Addr) (c n : Nat) (v : List Nat), ov = .slice A n c ∧ iv = .int .i64 (i : Nat) ∧ i ≤ m ∧ Hid (upK ks i 0 = v) ∧ Hid (v.length = n) ∧ St w [own A n c 3 1 (intv v)] wr) (fun _ iv _ => m - (intOf iv).toNat)
  case atStart => exact ⟨0, none, 0, 0, [], rfl, rfl, Nat.zero_le _, HU0, rfl, hs⟩
  case round =>
    clear hs
    obtain ⟨i, A, c, n, v, rfl, rfl, hi, HV, HN, hs⟩ := hrel
    by_cases hlt : i < m
    · obtain ⟨k, hk⟩ : ∃ k, ks[i]? = some k := ⟨_, List.getElem?_eq_getElem (by rw [hl.out]; exact hlt)⟩
      have HK := Lib.hid hk
      obtain ⟨t, HTl⟩ : ∃ t, Hid (k.S.length = t) := ⟨_, rfl⟩
      have hS40 := HKo.out.few k (List.mem_of_getElem? hk)
      rw [HTl.out] at hS40
      clear hk
      go_wp2
      go_loopw [3, 5] (fun ov jv wr => ∃ (j : Nat) (A : Option Addr) (c n : Nat) (v : List Nat), ov = .slice A n c ∧ jv = .int .i64 (j : Nat) ∧ j ≤ t ∧ Hid (upK ks i j = v) ∧ Hid (v.length = n) ∧ St w [own A n c 3 1 (intv v)] wr) (fun _ jv _ => t - (intOf jv).toNat)
      case atStart => exact ⟨0, A, c, n, v, rfl, rfl, Nat.zero_le _, HV, HN, hs⟩
      case round =>
        clear hs HV HN
        obtain ⟨j, A, c, n, v, rfl, rfl, hj, HV, HN, hs⟩ := hrel
        obtain ⟨b, o, rfl, r1, r2⟩ := HKv.out.row i k HK.out
        rw [HTl.out] at r1
        replace r1 := hs.made_grew.cell r1
        by_cases hjt : j < t
        · obtain ⟨a, ha⟩ : ∃ a, k.S[j]? = some a := ⟨_, List.getElem?_eq_getElem (by rw [HTl.out]; exact hjt)⟩
          obtain ⟨b2, o2, hR0, r3⟩ := r2 j (a : Int) (by unfold natI; rw [List.getElem?_map, ha]; rfl)
          rw [hR0] at r1
          replace r3 := hs.made_grew.cell r3
          have HST : Hid (upK ks i (j + 1) = insS a v) := by rw [Hid, upK_step HK.out ha, HV.out]
          have hn280 : n ≤ 280 := by rw [← HN.out, ← HV.out]; exact upK_len HKo.out (by rw [hl.out]; exact h6) i j
          have HVs : Hid (v.Pairwise (· < ·)) := by rw [Hid, ← HV.out]; exact upK_sorted ks i j
          obtain ⟨n2, HN2⟩ : ∃ n2, Hid ((insS a v).length = n2) := ⟨_, rfl⟩
          clear ha hR0 r2
          go_wp2_with (first
            | (go_at_call 45; refine (rwith_c HVs.out HN.out (by omega) hs a).mono ?_; clear hs r1 r3; rintro e w' ⟨A2, c3, rfl, hs⟩; rw [HN2.out] at hs ⊢))
          go_roundw
          case rel => exact ⟨j + 1, A2, c3, n2, insS a v, rfl, by go_num, by omega, HST, HN2, hs⟩
          case measure => simp [intOf] <;> omega
        · have hjt2 : t = j := by omega
          subst hjt2
          have HVz : Hid (upK ks (i + 1) 0 = v) := by rw [Hid, upK_zero HK.out, HTl.out, HV.out]
          clear hjt r2
          go_wp2
          go_roundw
          case rel => exact ⟨i + 1, A, c, n, v, rfl, by go_num, by omega, HVz, HN, hs⟩
          case measure => simp [intOf] <;> omega
    · have him : m = i := by omega
      subst him
      have HVu : Hid (v = u) := by rw [Hid, ← HV.out, upK_all hl.out, hu.out]
      have HNz : Hid (n = z) := by rw [Hid, ← HN.out, HVu.out, hz.out]
      clear hlt
      go_wp2
      go_ret
      have h1 := HVu.out
      have h2 := HNz.out
      subst h1 h2
      exact ⟨A, c, rfl, hs⟩
theorem free_le : ∀ {i : Nat} {u : List Nat}, (∀ j, j < i → j ∈ u) → i ≤ u.length
  | 0, _, _ => Nat.zero_le _
  | i + 1, u, h => by
    have hm := h i (Nat.lt_succ_self i)
    have h1 := free_le (i := i) (u := u.erase i) fun j hj => (List.mem_erase_of_ne (by omega)).2 (h j (by omega))
    rw [List.length_erase_of_mem hm] at h1
    have := List.length_pos_of_mem hm
    omega
theorem rnone_v {w0 w : World} {L : List As} {u : List Nat} {A : Option Addr} {z cap : Nat} (hS : Hid (u.Pairwise (· < ·))) (hz : Hid (u.length = z)) (hz2 : z ≤ 1000) (hs : St w0 L w) (hr : Hid (RdS w0 L A (intv u))) :
    Calls Tryd.prog 57 #[.slice A z cap] w fun e w' => ∃ i : Nat, e = .returned (.int .i64 (i : Nat)) ∧ Hid (i ∉ u) ∧ i ≤ z ∧ Grew w w' := by
  have hg := Grew.refl w
  go_enter Tryd.func57, Tryd.ntmps57
  go_wp2
  go_loopw [3] (fun iv wr => ∃ i : Nat, iv = .int .i64 (i : Nat) ∧ Hid (∀ j, j < i → j ∈ u) ∧ Grew w wr) (fun iv _ => z + 1 - (intOf iv).toNat)
  case atStart => exact ⟨0, rfl, fun j hj => by omega, hg⟩
  case round =>
    clear hg
    obtain ⟨i, rfl, HI, hg⟩ := hrel
    have hiz : i ≤ z := by rw [← hz.out]; exact free_le HI.out
    obtain ⟨b, HB⟩ : ∃ b, Hid (memS u (i : Int) = b) := ⟨_, rfl⟩
    cases b with
    | true =>
      have HI2 : Hid (∀ j, j < i + 1 → j ∈ u) := fun j hj => by
        by_cases h : j < i
        · exact HI.out j h
        · rw [show j = i by omega]; exact memS_nat.1 HB.out
      go_wp2_with (first
        | (go_at_call 24; refine (rin_c hS.out hz.out (by omega) (hs.grew hg) hr.out HB).mono ?_; rintro e w' ⟨rfl, hg2⟩; replace hg := hg.trans hg2; clear hg2))
      go_roundw
      case rel => exact ⟨i + 1, by go_num, HI2, hg⟩
      case measure => simp [intOf] <;> omega
    | false =>
      have HNo : Hid (i ∉ u) := fun h => by
        have := memS_nat.2 h
        rw [HB.out] at this
        cases this
      go_wp2_with (first
        | (go_at_call 24; refine (rin_c hS.out hz.out (by omega) (hs.grew hg) hr.out HB).mono ?_; rintro e w' ⟨rfl, hg2⟩; replace hg := hg.trans hg2; clear hg2))
      go_ret
      exact ⟨i, rfl, HNo, hiz, hg⟩
end Go.Proofs.YtpnjoeiohigjmaaDoor
