/-
  The statements of values at their places: SparseOrder.
-/
import Derived.Test.YtdcihfofdjckjaaSpLaw2
set_option maxRecDepth 100000
namespace Go.Proofs.Ytdcihfofdjckjaa
open Go Go.RowKit
attribute [local irreducible] wpList Calls Code.wp

def iv (l : List Nat) : List Value := l.map fun i : Nat => Value.int .i64 (i : Int)
theorem iv_len (l : List Nat) : (iv l).length = l.length := by simp [iv]
theorem iv_append (l : List Nat) (i : Nat) : iv l ++ [Value.int .i64 (i : Int)] = iv (l ++ [i]) := by simp [iv]
theorem iv_get {l : List Nat} {k v : Nat} (h : l[k]? = some v) : (iv l)[k]? = some (.int .i64 (v : Int)) := by simp [iv, h]
theorem and_ff (z : Int) : bits .and .i64 z 255 = ((z % 256).toNat : Nat) := by
  show IntKind.i64.wrap ((BitVec.ofInt 64 z &&& BitVec.ofInt 64 255).toNat : Int) = _
  rw [BitVec.toNat_and, show (BitVec.ofInt 64 255).toNat = 2 ^ 8 - 1 by decide, Nat.and_two_pow_sub_one_eq_mod, BitVec.toNat_ofInt, IntKind.wrap_i64]
  omega
def vi (k : Nat) : V3 := ⟨1, k, 0⟩
/-- The places hold just these numbers, each its own. -/
structure SpIs (S : List Nat) (vs : List V3) (O : List Nat) : Prop where
  ok : SpOk S vs
  mem : ∀ j, j ∈ S ↔ j ∈ O
  get : ∀ j ∈ O, getV S vs (j : Int) = vi j
  small : ∀ j ∈ O, j < 65536
  room : (O = [] ∧ vs.length = 0) ∨ ∃ m, m ∈ O ∧ (∀ j ∈ O, j ≤ m) ∧ RoomP m vs.length
theorem spIs_nil : SpIs [] [] [] := ⟨spOk_nil, fun _ => Iff.rfl, (fun _ h => nomatch h), (fun _ h => nomatch h), .inl ⟨rfl, rfl⟩⟩
theorem SpIs.put {S : List Nat} {vs : List V3} {O O' : List Nat} (h : SpIs S vs O) {k : Nat} (hk : k < 65536) (hO : ∀ j, j ∈ O' ↔ j = k ∨ j ∈ O) : SpIs (pS S (k : Int)) (pV vs (k : Int) (vi k)) O' where
  ok := h.ok.put2 hk _
  mem j := by rw [pS_in hk, mem_insS, hO, h.mem]
  get j hj := by
    rw [get_pV h.ok hk]
    rcases (hO j).1 hj with rfl | hj
    · rw [if_pos rfl]
    · by_cases e : j = k
      · subst e; rw [if_pos rfl]
      · rw [if_neg (by omega)]; exact h.get j hj
  small j hj := by
    rcases (hO j).1 hj with rfl | hj
    · exact hk
    · exact h.small j hj
  room := by
    have hl := pV_len h.ok hk (vi k)
    rw [hl]
    rcases h.room with ⟨h1, h2⟩ | ⟨m, h1, h2, h3⟩
    · subst h1
      have := roomP_put (m := 0) h.ok rfl (.inl ⟨h2, rfl⟩) hk
      rw [Nat.zero_max] at this
      refine .inr ⟨k, (hO k).2 (.inl rfl), fun j hj => ?_, this⟩
      rcases (hO j).1 hj with rfl | hj
      · exact Nat.le_refl _
      · cases hj
    · have := roomP_put (m := m) h.ok rfl (.inr h3) hk
      refine .inr ⟨max m k, ?_, fun j hj => ?_, this⟩
      · rw [hO]
        by_cases e : m ≤ k
        · left; omega
        · right; rw [show max m k = m by omega]; exact h1
      · rcases (hO j).1 hj with rfl | hj
        · omega
        · have := h2 j hj; omega
theorem roomP_unique {m N N' : Nat} (h : RoomP m N) (h' : RoomP m N') : N = N' := by
  obtain ⟨a1, a2, _, i, rfl⟩ := h
  obtain ⟨b1, b2, _, j, rfl⟩ := h'
  rcases Nat.lt_trichotomy i j with h | h | h
  · have : 2 ^ (i + 1) ≤ 2 ^ j := Nat.pow_le_pow_right (by decide) h
    rw [Nat.pow_succ] at this
    omega
  · rw [h]
  · have : 2 ^ (j + 1) ≤ 2 ^ i := Nat.pow_le_pow_right (by decide) h
    rw [Nat.pow_succ] at this
    omega
theorem SpIs.same {S S' : List Nat} {vs vs' : List V3} {O O' : List Nat} (h : SpIs S vs O) (h' : SpIs S' vs' O') (hO : ∀ j, j ∈ O ↔ j ∈ O') : vs.length = vs'.length := by
  rcases h.room with ⟨h1, h2⟩ | ⟨m, h1, h2, h3⟩
  · rcases h'.room with ⟨h4, h5⟩ | ⟨m', h4, _⟩
    · omega
    · rw [← hO, h1] at h4; cases h4
  · rcases h'.room with ⟨h4, h5⟩ | ⟨m', h4, h5, h6⟩
    · rw [hO, h4] at h1; cases h1
    · have e1 := h5 m ((hO m).1 h1)
      have e2 := h2 m' ((hO m').2 h4)
      obtain rfl : m = m' := by omega
      exact roomP_unique h3 h6
theorem SpIs.len {S : List Nat} {vs : List V3} {O : List Nat} (h : SpIs S vs O) (hS : S.Pairwise (· < ·)) (hO : O.Nodup) : S.length = O.length :=
  ((List.perm_ext_iff_of_nodup (sorted_nodup hS) hO).2 h.mem).length_eq
/-- The numbers, turned by t, the first i of them. -/
def turned (O : List Nat) (t i : Nat) : List Nat := (List.range i).map fun x => O.getD ((x + t) % O.length) 0
theorem turned_next {O : List Nat} {t i v : Nat} (h : O[(i + t) % O.length]? = some v) (j : Nat) : j ∈ turned O t (i + 1) ↔ j = v ∨ j ∈ turned O t i := by
  unfold turned
  rw [List.range_succ, List.map_append, List.mem_append]
  simp only [List.map_cons, List.map_nil, List.mem_singleton, List.getD, h, Option.getD_some]
  exact Or.comm
theorem turned_all {O : List Nat} {t : Nat} (j : Nat) : j ∈ O ↔ j ∈ turned O t O.length := by
  unfold turned
  rw [List.mem_map]
  constructor
  · intro h
    obtain ⟨p, hp, he⟩ := List.getElem_of_mem h
    refine ⟨(p + (O.length - t % O.length)) % O.length, List.mem_range.2 (Nat.mod_lt _ (by omega)), ?_⟩
    have hm : ((p + (O.length - t % O.length)) % O.length + t) % O.length = p := by
      have hlt := Nat.mod_lt t (show 0 < O.length by omega)
      rw [Nat.mod_add_mod, Nat.add_assoc, Nat.add_mod p, ← Nat.add_mod_mod (O.length - t % O.length) t, Nat.sub_add_cancel (Nat.le_of_lt hlt), Nat.mod_self, Nat.add_zero, Nat.mod_mod, Nat.mod_eq_of_lt hp]
    rw [hm]
    simp [List.getD, hp, he]
  · rintro ⟨x, hx, rfl⟩
    have hx := List.mem_range.1 hx
    have hlt := Nat.mod_lt (x + t) (show 0 < O.length by omega)
    simp [List.getD, hlt]

theorem St.spsorted {w0 w : World} {D T : Nat} {S : List Nat} {vs : List V3} {L : List As} (hs : St w0 (SpB D T S vs :: L) w) : S.Pairwise (· < ·) ∧ ∀ a ∈ S, a < 16777216 := by
  obtain ⟨_, A, cap, hs⟩ := hs.spopen
  exact (hs.ent (Ent.skip (Ent.skip (Ent.refl _)))).sorted
/-- What the first loop has come to. -/
def Ord1 (k : Nat) (O : List Nat) (S : List Nat) (vs : List V3) : Prop := SpIs S vs O ∧ O.Nodup ∧ O.length ≤ k
def Ord2 (O : List Nat) (t i : Nat) (S : List Nat) (vs : List V3) : Prop := SpIs S vs (turned O t i)
attribute [local irreducible] okI okN pS pV tS tV getV memS roomV
set_option maxHeartbeats 4000000 in
theorem sparseOrder_c {w0 : World} {va : Value} {za : List Int} (hva : IntArg w0 va za) (turn : Int) : Calls Try.prog 3 #[va, .int .i64 turn] w0 (LawPost8 w0) := by
  obtain ⟨A, na, ca, rfl, hlen, hnc, hcm, hra, hba⟩ := hva
  subst hlen
  unfold maxLen at hcm
  have hs := St.start w0
  have hff := and_ff turn
  generalize ht : (turn % 256).toNat = t at hff
  have ht2 : t < 256 := by omega
  clear ht
  obtain ⟨n, hn⟩ : ∃ n : Nat, n = min za.length 40 := ⟨_, rfl⟩
  have hn1 : n ≤ 40 := by omega
  have hn2 : n ≤ za.length := by omega
  have HN : min (za.length : Int) 40 = (n : Int) := by omega
  clear hba hn
  go_enter Try.func3, Try.ntmps3
  have tk : True := trivial
  go_wp2_with (first
    | (go_at_call 7; clear tk; refine (sp_new hs).mono ?_; clear hs; rintro e w ⟨Da, Ta, rfl, hs⟩)
    | (go_at_call 7; refine (sp_new hs).mono ?_; clear hs; rintro e w ⟨Db, Tb, rfl, hs⟩))
  replace hs := hs.rot
  go_loopw [8, 9] (fun ov cv wr => ∃ (k : Nat) (O S : List Nat) (vs : List V3) (A : Option Addr) (cap : Nat), k ≤ n ∧ ov = .slice A O.length cap ∧ cv = .int .i64 (k : Nat) ∧ Ord1 k O S vs ∧ St w0 [SpB Da Ta S vs, own A O.length cap 3 1 (iv O), SpB Db Tb [] []] wr) (fun _ iv _ => n - (intOf iv).toNat)
  case atStart => exact ⟨0, [], [], [], none, 0, Nat.zero_le _, rfl, rfl, ⟨spIs_nil, List.nodup_nil, Nat.le_refl _⟩, (hs.own_nil 3 1).rot⟩
  case round =>
    clear hs
    obtain ⟨k, O, S, vs, B, cap, hk, rfl, rfl, HO, hs⟩ := hrel
    by_cases hlt : k < n
    · obtain ⟨b, o, z, rfl, hc, hz⟩ := hra.int (show k < za.length by omega)
      have hc := (hc.tail.tail.tail) _ hs
      have hand := and_ffff z
      have hkx := kx_lt z
      generalize kx z = q at hand hkx
      have hOl := HO.2.2
      clear hz
      obtain ⟨S', HS⟩ : ∃ v, Hid (pS S (q : Int) = v) := ⟨_, rfl⟩
      obtain ⟨vs', HV⟩ : ∃ v, Hid (pV vs (q : Int) (vi q) = v) := ⟨_, rfl⟩
      obtain ⟨u, HU⟩ : ∃ v, Hid (getV S vs (q : Int) = v) := ⟨_, rfl⟩
      cases hm : memS S (q : Int) with
      | true =>
        have HM := Lib.hid hm
        have hin : q ∈ O := (HO.1.mem q).1 (memS_nat.1 hm)
        have HO2 : Ord1 (k + 1) O S' vs' := ⟨by rw [← HS.out, ← HV.out]; exact HO.1.put hkx (fun j => ⟨.inr, fun h => h.elim (fun e => e ▸ hin) id⟩), HO.2.1, Nat.le_succ_of_le hOl⟩
        clear hm hin HO
        go_wp2_with (first
          | (go_at_call 8; refine (sp_put_v (v := vi q) hs HU HM HS HV).mono ?_; clear hs hc; rintro e w1 ⟨rfl, hs⟩)
          | (refine wpl_alloc zero3 hs ?_; clear hs; intro gg w hs)
          | (refine wpl_store_agg (v := val3 u) rfl rfl (size3 _) hs WrA.slot3 ?_; clear hs; intro w hs; replace hs := hs.drop))
        go_roundw
        case rel => exact ⟨k + 1, O, S', vs', B, cap, by omega, rfl, by go_num, HO2, hs⟩
        case measure => simp [intOf] <;> omega
      | false =>
        have HM := Lib.hid hm
        have hnin : q ∉ O := fun h => by rw [memS_nat.2 ((HO.1.mem q).2 h)] at hm; cases hm
        have HO2 : Ord1 (k + 1) (O ++ [q]) S' vs' := ⟨by rw [← HS.out, ← HV.out]; exact HO.1.put hkx (fun j => by simp [Or.comm]), by
          rw [List.nodup_append]
          exact ⟨HO.2.1, by simp, fun a ha b hb => by simp at hb; subst hb; exact fun e => hnin (e ▸ ha)⟩, by simp; exact hOl⟩
        clear hm hnin HO
        go_wp2_with (first
          | (go_at_call 8; refine (sp_put_v (v := vi q) hs HU HM HS HV).mono ?_; clear hs hc; rintro e w1 ⟨rfl, hs⟩)
          | (refine wpl_alloc zero3 hs ?_; clear hs; intro gg w hs)
          | (refine wpl_store_agg (v := val3 u) rfl rfl (size3 _) hs WrA.slot3 ?_; clear hs; intro w hs; replace hs := hs.drop)
          | (refine wpl_build1 elem24 (by decide) rfl rfl hs ?_; clear hs; intro gb w hs)
          | (refine wpl_append (B := some ⟨gb, 0, none⟩) (news := [.int .i64 (q : Int)]) elem24 rfl rfl hs (Ent.skip (Ent.skip (Ent.refl _))) RdS.blk rfl (ints_one _) (by unfold maxLen; omega) (by omega) ?_; clear hs; intro B' cap' w hs; rw [iv_append] at hs; replace hs := hs.rot.drop.rot))
        go_roundw
        case rel => exact ⟨k + 1, O ++ [q], S', vs', B', cap', by omega, by simp, by go_num, HO2, by simpa using hs⟩
        case measure => simp [intOf] <;> omega
    · have HI := HO.1
      have HND := Lib.hid HO.2.1
      have hOl : O.length ≤ 40 := by have := HO.2.2; omega
      clear HO
      go_wp2
      replace hs := (hs.rot.ent (Ent.cons _ (Ent.swap _ _ _))).rot.ent (Ent.cons _ (Ent.refl _))
      replace hs : St w0 [SpB Db Tb [] [], own B O.length cap 3 1 (iv O), SpB Da Ta S vs] wr := hs
      go_loopw [13] (fun cv wr => ∃ (i : Nat) (Sb : List Nat) (vsb : List V3), i ≤ O.length ∧ cv = .int .i64 (i : Nat) ∧ Ord2 O t i Sb vsb ∧ St w0 [SpB Db Tb Sb vsb, own B O.length cap 3 1 (iv O), SpB Da Ta S vs] wr) (fun cv _ => O.length - (intOf cv).toNat)
      case atStart => exact ⟨0, [], [], Nat.zero_le _, rfl, spIs_nil, hs⟩
      case round =>
        clear hs
        obtain ⟨i, Sb, vsb, hi, rfl, HO, hs⟩ := hrel
        by_cases hil : i < O.length
        · obtain ⟨gB, rfl⟩ := hs.rot.own_at (by omega)
          obtain ⟨x, hx⟩ : ∃ x, x = (i + t) % O.length := ⟨_, rfl⟩
          have hx2 : x < O.length := by rw [hx]; exact Nat.mod_lt _ (by omega)
          have hxi : ((i : Int) + (t : Int)) % (O.length : Int) = (x : Int) := by rw [hx]; push_cast; rfl
          obtain ⟨q, hq⟩ : ∃ q, O[x]? = some q := ⟨_, List.getElem?_eq_getElem hx2⟩
          have hkq : q < 65536 := HI.small q (List.mem_of_getElem? hq)
          have hcq := (Rd.own (w0 := w0) (g := gB) (n := O.length) (cap := cap) (e := 3) (size := 1) (L := [SpB Da Ta S vs]) (iv_get hq)).tail (p := SpB Db Tb Sb vsb) _ hs
          obtain ⟨S', HS⟩ : ∃ v, Hid (pS Sb (q : Int) = v) := ⟨_, rfl⟩
          obtain ⟨vs', HV⟩ : ∃ v, Hid (pV vsb (q : Int) (vi q) = v) := ⟨_, rfl⟩
          have HO2 : Ord2 O t (i + 1) S' vs' := by
            have hq2 : O[(i + t) % O.length]? = some q := by rw [← hx]; exact hq
            unfold Ord2
            rw [← HS.out, ← HV.out]
            exact SpIs.put HO hkq (turned_next hq2)
          clear hx hq HO
          go_wp2_with (first
            | (go_at_call 8; refine (sp_put_e (v := vi q) hs HS HV).mono ?_; clear hs hcq; rintro e w1 ⟨u, b, rfl, hs⟩))
          go_roundw
          case rel => exact ⟨i + 1, S', vs', by omega, by go_num, HO2, hs⟩
          case measure => simp [intOf] <;> omega
        · obtain rfl : i = O.length := by omega
          have HIb : SpIs Sb vsb (turned O t O.length) := HO
          clear HO hil hi
          go_wp2
          go_loopw [15] (fun cv wr => ∃ (i : Nat), i ≤ O.length ∧ cv = .int .i64 (i : Nat) ∧ St w0 [SpB Db Tb Sb vsb, own B O.length cap 3 1 (iv O), SpB Da Ta S vs] wr) (fun cv _ => O.length - (intOf cv).toNat)
          case atStart => exact ⟨0, Nat.zero_le _, rfl, hs⟩
          case round =>
            clear hs
            obtain ⟨i, hi, rfl, hs⟩ := hrel
            by_cases hil : i < O.length
            · obtain ⟨gB, rfl⟩ := hs.rot.own_at (by omega)
              obtain ⟨q, hq⟩ : ∃ q, O[i]? = some q := ⟨_, List.getElem?_eq_getElem hil⟩
              have hqO := List.mem_of_getElem? hq
              have hrq := (Rd.own (w0 := w0) (g := gB) (n := O.length) (cap := cap) (e := 3) (size := 1) (L := [SpB Da Ta S vs]) (iv_get hq)).tail (p := SpB Db Tb Sb vsb)
              have hcq := hrq _ hs
              have HUa : Hid (getV S vs (q : Int) = vi q) := HI.get q hqO
              have HMa : Hid (memS S (q : Int) = true) := memS_nat.2 ((HI.mem q).2 hqO)
              have HUb : Hid (getV Sb vsb (q : Int) = vi q) := HIb.get q ((turned_all q).1 hqO)
              have HMb : Hid (memS Sb (q : Int) = true) := memS_nat.2 ((HIb.mem q).2 ((turned_all q).1 hqO))
              clear hq hqO
              go_wp2_with (first
                | (go_at_call 9; refine (sp_get_v (hs.ent (Ent.skip (Ent.skip (Ent.refl _)))) HUa HMa).mono ?_; rintro e w' ⟨rfl, hg⟩; replace hs := hs.grew hg; clear hg)
                | (go_at_call 9; refine (sp_get_v hs.rot HUb HMb).mono ?_; rintro e w' ⟨rfl, hg⟩; replace hs := hs.grew hg; clear hg)
                | (refine wpl_alloc zero3 hs ?_; clear hs hcq; intro gg w hs)
                | (refine wpl_store_agg (v := val3 (vi q)) rfl rfl (size3 _) hs WrA.slot3 ?_; clear hs; intro w hs; (first | (have hcq := hrq.tail _ hs) | (have hcq := hrq.tail.tail _ hs))))
              obtain ⟨fb0, fb1, fb2⟩ := has3_slot.facts hs
              obtain ⟨fa0, fa1, fa2⟩ := (has3_tail has3_slot).facts hs
              refine wp_region_grow (by kernel_rfl) (by kernel_rfl) fun hne => ?_
              have ga0 := fun p : GW w => p.grew.cell fa0
              have ga1 := fun p : GW w => p.grew.cell fa1
              have ga2 := fun p : GW w => p.grew.cell fa2
              have gb0 := fun p : GW w => p.grew.cell fb0
              have gb1 := fun p : GW w => p.grew.cell fb1
              have gb2 := fun p : GW w => p.grew.cell fb2
              have gc := fun p : GW w => p.grew.cell hcq
              clear fa0 fa1 fa2 fb0 fb1 fb2 hcq
              have hva : (vi q).a = (q : Int) := rfl
              repeat (go_big_quiet_step (fail))
              refine wpQuiet_nil ?_
              clear hne ga0 ga1 ga2 gb0 gb1 gb2 gc hva
              intro u hu
              replace hs := (hs.drop.drop).grew hu
              clear hu
              go_wp2
              go_roundw
              case rel => exact ⟨i + 1, by omega, by go_num, hs⟩
              case measure => simp [intOf] <;> omega
            · obtain ⟨hSa, _⟩ := (hs.ent (Ent.skip (Ent.skip (Ent.refl _)))).spsorted
              obtain ⟨hSb, _⟩ := hs.spsorted
              have hab : S = Sb := sorted_ext hSa hSb fun j => by rw [HI.mem, HIb.mem]; exact turned_all j
              have HLa : Hid (S.length = O.length) := HI.len hSa HND.out
              have HLb : Hid (Sb.length = O.length) := by rw [Hid, ← hab]; exact HLa.out
              obtain ⟨N, HRb⟩ : ∃ N, Hid (vsb.length = N) := ⟨_, rfl⟩
              have HRa : Hid (vs.length = N) := by rw [Hid, ← HRb.out]; exact HI.same HIb turned_all
              have hsa := hs.ent (Ent.skip (Ent.skip (Ent.refl _)))
              have ca := Rd.spb hsa
              have cb := Rd.spb hs
              clear HI HIb hab hSa hSb
              go_wp2
              refine wp_region_grow (by kernel_rfl) (by kernel_rfl) fun hne => ?_
              have ga := fun p : GW wr => p.grew.cell ca
              have gb := fun p : GW wr => p.grew.cell cb
              clear ca cb
              repeat (go_big_quiet_step ((first
                | (go_at_call 10; exact in_gsame (sp_len_v (hsa.grew (GW.grew _)) HLa))
                | (go_at_call 10; exact in_gsame (sp_len_v (hs.grew (GW.grew _)) HLb))
                | (go_at_call 11; exact in_gsame (sp_room_v (hsa.grew (GW.grew _)) HRa))
                | (go_at_call 11; exact in_gsame (sp_room_v (hs.grew (GW.grew _)) HRb))
                | (go_at_call 12; exact in_grew (awake8 _)))))
              refine wpQuiet_nil ?_
              clear hne ga gb
              intro u hu
              replace hs := hs.grew hu
              go_wp2
              go_ret
              exact ⟨rfl, hs.nothing⟩
end Go.Proofs.Ytdcihfofdjckjaa
