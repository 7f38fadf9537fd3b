/-
  BitsAlgebra: the walk.
-/
import Derived.Test.YtgdljjpdoocnnaaDoorLaw1c
import Derived.Test.YtgdljjpdoocnnaaDoorFrame
set_option maxRecDepth 100000
namespace Go.Proofs.YtgdljjpdoocnnaaDoor
open Go Go.RowKit
attribute [local irreducible] wpList Calls Code.wp

theorem cntW_union {x y : Nat} : cntW (x ||| y) + cntW (x &&& y) = cntW x + cntW y := by
  unfold cntW listW
  generalize List.range 64 = l
  induction l with
  | nil => rfl
  | cons k l ih =>
    cases hx : x.testBit k <;> cases hy : y.testBit k <;> simp [Nat.testBit_or, Nat.testBit_and, hx, hy] at ih ⊢ <;> omega
theorem sub_with {x a : Nat} (hx : x < 2 ^ 64) (ha : a < 2 ^ 64) : subW (x ||| a) a = subW x a :=
  word_ext (subW_lt _ _ (Nat.or_lt_two_pow hx ha)) (subW_lt _ _ hx) fun k _ => by
    rw [testBit_subW (Nat.or_lt_two_pow hx ha) ha, testBit_subW hx ha, Nat.testBit_or]
    cases x.testBit k <;> cases a.testBit k <;> rfl
theorem with_sub {x a : Nat} (hx : x < 2 ^ 64) (ha : a < 2 ^ 64) : subW x a ||| a = x ||| a :=
  word_ext (Nat.or_lt_two_pow (subW_lt _ _ hx) ha) (Nat.or_lt_two_pow hx ha) fun k _ => by
    rw [Nat.testBit_or, Nat.testBit_or, testBit_subW hx ha]
    cases x.testBit k <;> cases a.testBit k <;> rfl
theorem all_list {x : Nat} (hx : x < 2 ^ 64) : allW ((listW x).map fun i : Nat => (i : Int)) = x :=
  word_ext (allW_lt _) hx fun k hk => by
    rw [testBit_allW]
    have e : ((k : Int) ∈ (listW x).map fun i : Nat => (i : Int)) ↔ k ∈ listW x := by
      rw [List.mem_map]
      exact ⟨fun ⟨i, hi, h⟩ => by rwa [Int.ofNat_inj.1 h] at hi, fun h => ⟨k, h, rfl⟩⟩
    rw [show decide ((k : Int) ∈ (listW x).map fun i : Nat => (i : Int)) = decide (k ∈ listW x) from decide_eq_decide.2 e]
    simp [mem_listW, hk]
theorem allW_drop {zs : List Int} {k : Nat} (hk : k < zs.length) : allW (zs.drop k) = oneW zs[k] ||| allW (zs.drop (k + 1)) := by
  rw [List.drop_eq_getElem_cons hk, allW_cons]
theorem with_v {w0 w : World} {L : List As} {A : Option Addr} {zs : List Int} {c n : Nat} {x v : Nat} (hx : x < 2 ^ 64) (h : Hid (x ||| allW zs = v)) (hn : Hid (zs.length = n)) (hs : St w0 L w) (hr : RdS w0 L A (zs.map (Value.int .i64))) (hl : n ≤ maxLen) :
    Calls Tryd.prog 21 #[.int .u64 x, .slice A n c] w fun e w' => e = .returned (.int .u64 (v : Nat)) ∧ w = w' := by
  rw [← h.out]
  have hn := hn.out
  subst hn
  exact with_c hx hs hr hl
theorem without_v {w0 w : World} {L : List As} {A : Option Addr} {zs : List Int} {c n : Nat} {x v : Nat} (hx : x < 2 ^ 64) (h : Hid (subW x (allW zs) = v)) (hn : Hid (zs.length = n)) (hs : St w0 L w) (hr : RdS w0 L A (zs.map (Value.int .i64))) (hl : n ≤ maxLen) :
    Calls Tryd.prog 22 #[.int .u64 x, .slice A n c] w fun e w' => e = .returned (.int .u64 (v : Nat)) ∧ w = w' := by
  rw [← h.out]
  have hn := hn.out
  subst hn
  exact without_c hx hs hr hl
theorem of_v {w0 w : World} {L : List As} {A : Option Addr} {zs : List Int} {c n : Nat} {v : Nat} (h : Hid (allW zs = v)) (hn : Hid (zs.length = n)) (hs : St w0 L w) (hr : RdS w0 L A (zs.map (Value.int .i64))) (hl : n ≤ maxLen) :
    Calls Tryd.prog 23 #[.slice A n c] w fun e w' => e = .returned (.int .u64 (v : Nat)) ∧ w = w' := by
  rw [← h.out]
  have hn := hn.out
  subst hn
  exact of_c hs hr hl
theorem list_v {w0 w : World} {L : List As} {x n : Nat} (hx : x < 2 ^ 64) (h : Hid (cntW x = n)) (hs : St w0 L w) (hT : Tab w0) :
    Calls Tryd.prog 14 #[.int .u64 x] w fun e w' => ∃ A cap, e = .returned (.slice A n cap) ∧ St w0 (own A n cap 3 1 ((listW x).map fun i : Nat => .int .i64 (i : Int)) :: L) w' := by
  have h := h.out
  subst h
  exact list_c hx hs hT
theorem algebra_c {w0 : World} (hT : Tab w0) (z : Int) (hz : 0 ≤ z) (hz2 : z ≤ 18446744073709551615) (z' : Int) (hz' : 0 ≤ z') (hz2' : z' ≤ 18446744073709551615) {v : Value} {zs : List Int} (hv : IntArg w0 v zs) :
    Calls Tryd.prog 6 #[.int .u64 z, .int .u64 z', v] w0 (LawPost w0) := by
  obtain ⟨x, rfl⟩ := Int.eq_ofNat_of_zero_le hz
  obtain ⟨y, rfl⟩ := Int.eq_ofNat_of_zero_le hz'
  have hx : x < 2 ^ 64 := by omega
  have hy : y < 2 ^ 64 := by omega
  have hs := St.start w0
  obtain ⟨A, n, cap, rfl, hlen, hnc, hcm, hr, hb⟩ := hv
  clear hz hz2 hz' hz2' hb
  by_cases hn : 100 < n
  · go_enter Tryd.func6, Tryd.ntmps6
    go_wp2_with (first | (go_at_call 17; refine (awake1_c hs hT).mono ?_; rintro e w' ⟨rfl, hs2⟩))
    go_ret
    exact ⟨rfl, hs2⟩
  · have hA := allW_lt zs
    have HLN := Lib.hid hlen
    have hml : n ≤ maxLen := by unfold maxLen; omega
    obtain ⟨p, hp⟩ : ∃ p, p = x ||| allW zs := ⟨_, rfl⟩
    obtain ⟨q, hq⟩ : ∃ q, q = subW x (allW zs) := ⟨_, rfl⟩
    have hpl : p < 2 ^ 64 := by rw [hp]; exact Nat.or_lt_two_pow hx hA
    have hql : q < 2 ^ 64 := by rw [hq]; exact subW_lt _ _ hx
    have W1 := Lib.hid hp.symm
    have W2 : Hid (subW p (allW zs) = q) := by rw [Hid, hp, hq]; exact sub_with hx hA
    have W3 := Lib.hid hq.symm
    have W4 : Hid (q ||| allW zs = p) := by rw [Hid, hp, hq]; exact with_sub hx hA
    have W5 := Lib.hid (all_list hx)
    have W6 : Hid (x ||| allW [] = x) := by simp [Hid, allW]
    have o1 : bits .or .u64 (x : Int) (y : Int) = ((x ||| y : Nat) : Int) := or_u64 _ _ hx hy
    have o2 : bits .and .u64 (x : Int) (y : Int) = ((x &&& y : Nat) : Int) := and_u64 _ _ hx hy
    have hol : x ||| y < 2 ^ 64 := Nat.or_lt_two_pow hx hy
    have hal : x &&& y < 2 ^ 64 := Nat.lt_of_le_of_lt Nat.and_le_left hx
    have HU := Lib.hid (cntW_union (x := x) (y := y))
    generalize x ||| y = o at *
    generalize x &&& y = i at *
    have bo := cntW_le o
    have bi := cntW_le i
    have bx := cntW_le x
    have by_ := cntW_le y
    have C1 : Hid ((cntW o : Int) = (cntW o : Nat)) := rfl
    obtain ⟨co, hco⟩ : ∃ c, Hid (cntW o = c) := ⟨_, rfl⟩
    obtain ⟨ci, hci⟩ : ∃ c, Hid (cntW i = c) := ⟨_, rfl⟩
    obtain ⟨cx, hcx⟩ : ∃ c, Hid (cntW x = c) := ⟨_, rfl⟩
    obtain ⟨cy, hcy⟩ : ∃ c, Hid (cntW y = c) := ⟨_, rfl⟩
    rw [hco.out] at bo
    rw [hci.out] at bi
    rw [hcx.out] at bx
    rw [hcy.out] at by_
    have K1 : Hid ((cntW o : Int) = (co : Int)) := by rw [Hid, hco.out]
    have K2 : Hid ((cntW i : Int) = (ci : Int)) := by rw [Hid, hci.out]
    have K3 : Hid ((cntW x : Int) = (cx : Int)) := by rw [Hid, hcx.out]
    have K4 : Hid ((cntW y : Int) = (cy : Int)) := by rw [Hid, hcy.out]
    have hsum : (co : Int) + ci = cx + cy := by have := HU.out; rw [hco.out, hci.out, hcx.out, hcy.out] at this; omega
    clear HU hco hci hcy C1 hp hq
    go_enter Tryd.func6, Tryd.ntmps6
    go_wp2_with (first
      | (go_at_call 20; refine (len_v hol K1 _).mono ?_; rintro e w' ⟨rfl, rfl⟩)
      | (go_at_call 20; refine (len_v hal K2 _).mono ?_; rintro e w' ⟨rfl, rfl⟩)
      | (go_at_call 20; refine (len_v hx K3 _).mono ?_; rintro e w' ⟨rfl, rfl⟩)
      | (go_at_call 20; refine (len_v hy K4 _).mono ?_; rintro e w' ⟨rfl, rfl⟩)
      | (go_at_call 21; refine (with_v hx W1 HLN hs hr hml).mono ?_; rintro e w' ⟨rfl, rfl⟩)
      | (go_at_call 22; refine (without_v hpl W2 HLN hs hr hml).mono ?_; rintro e w' ⟨rfl, rfl⟩)
      | (go_at_call 22; refine (without_v hx W3 HLN hs hr hml).mono ?_; rintro e w' ⟨rfl, rfl⟩)
      | (go_at_call 21; refine (with_v hql W4 HLN hs hr hml).mono ?_; rintro e w' ⟨rfl, rfl⟩))
    go_loopw [9, 10] (fun one i wr => ∃ k : Nat, k ≤ n ∧ St w0 [] wr ∧ i = .int .i64 ((k : Int) - 1) ∧ ∃ u : Nat, one = .int .u64 u ∧ u < 2 ^ 64 ∧ Hid (u = x ||| allW (zs.drop k))) (fun _ i _ => (intOf i + 1).toNat)
    case atStart => exact ⟨n, Nat.le_refl _, hs, rfl, x, rfl, hx, by rw [Hid, List.drop_of_length_le (by rw [HLN.out]; exact Nat.le_refl _)]; simp [allW]⟩
    case round =>
      clear hs
      obtain ⟨k, hk, hs, rfl, u, rfl, hu, HU⟩ := hrel
      by_cases hk0 : 0 < k
      · obtain ⟨j, rfl⟩ : ∃ j, k = j + 1 := ⟨k - 1, by omega⟩
        obtain ⟨b, o', e1, rfl, hc, he1⟩ := hr.int (k := j) (by omega)
        have hc := hc _ hs
        have HW : Hid (u ||| allW [e1] = x ||| allW (zs.drop j)) := by
          have hj : j < zs.length := by omega
          rw [List.getElem?_eq_getElem hj] at he1
          have he1 := Option.some.inj he1
          rw [Hid, HU.out, allW_drop hj, he1, Nat.or_assoc, Nat.or_comm (oneW e1)]
          simp [allW]
        clear he1
        obtain ⟨u2, hu2⟩ : ∃ u2, u2 = u ||| allW [e1] := ⟨_, rfl⟩
        have hu2l : u2 < 2 ^ 64 := by rw [hu2]; exact Nat.or_lt_two_pow hu (allW_lt _)
        have W7 := Lib.hid hu2.symm
        have HU2 : Hid (u2 = x ||| allW (zs.drop j)) := by rw [Hid, hu2]; exact HW.out
        have HL1 : Hid ([e1].length = 1) := rfl
        have hidx : (j : Int) + 1 - 1 = j := by omega
        clear hu2 HW HU
        go_wp2_with (first
          | (refine wpl_build1 (v := .int .i64 e1) elem24 (by decide) rfl rfl hs ?_; clear hs; intro g w hs)
          | (go_at_call 21; refine (with_v (zs := [e1]) hu W7 HL1 hs RdS.blk (by decide)).mono ?_; rintro e w' ⟨rfl, rfl⟩; replace hs := hs.drop))
        go_roundw
        case rel => exact ⟨j, by omega, hs, by go_num, u2, rfl, hu2l, HU2⟩
        case measure => simp [intOf] <;> omega
      · obtain rfl : k = 0 := by omega
        have hp2 : u = p := by rw [HU.out, List.drop_zero]; exact W1.out
        subst hp2
        clear HU
        go_wp2_with (first
          | (go_at_call 21; refine (with_v hx W1 HLN hs hr hml).mono ?_; rintro e w' ⟨rfl, rfl⟩)
          | (go_at_call 14; refine (list_v hx hcx hs hT).mono ?_; clear hs; rintro e w ⟨B, cap', rfl, hs⟩)
          | (go_at_call 23; refine (of_v W5 (by rw [Hid, List.length_map]; exact hcx.out) hs (by rw [List.map_map]; exact RdS.own hs) (by unfold maxLen; omega)).mono ?_; rintro e w' ⟨rfl, rfl⟩; replace hs := hs.drop)
          | (go_at_call 21; refine (with_v (zs := []) hx W6 rfl hs RdS.nil (by decide)).mono ?_; rintro e w' ⟨rfl, rfl⟩)
          | (go_at_call 17; refine (awake1_c hs hT).mono ?_; rintro e w' ⟨rfl, hs2⟩))
        go_ret
        exact ⟨rfl, hs2⟩
end Go.Proofs.YtgdljjpdoocnnaaDoor
