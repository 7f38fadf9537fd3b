/-
  The statements of layer 1 but BitsSplits: the walks.
-/
import Derived.Test.YtgdljjpdoocnnaaDoorLaw1
import Derived.Test.YtgdljjpdoocnnaaDoorQuiet
set_option maxRecDepth 100000
namespace Go.Proofs.YtgdljjpdoocnnaaDoor
open Go Go.RowKit
attribute [local irreducible] wpList Calls Code.wp

theorem firstW_split {x : Nat} {k : Int} {pre post : List Nat} (h : listW x = pre ++ post) (h1 : ∀ p ∈ pre, (p : Int) < k) (h2 : ∀ q ∈ post, k ≤ (q : Int)) : firstW x k = (match post.head? with | none => -1 | some q => (q : Int)) := by
  unfold firstW
  rw [h, List.find?_append, List.find?_eq_none.2 (fun p hp => by have := h1 p hp; simp; omega)]
  cases post with
  | nil => rfl
  | cons q post => simp [h2 q (by simp)]
def cutAt (x : Nat) (k : Int) (pre post : List Nat) : Prop := listW x = pre ++ post ∧ (∀ p ∈ pre, (p : Int) < k) ∧ ∀ q ∈ post, k ≤ (q : Int)
theorem cutAt.next {x : Nat} {k : Int} {pre post : List Nat} {q : Nat} (h : cutAt x k pre (q :: post)) : cutAt x ((q : Int) + 1) (pre ++ [q]) post := by
  obtain ⟨h1, h2, h3⟩ := h
  have hs := listW_sorted x
  rw [h1, List.pairwise_append] at hs
  have hq := h3 q (by simp)
  refine ⟨by simp [h1], fun p hp => ?_, fun r hr => ?_⟩
  · rcases List.mem_append.1 hp with hp | hp
    · have := h2 p hp; omega
    · simp at hp; omega
  · have := (List.pairwise_cons.1 hs.2.1).1 r hr; omega
theorem lastW_list (x : Nat) : lastW x = match (listW x).getLast? with | some i => (i : Int) | none => -1 := by unfold lastW; rfl
theorem first_v {x : Nat} (hx : x < 2 ^ 64) {f v : Int} (h : Hid (firstW x f = v)) (w : World) (hT : Tab w) : Calls Tryd.prog 15 #[.int .u64 x, .int .i64 f] w fun e w' => e = .returned (.int .i64 v) ∧ w = w' := by
  rw [← h.out]; exact first_c hx f w hT
theorem last_v {x : Nat} (hx : x < 2 ^ 64) {v : Int} (h : Hid (lastW x = v)) (w : World) : Calls Tryd.prog 16 #[.int .u64 x] w fun e w' => e = .returned (.int .i64 v) ∧ w = w' := by
  rw [← h.out]; exact last_c hx w
def intsV (l : List Nat) : List Value := l.map fun i : Nat => .int .i64 (i : Int)
theorem order_c {w0 : World} (hT : Tab w0) (z : Int) (hz : 0 ≤ z) (hz2 : z ≤ 18446744073709551615) : Calls Tryd.prog 3 #[.int .u64 z] w0 (LawPost w0) := by
  obtain ⟨x, rfl⟩ := Int.eq_ofNat_of_zero_le hz
  have hx : x < 2 ^ 64 := by omega
  have hs := St.start w0
  have hcnt := cntW_le x
  have hlast := lastW_list x
  have hlen : (listW x).length = cntW x := rfl
  have hsorted := Lib.hid (listW_sorted x)
  have hlt64 := Lib.hid (fun i (hi : i ∈ listW x) => (mem_listW.1 hi).1)
  clear hz hz2
  go_enter Tryd.func3, Tryd.ntmps3
  go_wp2_with (first | (go_at_call 14; refine (list_c hx hs hT).mono ?_; clear hs; rintro e w ⟨A, cap, rfl, hs⟩))
  generalize cntW x = c at *
  go_loopw [5, 6] (fun at_ i wr => ∃ pre post k, St w0 [own A c cap 3 1 ((listW x).map fun i : Nat => .int .i64 (i : Int))] wr ∧ i = .int .i64 (pre.length : Nat) ∧ at_ = .int .i64 k ∧ Hid (cutAt x k pre post)) (fun _ i _ => 70 - (intOf i).toNat)
  case atStart => exact ⟨[], listW x, 0, hs, rfl, rfl, rfl, by simp, fun q _ => by omega⟩
  case round =>
    clear hs
    obtain ⟨pre, post, k, hs, rfl, rfl, HC⟩ := hrel
    have hf := firstW_split HC.out.1 HC.out.2.1 HC.out.2.2
    cases post with
    | nil =>
      have HF : Hid (firstW x k = -1) := hf
      clear hf
      have e : listW x = pre := by simpa using HC.out.1
      rcases List.eq_nil_or_concat pre with e2 | ⟨p, q, e2⟩
      · subst e2
        rw [e] at hlast hlen
        have HL : Hid (lastW x = -1) := hlast
        obtain rfl : c = 0 := hlen.symm
        clear hlast e hlen
        go_wp2_with (first
          | (go_at_call 15; refine (first_v hx HF _ (hT.st hs)).mono ?_; rintro e w' ⟨rfl, rfl⟩)
          | (go_at_call 16; refine (last_v hx HL _).mono ?_; rintro e w' ⟨rfl, rfl⟩)
          | (go_at_call 17; refine (awake1_c hs hT).mono ?_; rintro e w' ⟨rfl, hs2⟩))
        have hne := StW.ne hs
        refine wp_region_quiet_st hs (by kernel_rfl) (by kernel_rfl) ?_
        repeat (go_big_quiet_step ((first
          | (go_at_call 16; exact in_same (last_v hx HL _))
          | (go_at_call 17; exact in_st (awake1_c (StW.st _) hT)))))
        refine wpQuiet_nil ?_
        clear hs
        rintro w' ⟨⟨w, hs⟩, rfl⟩
        go_wp2
        go_ret
        exact ⟨rfl, hs.drop⟩
      · have hq : e2 = e2 := rfl
        rw [List.concat_eq_append] at e2
        have hl2 : pre.length = c := by rw [← e]; exact hlen
        have HL : Hid (lastW x = (q : Int)) := by rw [Hid, hlast, e, e2]; simp
        have hpos : pre.length = p.length + 1 := by rw [e2]; simp
        have hq64 : q < 64 := hlt64.out q (by rw [e, e2]; simp)
        have hqv : ((listW x).map fun i : Nat => Value.int .i64 (i : Int))[p.length]? = some (.int .i64 (q : Int)) := by rw [e, e2]; simp
        clear hlast e e2 hq HC
        generalize pre.length = n at *
        generalize p.length = m at *
        obtain ⟨b, o, rfl, hc⟩ := (RdS.own hs).at_ (k := m) (by rw [List.length_map, hlen]; omega)
        rw [List.getElem?_eq_getElem (by rw [List.length_map, hlen]; omega)] at hqv
        rw [Option.some.inj hqv] at hc
        have hc' := hc.all
        obtain rfl : n = m + 1 := hpos
        obtain rfl : c = m + 1 := hl2.symm
        have hm : m < 64 := by omega
        have hwr : IntKind.i64.wrap ((m : Int) + 1 - 1) = (m : Int) := by rw [IntKind.wrap_i64]; omega
        have hz : ((m : Int) + 1 == 0) = false := by simp; omega
        have hz2 : ((q : Int) < 0) = False := by simp
        clear hqv hlen
        go_wp2_with (first
          | (go_at_call 15; refine (first_v hx HF _ (hT.st hs)).mono ?_; rintro e w' ⟨rfl, rfl⟩))
        have hne := StW.ne hs
        refine wp_region_quiet_st hs (by kernel_rfl) (by kernel_rfl) ?_
        repeat (go_big_quiet_step ((first
          | (go_at_call 16; exact in_same (last_v hx HL _))
          | (go_at_call 17; exact in_st (awake1_c (StW.st _) hT)))))
        refine wpQuiet_nil ?_
        clear hs
        rintro w' ⟨⟨w, hs⟩, rfl⟩
        go_wp2
        go_ret
        exact ⟨rfl, hs.drop⟩
    | cons q post =>
      have HF : Hid (firstW x k = (q : Int)) := hf
      have hkq : k ≤ (q : Int) := HC.out.2.2 q (by simp)
      have hn := Lib.hid HC.out.next
      have hlp : pre.length < c := by rw [← hlen, HC.out.1]; simp
      have hq64 : q < 64 := hlt64.out q (by rw [HC.out.1]; simp)
      have hqv : ((listW x).map fun i : Nat => Value.int .i64 (i : Int))[pre.length]? = some (.int .i64 (q : Int)) := by rw [HC.out.1]; simp
      obtain ⟨b, o, rfl, hc⟩ := (RdS.own hs).at_ (k := pre.length) (by rw [List.length_map, hlen]; omega)
      rw [List.getElem?_eq_getElem (by rw [List.length_map, hlen]; omega)] at hqv
      rw [Option.some.inj hqv] at hc
      have hc' := hc _ hs
      have hz2 : ((q : Int) < 0) = False := by simp
      clear hqv hf HC
      have HP : Hid ((pre ++ [q]).length = pre.length + 1) := by rw [Hid]; simp
      generalize pre.length = n at *
      go_wp2_with (first
        | (go_at_call 15; refine (first_v hx HF _ (hT.st hs)).mono ?_; rintro e w' ⟨rfl, rfl⟩))
      go_roundw
      case rel => exact ⟨pre ++ [q], post, (q : Int) + 1, hs, by rw [HP.out]; go_num, rfl, hn⟩
      case measure => simp [intOf]; omega
end Go.Proofs.YtgdljjpdoocnnaaDoor
