/-
  EntArgs: New of any size, the document's May; the walk.
-/
import Derived.Test.YtiafdlofcjbllaaGreatDoorEnLw
import Derived.Test.YtiafdlofcjbllaaGreatDoorJA
import Derived.Test.YtiafdlofcjbllaaGreatDoorOpE
set_option maxRecDepth 100000
namespace Go.Proofs.YtiafdlofcjbllaaGreatDoor
open Go Go.RowKit
theorem alMay_iff {n top : Int} : alMay n top = true ↔ 1 ≤ n ∧ n ≤ 65536 ∧ 1 ≤ top ∧ top ≤ 4294967295 := by
  unfold alMay
  simp [and_assoc]
def manyD (k : Nat) : List V3 := List.replicate k ⟨1, 3, 0⟩ ++ List.replicate (65 - k) V3.z
theorem manyD_len {k : Nat} (h : k ≤ 65) : (manyD k).length = 65 := by simp [manyD]; omega
theorem manyD_set {k : Nat} (h : k < 65) : (manyD k).set k ⟨1, 3, 0⟩ = manyD (k + 1) := by
  unfold manyD
  rw [List.set_append_right _ _ (by simp), List.length_replicate, Nat.sub_self, show 65 - k = (65 - (k + 1)) + 1 by omega, List.replicate_succ, List.set_cons_zero, List.replicate_succ']
  simp
theorem manyD_all : manyD 65 = List.replicate 65 ⟨1, 3, 0⟩ := by simp [manyD]
theorem madeD (m : Nat) : (madeCells (val3 V3.z).cells (m * 3)).toList = cs3 (List.replicate m V3.z) := by
  have e1 : ∀ m, cs3 (List.replicate m V3.z) = List.replicate (m * 3) (.int .i64 0) := fun m => by
    induction m with
    | zero => rfl
    | succ m ih =>
      rw [List.replicate_succ, show cs3 (V3.z :: List.replicate m V3.z) = YtiafdlofcjbllaaGreatDoor.c3 V3.z ++ cs3 (List.replicate m V3.z) from rfl, ih, Nat.succ_mul, Nat.add_comm, ← List.replicate_append_replicate]
      rfl
  rw [e1]
  apply List.ext_getElem
  · simp [madeCells]
  · intro i h1 h2
    rw [List.getElem_replicate]
    simp only [madeCells, Array.getElem_toList, Array.getElem_map, Array.getElem_range]
    have : i % 3 < 3 := Nat.mod_lt _ (by decide)
    show (#[Value.int .i64 0, Value.int .i64 0, Value.int .i64 0] : Array Value)[i % 3]! = _
    have h3 : i % 3 = 0 ∨ i % 3 = 1 ∨ i % 3 = 2 := by omega
    rcases h3 with h | h | h <;> rw [h] <;> rfl
theorem manyD_zero : manyD 0 = List.replicate 65 V3.z := by simp [manyD]
theorem cs3_take (l : List V3) (k : Nat) : (cs3 l).take (k * 3) = cs3 (l.take k) := by
  induction l generalizing k with
  | nil => simp [cs3]
  | cons a l ih =>
    cases k with
    | zero => simp [cs3]
    | succ k =>
      have e1 : cs3 (a :: l) = YtiafdlofcjbllaaGreatDoor.c3 a ++ cs3 l := rfl
      have e2 : cs3 (a :: l.take k) = YtiafdlofcjbllaaGreatDoor.c3 a ++ cs3 (l.take k) := rfl
      rw [List.take_succ_cons, e1, e2, ← ih k, List.take_append, show (YtiafdlofcjbllaaGreatDoor.c3 a).length = 3 from rfl, show (k + 1) * 3 - 3 = k * 3 by omega, List.take_of_length_le (show (YtiafdlofcjbllaaGreatDoor.c3 a).length ≤ (k + 1) * 3 from by rw [show (YtiafdlofcjbllaaGreatDoor.c3 a).length = 3 from rfl]; omega)]
theorem err_many : newErr 5 5 (List.replicate 65 ⟨1, 3, 0⟩) = 2 := by kernel_rfl
theorem err_few : newErr 5 5 (List.replicate 64 ⟨1, 3, 0⟩) = 0 := by kernel_rfl
attribute [local irreducible] wpList Calls Code.wp okI okN pS tS memS getG pG insS delS getV pV tV okVal newSl SlS.put SlS.err SlS.putU SlS.putB descE SlS.take SlS.set SlS.errSet SlS.get SlS.has stV EnS.live EnS.get EnS.slot EnS.ins EnS.set EnS.rem EnS.parts EnS.del ofN strL delA newA giveV cs3 errDs descsL mkV alMay newErr
theorem en_new_no {w0 w : World} {L : List As} (hs : St w0 L w) {n top : Int} (h : alMay n top = false) {v : Value} :
    Calls Tryz.prog 14 #[.int .i64 n, .int .i64 top, v] w fun r w' => r = .returned (.tuple #[.pointer none, .int .i64 1]) ∧ St w0 L w' := by
  have HM := Lib.hid h
  clear h
  go_enter Tryz.func14, Tryz.ntmps14
  (go_wp2_with (first
    | (go_at_call 72; refine (anew_no hs HM.out).mono ?_; clear hs; rintro r w ⟨rfl, hs⟩)))
  go_ret2
  exact ⟨rfl, hs⟩
/-- New, whatever it is told: nil just if there is an error. -/
theorem en_new_g {w0 w : World} {L : List As} (hs : St w0 L w) {n top : Int} {A : Option Addr} {m cA : Nat} {ds : List V3} (hm : Hid (ds.length = m)) (hmb : m ≤ 140737488355328) (hr : RdS w0 L A (cs3 ds)) {e : Int} (he : Hid (newErr n top ds = e)) :
    Calls Tryz.prog 14 #[.int .i64 n, .int .i64 top, .slice A m cA] w fun r w' => ((e = 0 ∧ ∃ E, r = .returned (.tuple #[.pointer (some ⟨E, 0, none⟩), .int .i64 0])) ∨ (e ≠ 0 ∧ r = .returned (.tuple #[.pointer none, .int .i64 e]))) ∧ St w0 L w' := by
  have h1 := he.out
  unfold newErr at h1
  cases hM : alMay n top with
  | false =>
    rw [hM] at h1
    obtain rfl : e = 1 := h1.symm
    refine (en_new_no hs hM).mono fun r w' h => ?_
    exact ⟨.inr ⟨by decide, h.1⟩, h.2⟩
  | true =>
    rw [hM] at h1
    simp only [if_true] at h1
    obtain ⟨a1, a2, a3, a4⟩ := alMay_iff.1 hM
    obtain ⟨k, rfl⟩ := Int.eq_ofNat_of_zero_le (show 0 ≤ n by omega)
    refine (en_new hs (by omega) (by omega) a3 a4 hm hmb hr (Lib.hid h1)).mono fun r w' h => ?_
    unfold EnNew at h
    rcases h with ⟨h0, E, A1, R, l, _, h3, h4⟩ | ⟨h0, h3, h4⟩
    · exact ⟨.inl ⟨h0, E, h3⟩, h4.drop⟩
    · exact ⟨.inr ⟨h0, h3⟩, h4⟩
theorem en_new_g0 {w0 w : World} {L : List As} (hs : St w0 L w) {n top : Int} {A : Option Addr} {m cA : Nat} {ds : List V3} (hm : Hid (ds.length = m)) (hmb : m ≤ 140737488355328) (hr : RdS w0 L A (cs3 ds)) (he : Hid (newErr n top ds = 0)) :
    Calls Tryz.prog 14 #[.int .i64 n, .int .i64 top, .slice A m cA] w fun r w' => ∃ E, r = .returned (.tuple #[.pointer (some ⟨E, 0, none⟩), .int .i64 0]) ∧ St w0 L w' :=
  (en_new_g hs hm hmb hr he).mono fun _ _ ⟨h1, h2⟩ => by
    rcases h1 with ⟨_, E, h1⟩ | ⟨h1, _⟩
    · exact ⟨E, h1, h2⟩
    · exact absurd rfl h1
theorem en_new_ge {w0 w : World} {L : List As} (hs : St w0 L w) {n top : Int} {A : Option Addr} {m cA : Nat} {ds : List V3} (hm : Hid (ds.length = m)) (hmb : m ≤ 140737488355328) (hr : RdS w0 L A (cs3 ds)) {e : Int} (he : Hid (newErr n top ds = e)) (h0 : Hid (e ≠ 0)) :
    Calls Tryz.prog 14 #[.int .i64 n, .int .i64 top, .slice A m cA] w fun r w' => r = .returned (.tuple #[.pointer none, .int .i64 e]) ∧ St w0 L w' :=
  (en_new_g hs hm hmb hr he).mono fun _ _ ⟨h1, h2⟩ => by
    rcases h1 with ⟨h1, _⟩ | ⟨_, h1⟩
    · exact absurd h1 h0.out
    · exact ⟨h1, h2⟩
theorem rmay_d (n top : Int) (w : World) : Calls Tryz.prog 102 #[.int .i64 n, .int .i64 top] w fun e w' => e = .returned (.bool (alMay n top)) ∧ w = w' := by
  by_cases h1 : 1 ≤ n
  · by_cases h2' : n ≤ 65536
    · by_cases h3 : 1 ≤ top
      · by_cases h4 : top ≤ 4294967295
        · have HV : Hid (alMay n top = true) := by simp [Hid, alMay, h1, h2', h3, h4]
          go_enter Tryz.func102, Tryz.ntmps102
          go_wp2
          go_ret
          exact ⟨by rw [HV.out]; rfl, rfl⟩
        · have HV : Hid (alMay n top = false) := by simp [Hid, alMay, h1, h2', h3, h4]
          go_enter Tryz.func102, Tryz.ntmps102
          go_wp2
          go_ret
          exact ⟨by rw [HV.out]; first | rfl | simp; omega, rfl⟩
      · have HV : Hid (alMay n top = false) := by simp [Hid, alMay, h1, h2', h3]
        go_enter Tryz.func102, Tryz.ntmps102
        go_wp2
        go_ret
        exact ⟨by rw [HV.out]; first | rfl | simp; omega, rfl⟩
    · have HV : Hid (alMay n top = false) := by simp [Hid, alMay, h1, h2']
      go_enter Tryz.func102, Tryz.ntmps102
      go_wp2
      go_ret
      exact ⟨by rw [HV.out]; first | rfl | simp; omega, rfl⟩
  · have HV : Hid (alMay n top = false) := by simp [Hid, alMay, h1]
    go_enter Tryz.func102, Tryz.ntmps102
    go_wp2
    go_ret
    exact ⟨by rw [HV.out]; first | rfl | simp; omega, rfl⟩
theorem rmay_v {n top : Int} {w : World} {b : Bool} (h : Hid (alMay n top = b)) : Calls Tryz.prog 102 #[.int .i64 n, .int .i64 top] w fun e w' => e = .returned (.bool b) ∧ w = w' := by rw [← h.out]; exact rmay_d n top w
/-! ### The document's May -/
set_option maxHeartbeats 2000000 in
theorem may15_c {w0 w : World} {L : List As} (hs : St w0 L w) {n top : Int} {A B : Option Addr} {m cA kB cB : Nat} {ds : List V3} (hm : Hid (ds.length = m)) (hmb : m ≤ 140737488355328) (hr : RdS w0 L A (cs3 ds)) {e : Int} (he : Hid (newErr n top ds = e)) :
    Calls Tryz.prog 48 #[.agg (cfC n top A m cA B kB cB).toArray] w fun r w' => r = .returned (.int .i64 e) ∧ Grew w w' := by
  rw [cs3_rows] at hr
  have hw := St.start w
  have h1 := he.out
  unfold newErr at h1
  clear he
  go_enter Tryz.func48, Tryz.ntmps48
  go_upto_region 1 with (first
    | (refine wpl_box_v (v := .agg (cfC n top A m cA B kB cB).toArray) rfl hw ?_; clear hw; intro g w1 hw; replace hw : St w [blk g (cfC n top A m cA B kB cB).toArray 28] w1 := hw))
  have f0 : World.cell? _ ⟨g, 0, none⟩ = some (.int .i64 n) := Rd.blk (by rfl) _ hw
  have f1 : World.cell? _ ⟨g, 1, none⟩ = some (.int .i64 top) := Rd.blk (by rfl) _ hw
  cases hM : alMay n top with
  | false =>
    rw [hM] at h1
    obtain rfl : e = 1 := h1.symm
    have HM := Lib.hid hM
    clear hM h1
    (go_wp2_with (first
      | (go_at_call 102; refine (rmay_v HM).mono ?_; rintro r w' ⟨rfl, rfl⟩)))
    go_ret
    exact ⟨rfl, hw.made_grew⟩
  | true =>
    rw [hM] at h1
    simp only [if_true] at h1
    have HE0 := Lib.hid h1
    have HM := Lib.hid hM
    clear hM h1
    go_upto_region 3 with (first
      | (go_at_call 102; refine (rmay_v HM).mono ?_; rintro r w' ⟨rfl, rfl⟩))
    clear f0 f1 HM
    go_upto_region 4 with (fail)
    go_loopw [3] (fun iv wr => ∃ (k : Nat), k ≤ m ∧ k ≤ 64 ∧ iv = .int .i64 (k : Nat) ∧ Hid (errDs k (ds.drop k) = e) ∧ St w [blk g (cfC n top A m cA B kB cB).toArray 28] wr) (fun iv _ => m - (intOf iv).toNat)
    case atStart => exact ⟨0, Nat.zero_le _, by decide, rfl, HE0, hw⟩
    case round =>
      clear hw HE0
      obtain ⟨k, hk, hk64, rfl, HE, hw⟩ := hrel
      have f2 : World.cell? _ ⟨g, 2, none⟩ = some (.slice A m cA) := Rd.blk (by rfl) _ hw
      by_cases hlt : k < m
      · obtain ⟨d, hd⟩ : ∃ d, ds[k]? = some d := ⟨_, List.getElem?_eq_getElem (by rw [hm.out]; exact hlt)⟩
        have hcell := fun j x hx => hr.get (rows_get (C := 3) (encX := YtiafdlofcjbllaaGreatDoor.c3) (fun _ => rfl) hd j x hx)
        obtain ⟨b9, off, rfl, _⟩ := hcell 0 _ rfl
        have hld : ∀ j x, (YtiafdlofcjbllaaGreatDoor.c3 d)[j]? = some x → Rd w0 L ⟨b9, off + k * 3 + j, none⟩ x := fun j x hx => by
          obtain ⟨b', o', he, hr⟩ := hcell j x hx
          injection he with he
          injection he with e1 e2
          subst e1; subst e2
          rw [Nat.add_assoc]; exact hr
        have hdrop : ds.drop k = d :: ds.drop (k + 1) := by
          obtain ⟨h5, h6⟩ := List.getElem?_eq_some_iff.1 hd
          rw [List.drop_eq_getElem_cons h5, h6]
        have h5 := HE.out
        rw [hdrop] at h5
        unfold errDs at h5
        have hs2 := hs.grew hw.made_grew
        obtain ⟨e1, HE1⟩ : ∃ z, Hid (descE d = z) := ⟨_, rfl⟩
        rw [HE1.out] at h5
        clear hcell hd hdrop HE
        by_cases h0 : e1 = 0
        · subst h0
          rw [if_pos rfl] at h5
          by_cases h6 : 64 ≤ k
          · rw [if_pos h6] at h5
            subst h5
            have h7 : (64 : Int) ≤ (k : Int) := by omega
            (go_wp2_with (first
              | (refine wpl_load_agg (cs := YtiafdlofcjbllaaGreatDoor.c3 d) (b := b9) (o := off + k * 3) rfl agg3D size3Dn hs2 ?hh ?_; case hh => exact fun j x hx => hld j x hx)
              | (go_at_call 103; refine (descmay_c d HE1).mono ?_; rintro r w' ⟨rfl, hg⟩; replace hw := hw.grew hg; clear hg)))
            go_ret
            exact ⟨rfl, hw.made_grew⟩
          · rw [if_neg h6] at h5
            have HE' := Lib.hid h5
            clear h5
            have h7 : ¬ (64 : Int) ≤ (k : Int) := by omega
            (go_wp2_with (first
              | (refine wpl_load_agg (cs := YtiafdlofcjbllaaGreatDoor.c3 d) (b := b9) (o := off + k * 3) rfl agg3D size3Dn hs2 ?hh ?_; case hh => exact fun j x hx => hld j x hx)
              | (go_at_call 103; refine (descmay_c d HE1).mono ?_; rintro r w' ⟨rfl, hg⟩; replace hw := hw.grew hg; clear hg)))
            go_roundw
            case rel => exact ⟨k + 1, by omega, by omega, by first | rfl | go_num, HE', hw⟩
            case measure => simp [intOf] <;> omega
        · rw [if_neg h0] at h5
          subst h5
          have e5 : (e1 == 0) = false := by simpa using h0
          have e6 : (e1 != 0) = true := by simpa using h0
          clear h0
          (go_wp2_with (first
            | (refine wpl_load_agg (cs := YtiafdlofcjbllaaGreatDoor.c3 d) (b := b9) (o := off + k * 3) rfl agg3D size3Dn hs2 ?hh ?_; case hh => exact fun j x hx => hld j x hx)
            | (go_at_call 103; refine (descmay_c d HE1).mono ?_; rintro r w' ⟨rfl, hg⟩; replace hw := hw.grew hg; clear hg)))
          go_ret
          exact ⟨rfl, hw.made_grew⟩
      · obtain rfl : k = m := by omega
        have h5 := HE.out
        rw [List.drop_eq_nil_of_le (by rw [hm.out]; exact Nat.le_refl _)] at h5
        unfold errDs at h5
        subst h5
        clear HE
        go_wp2
        go_ret
        exact ⟨rfl, hw.made_grew⟩
/-! ### The walk -/
theorem infoD : (Tryz.prog.info? 97).map (fun i => (i.zero, i.size, i.bytes)) = some (some (val3 V3.z), 3, 24) := by kernel_rfl
theorem build_d13 (w : World) : (Instr.build 97 #[(0, .int .i64 1), (1, .int .i64 3)]).run Tryz.prog w = .ok (val3 ⟨1, 3, 0⟩) w := by kernel_rfl
theorem RdS.take3 {w0 : World} {L : List As} {A : Option Addr} {l : List V3} (h : RdS w0 L A (cs3 l)) (k : Nat) : RdS w0 L A (cs3 (l.take k)) := fun j u hu => by
  rw [← cs3_take, List.getElem?_take] at hu
  split at hu
  · exact h j u hu
  · cases hu
end Go.Proofs.YtiafdlofcjbllaaGreatDoor
