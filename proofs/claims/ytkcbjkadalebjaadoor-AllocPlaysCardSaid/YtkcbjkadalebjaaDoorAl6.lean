/-
  Handles (alloc.Alloc), 6: New.
-/
import Derived.Test.YtkcbjkadalebjaaDoorAl5
set_option maxRecDepth 100000
namespace Go.Proofs.YtkcbjkadalebjaaDoor
open Go Go.RowKit
attribute [local irreducible] wpList Calls Code.wp

/-- May an Alloc be? -/
def alMay (size top : Int) : Bool := decide (1 ≤ size) && decide (size ≤ 65536) && decide (1 ≤ top) && decide (top ≤ 4294967295)
theorem new0 {w0 w : World} {L : List As} (hs : St w0 L w) : Calls Tryd.prog 29 #[.slice none 0 0] w fun e w' => ∃ T, e = .returned (.pointer (some ⟨T, 0, none⟩)) ∧ St w0 (HSet T [] :: L) w' :=
  new_v (zs := []) hs RdS.nil (by simp) rfl rfl
theorem made64 (n : Nat) : madeCells #[Value.int .i64 0] n = (gensV (newA n)).toArray := by
  unfold madeCells gensV newA
  apply Array.toList_inj.1
  apply List.ext_getElem?
  intro i
  by_cases h : i < n
  · simp [h, Nat.mod_one]
  · simp [h]
theorem run_mk64 {n : Nat} (hn : n ≤ 65536) (w : World) : (Instr.makeSlice 61 (.int .i64 (n : Nat)) (.int .i64 (n : Nat))).run Tryd.prog w = .ok (.slice (some ⟨w.heap.size, 0, none⟩) n n) (w.alloc (.cells (gensV (newA n)).toArray 2)) := by
  have hi : (Tryd.prog.info? 2).map (fun i => (i.zero, i.size, i.bytes)) = some (some (.int .i64 0), 1, 8) := by kernel_rfl
  cases hq : Tryd.prog.info? 2 with
  | none => rw [hq] at hi; cases hi
  | some i =>
    rw [hq] at hi
    simp at hi
    obtain ⟨hz, hsz, hby⟩ := hi
    have hr := run_make (P := Tryd.prog) w 61 2 i (.int .i64 0) Tryd.underlying61 hq hz .i64 .i64 (n : Nat) (n : Nat) (by omega) (by omega) (by rw [hby]; omega) (by omega)
    rw [hr, hsz]
    simp only [Int.toNat_natCast, Nat.mul_one]
    rw [show (Value.int IntKind.i64 0).cells = #[Value.int .i64 0] from rfl, made64]
theorem own_of_blk {g n : Nat} {t : TypeId} {cs : List Value} (hn : cs.length = n) (hm : n ≤ maxLen) : ∀ h, blk g cs.toArray t h → own (some ⟨g, 0, none⟩) n n t 1 cs h := fun _ hb =>
  ⟨by omega, .inr ⟨g, cs.toArray, rfl, Nat.le_refl _, hm, by simp [hn], by simp [← hn], hb⟩⟩
theorem St.alloc2 {w0 w : World} {L : List As} (hs : St w0 L w) (cs cs' : Array Value) (t t' : TypeId) : St w0 (YtkcbjkadalebjaaDoor.blk (w.heap.size + 1) cs' t' :: YtkcbjkadalebjaaDoor.blk w.heap.size cs t :: L) ((w.alloc (.cells cs t)).alloc (.cells cs' t')) := by
  have h := (hs.alloc cs t).alloc cs' t'
  have e : (w.alloc (.cells cs t)).heap.size = w.heap.size + 1 := by simp
  rwa [e] at h
theorem anew_fin {w0 wx : World} {D T1 T2 T3 G n : Nat} {top : Int} {L M : List As} (hn : n ≤ 65536)
    (hs : St w0 (blk D #[.pointer (some ⟨T1, 0, none⟩), .pointer (some ⟨T2, 0, none⟩), .pointer (some ⟨T3, 0, none⟩), .int .i64 top, .slice (some ⟨G, 0, none⟩) n n, .int .i64 0] 63 :: M) wx)
    (hM : Ent M (HSet T1 [] :: HSet T2 [] :: HSet T3 [] :: blk G (gensV (newA n)).toArray 2 :: L)) :
    ∃ D' TF TL TR G, Value.pointer (some ⟨D, 0, none⟩) = .pointer (some ⟨D', 0, none⟩) ∧
      St w0 (blk D' (alC TF TL TR top G n n 0).toArray 63 :: HSet TF [] :: HSet TL [] :: HSet TR [] :: own (some ⟨G, 0, none⟩) n n 2 1 (gensV (newA n)) :: L) wx :=
  ⟨D, T1, T2, T3, G, rfl, hs.ent (Ent.cons _ (hM.trans (Ent.cons _ (Ent.cons _ (Ent.cons _ (Ent.head (own_of_blk (by simp [gensV, newA]) (by unfold maxLen; omega))))))))⟩
attribute [local irreducible] idxS addS okN memS remS errN insS delS nextS stA gnA
set_option maxHeartbeats 1000000 in
theorem anew_c {w0 w : World} {L : List As} (hs : St w0 L w) {n : Nat} {top : Int} (h1 : 1 ≤ n) (h2 : n ≤ 65536) (h3 : 1 ≤ top) (h4 : top ≤ 4294967295) :
    Calls Tryd.prog 8 #[.int .i64 (n : Nat), .int .i64 top] w fun e w' => ∃ D, e = .returned (.tuple #[.pointer (some ⟨D, 0, none⟩), .int .i64 0]) ∧ St w0 (AlB D top (newA n) :: L) w' := by
  go_enter Tryd.func8, Tryd.ntmps8
  go_upto_region 3 with (fail)
  go_cut [6] (fun v wx => ∃ D TF TL TR G, v = .pointer (some ⟨D, 0, none⟩) ∧
    St w0 (blk D (alC TF TL TR top G n n 0).toArray 63 :: HSet TF [] :: HSet TL [] :: HSet TR [] :: own (some ⟨G, 0, none⟩) n n 2 1 (gensV (newA n)) :: L) wx)
  case first =>
    have hmk := run_mk64 h2
    go_region_with (first
      | (go_at_call 29; refine (new0 hs.drew).mono ?_; clear hs; rintro e w' ⟨T, rfl, hs⟩)
      | (go_at_call 29; refine (new0 hs).mono ?_; clear hs; rintro e w' ⟨T, rfl, hs⟩)
      | (go_at_call 29; refine (new0 (hs.drew.alloc _ _)).mono ?_; clear hs; rintro e w' ⟨T, rfl, hs⟩)
      | (go_at_call 29; refine (new0 (hs.alloc _ _)).mono ?_; clear hs; rintro e w' ⟨T, rfl, hs⟩))
    all_goals
      clear hmk
      go_wp2
      go_meet
      first
        | exact anew_fin h2 (hs.alloc2 _ _ _ _) (Ent.step (Ent.skip (Ent.skip (Ent.skip (Ent.refl _)))) (Ent.step (Ent.skip (Ent.skip (Ent.refl _))) (Ent.step (Ent.skip (Ent.refl _)) (Ent.refl _))))
        | exact anew_fin h2 (hs.alloc _ _) (Ent.step (Ent.skip (Ent.skip (Ent.skip (Ent.refl _)))) (Ent.step (Ent.skip (Ent.skip (Ent.refl _))) (Ent.refl _)))
        | exact anew_fin h2 (hs.alloc _ _) (Ent.step (Ent.skip (Ent.skip (Ent.skip (Ent.refl _)))) (Ent.step (Ent.skip (Ent.refl _)) (Ent.step (Ent.refl _) (Ent.refl _))))
        | exact anew_fin h2 (hs.alloc _ _) (Ent.step (Ent.skip (Ent.skip (Ent.refl _))) (Ent.step (Ent.skip (Ent.refl _)) (Ent.step (Ent.refl _) (Ent.refl _))))
        | exact anew_fin h2 (hs.alloc _ _) (Ent.step (Ent.skip (Ent.skip (Ent.refl _))) (Ent.step (Ent.skip (Ent.refl _)) (Ent.refl _)))
  case rest =>
    obtain ⟨D, TF, TL, TR, G, rfl, hs⟩ := hcut
    go_wp2
    go_loopw [32] (fun cv wr => ∃ k : Nat, k ≤ n ∧ cv = .int .i64 (k : Nat) ∧ St w0 (blk D (alC TF TL TR top G n n 0).toArray 63 :: HSet TF (List.range k) :: HSet TL [] :: HSet TR [] :: own (some ⟨G, 0, none⟩) n n 2 1 (gensV (newA n)) :: L) wr) (fun cv _ => n - (intOf cv).toNat)
    case atStart => exact ⟨0, Nat.zero_le _, rfl, hs⟩
    case round =>
      clear hs
      obtain ⟨k, hk, rfl, hs⟩ := hrel
      obtain ⟨d0, _, _, _, _, _⟩ := alRd hs
      by_cases hlt : k < n
      · have hkm : k < 16777216 := by omega
        have HE : Hid (errN (k : Int) = 0) := errN_le hkm
        obtain ⟨b0, HD⟩ : ∃ b, Hid ((okN (k : Int) && !memS (List.range k) (k : Int)) = b) := ⟨_, rfl⟩
        have HA : Hid (addS (List.range k) (k : Int) = List.range (k + 1)) := by rw [Hid, addS_le hkm, ins_range]
        clear hkm
        go_wp2_with (first
          | (go_at_call 30; refine (add_v hs.rot HD HE HA).mono ?_; clear hs d0; rintro e w' ⟨rfl, hs⟩; replace hs := hs.rot))
        go_roundw
        case rel => exact ⟨k + 1, by omega, by go_num, hs⟩
        case measure => simp [intOf] <;> omega
      · obtain rfl : k = n := by omega
        have hok := alOk_new (n := k) h3 h4 (by omega) h2
        have H0 := Lib.hid (idx_new0 k).symm
        have HL : Hid (k = (newA k).length) := by simp [Hid, newA]
        have hs2 : St w0 (blk D (alC TF TL TR top G (newA k).length k (retA (newA k))).toArray 63 :: HSet TF (idxS 0 (newA k)) :: HSet TL (idxS 1 (newA k)) :: HSet TR (idxS 2 (newA k)) :: own (some ⟨G, 0, none⟩) (newA k).length k 2 1 (gensV (newA k)) :: L) wr := by
          rw [idx_new (s := 1) k (by decide), idx_new (s := 2) k (by decide), ← H0.out, ← HL.out]
          unfold retA
          rw [idx_new (s := 9) k (by decide)]
          exact hs
        have hs3 := Lib.hid (hs2.alshut hok)
        clear hs2 H0 HL hs hok
        go_wp2
        go_ret2
        exact ⟨D, rfl, hs3.out⟩
theorem anew_no {w0 w : World} {L : List As} (hs : St w0 L w) {n top : Int} (h : alMay n top = false) :
    Calls Tryd.prog 8 #[.int .i64 n, .int .i64 top] w fun e w' => e = .returned (.tuple #[.pointer none, .int .i64 1]) ∧ St w0 L w' := by
  by_cases h1 : n < 1
  · clear h
    go_enter Tryd.func8, Tryd.ntmps8
    go_wp2
    go_ret2
    exact ⟨rfl, hs⟩
  · by_cases h2 : 65536 < n
    · clear h
      go_enter Tryd.func8, Tryd.ntmps8
      go_wp2
      go_ret2
      exact ⟨rfl, hs⟩
    · by_cases h3 : top < 1
      · clear h
        go_enter Tryd.func8, Tryd.ntmps8
        go_wp2
        go_ret2
        exact ⟨rfl, hs⟩
      · have h4 : 4294967295 < top := by
          unfold alMay at h
          simp at h
          omega
        clear h
        go_enter Tryd.func8, Tryd.ntmps8
        go_wp2
        go_ret2
        exact ⟨rfl, hs⟩
end Go.Proofs.YtkcbjkadalebjaaDoor
