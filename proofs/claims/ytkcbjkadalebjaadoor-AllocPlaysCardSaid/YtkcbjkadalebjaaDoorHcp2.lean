/-
  The contracts of node.copy and a set's Copy.
-/
import Derived.Test.YtkcbjkadalebjaaDoorHib7
import Derived.Test.YtkcbjkadalebjaaDoorHcp
import Derived.Test.YtkcbjkadalebjaaDoorOps3
set_option maxRecDepth 100000
namespace Go.Proofs.YtkcbjkadalebjaaDoor
open Go Go.RowKit
attribute [local irreducible] wpList Calls Code.wp

theorem arr_kids : Tryd.prog.underlying 83 = some (.array 64 82) := by kernel_rfl
theorem agg_kids : (match Tryd.prog.underlying 83 with | some (.struct _) | some (.array _ _) => true | _ => false) = true := by kernel_rfl
theorem size_kids : (Tryd.prog.info? 83).map (·.size) = some 64 := by kernel_rfl
theorem build_node1 (x : Nat) (w : World) : (Instr.build 85 #[(0, .int .u64 (x : Nat))]).run Tryd.prog w = .ok (.agg (Value.int .u64 (x : Nat) :: List.replicate 64 (.pointer none)).toArray) w := by kernel_rfl
def kidsL (G : Key → Option Nat) (l p : Nat) : List Value := (List.range 64).map fun d => kidV G l p d
theorem kidsL_len (G : Key → Option Nat) (l p : Nat) : (kidsL G l p).length = 64 := by simp [kidsL]
theorem kidsL_get {G : Key → Option Nat} {l p d : Nat} (hd : d < 64) : (kidsL G l p)[d]? = some (kidV G l p d) := by simp [kidsL, hd]
theorem cellsN_none (W : Key → Nat) (l p : Nat) : cellsN (fun _ => none) W l p = .int .u64 (W (l, p) : Nat) :: List.replicate 64 (.pointer none) := by
  unfold cellsN
  congr 1
  apply List.ext_getElem (by simp)
  intro i h1 h2
  rw [List.getElem_replicate, List.getElem_map]
  unfold kidV
  split <;> rfl
theorem cellsN_len (G : Key → Option Nat) (W : Key → Nat) (l p : Nat) : (cellsN G W l p).length = 65 := by simp [cellsN]
/-- What a node's copy answers. -/
def CopyPost (G : Key → Option Nat) (W : Key → Nat) (l p : Nat) (w : World) (e : Ending) (w' : World) : Prop :=
  ∃ c ks' G', e = .returned (.pointer (some ⟨c, 0, none⟩)) ∧ Cop G l p 64 ks' G' ∧ St w (blk c (cellsN G' W l p).toArray 85 :: ks'.map (ndBlk G' W 0)) w'
theorem cop_next {w0 w : World} {G G1 G2 : Key → Option Nat} {W : Key → Nat} {m p i c c2 : Nat} {ks1 ks2 : List Key} (h : Cop G (m + 1) p i ks1 G1) (h2 : Cop G m (64 * p + i) 64 ks2 G2) (hm : m < 3)
    (hs : St w0 (blk c ((cellsN G1 W (m + 1) p).set (1 + i) (.pointer (some ⟨c2, 0, none⟩))).toArray 85 :: ((blk c2 (cellsN G2 W m (64 * p + i)).toArray 85 :: ks2.map (ndBlk G2 W 0)) ++ ks1.map (ndBlk G1 W 0))) w) :
    St w0 (blk c (cellsN (addG G1 G2 ks2 (m, 64 * p + i) c2) W (m + 1) p).toArray 85 :: ((m, 64 * p + i) :: (ks2 ++ ks1)).map (ndBlk (addG G1 G2 ks2 (m, 64 * p + i) c2) W 0)) w := by
  rw [h2.adds, List.map_cons, List.map_append, h.addc h2 hm, List.map_congr_left (h.add1 (W := W) (c := c2) h2), List.map_congr_left (h.add2 (W := W) (c := c2) h2)]
  exact hs
/-- What stands below: the kid's pointer, and the law for it. -/
theorem kid_case {G : Key → Option Nat} {l p i : Nat} : kidV G l p i = .pointer none ∧ (l = 0 ∨ ∃ m, l = m + 1 ∧ G (m, 64 * p + i) = none) ∨ ∃ m g, l = m + 1 ∧ G (m, 64 * p + i) = some g ∧ kidV G l p i = .pointer (some ⟨g, 0, none⟩) := by
  cases l with
  | zero => exact .inl ⟨rfl, .inl rfl⟩
  | succ m =>
    cases hg : G (m, 64 * p + i) with
    | none => exact .inl ⟨by simp [kidV, hg], .inr ⟨m, rfl, hg⟩⟩
    | some g => exact .inr ⟨m, g, rfl, hg, by simp [kidV, hg]⟩
theorem Cop.skip0 {G G1 : Key → Option Nat} {l p i : Nat} {ks1 : List Key} (h : Cop G l p i ks1 G1) (hup : UpG G) (hl : l ≤ 3) (hn : l = 0 ∨ ∃ m, l = m + 1 ∧ G (m, 64 * p + i) = none) : Cop G l p (i + 1) ks1 G1 := by
  rcases hn with rfl | ⟨m, rfl, hn⟩
  · exact ⟨h.nodup, fun k => by rw [h.mem]; exact ⟨fun h2 => absurd h2.1 und_zero, fun h2 => absurd h2.1 und_zero⟩, h.there⟩
  · exact h.skip hup (by omega) hn
section
variable {w0 : World} {L : List As} {ks : List Key} {G : Key → Option Nat} {W : Key → Nat} {n : Nat}
theorem copy_step (hmem : ∀ k, k ∈ ks ↔ G k ≠ none) (hup : UpG G) {l p g : Nat} (hl : l ≤ 3) (hg : G (l, p) = some g)
    (ih : ∀ m i g', l = m + 1 → i < 64 → G (m, 64 * p + i) = some g' → ∀ w, St w0 (tbl ks G W n :: L) w → Calls Tryd.prog 58 #[.pointer (some ⟨g', 0, none⟩)] w (CopyPost G W m (64 * p + i) w))
    (w : World) (hs : St w0 (tbl ks G W n :: L) w) : Calls Tryd.prog 58 #[.pointer (some ⟨g, 0, none⟩)] w (CopyPost G W l p w) := by
  have hk : (l, p) ∈ ks := (hmem _).2 (by rw [hg]; exact Option.some_ne_none g)
  have hrw := Rd.tbl_word (w0 := w0) (L := L) (W := W) (n := n) hk hg
  have hcw := hrw _ hs
  have hrk : ∀ j u, (kidsL G l p)[j]? = some u → Rd w0 (tbl ks G W n :: L) ⟨g, 1 + j, none⟩ u := fun j u hj => by
    have hj64 : j < 64 := by
      rcases Nat.lt_or_ge j 64 with h | h
      · exact h
      · rw [List.getElem?_eq_none (by rw [kidsL_len]; exact h)] at hj; cases hj
    rw [kidsL_get hj64] at hj
    rw [← Option.some.inj hj]
    exact Rd.tbl_kid (w0 := w0) (L := L) (W := W) (n := n) hk hg hj64
  have hkl := kidsL_len G l p
  have hkg := fun d hd => kidsL_get (G := G) (l := l) (p := p) (d := d) hd
  generalize kidsL G l p = kc at hrk hkl hkg
  have hm := St.start w
  have hs0 := hs
  obtain ⟨zv, HZ⟩ : ∃ zv, Hid (zv = Value.agg (cellsN (fun _ => none) W l p).toArray) := ⟨_, rfl⟩
  have hz : ∀ w, (Instr.build 85 #[(0, .int .u64 (W (l, p) : Nat))]).run Tryd.prog w = .ok zv w := fun w => by rw [HZ.out, cellsN_none]; exact build_node1 (W (l, p)) w
  obtain ⟨x, HX⟩ : ∃ x, Hid (x = W (l, p)) := ⟨_, rfl⟩
  rw [← HX.out] at hcw hz
  clear hrw hk
  go_enter Tryd.func58, Tryd.ntmps58
  go_wp2_with (first
    | (refine wpl_buildS hz rfl ?_)
    | (refine wpl_box_v (v := zv) rfl hm ?_; clear hm; intro c w1 hm; replace hs := hs.grew hm.made_grew)
    | (refine wpl_load_agg (cs := kc) rfl agg_kids (by rw [size_kids, hkl]) hs hrk ?_))
  rw [HZ.out] at hm
  replace hm : St w [blk c (cellsN (fun _ => none) W l p).toArray 85] w1 := hm
  go_loopw [16] (fun iv wr => ∃ (i : Nat) (ks1 : List Key) (G1 : Key → Option Nat), i ≤ 64 ∧ iv = .int .i64 (i : Nat) ∧ Cop G l p i ks1 G1 ∧ St w (blk c (cellsN G1 W l p).toArray 85 :: ks1.map (ndBlk G1 W 0)) wr) (fun iv _ => 64 - (intOf iv).toNat)
  case atStart => exact ⟨0, [], _, Nat.zero_le _, rfl, cop_start, hm⟩
  case round =>
    obtain ⟨i, ks1, G1, hi, rfl, hc, hm1⟩ := hrel
    have hs1 : St w0 (tbl ks G W n :: L) wr := hs0.grew hm1.made_grew
    clear hm hs hcw hz HX
    by_cases hlt : i < 64
    · have hki := hkg i hlt
      have HC := Lib.hid hc
      rcases kid_case (G := G) (l := l) (p := p) (i := i) with ⟨hv, hn⟩ | ⟨m, g', hlm, hg', hv⟩
      · rw [hv] at hki
        have hc2 := hc.skip0 hup hl hn
        clear hc hn hv
        go_wp2_with (first
          | (refine wpl_index arr_kids one_kid size_kid rfl rfl hlt hki ?_))
        go_roundw
        case rel => exact ⟨i + 1, ks1, G1, by omega, by go_num, hc2, hm1⟩
        case measure => simp [intOf] <;> omega
      · rw [hv] at hki
        have IH := Lib.hid (ih m i g' hlm hlt hg')
        subst hlm
        clear hv
        go_wp2_with (first
          | (refine wpl_index arr_kids one_kid size_kid rfl rfl hlt hki ?_))
        refine wp_region_chain [false, false, false, true, false, false, false, true] (by kernel_rfl) (by kernel_rfl) ?_
        intro wb hb
        replace hm1 := hm1.grew hb
        replace hs1 := hs1.grew hb
        clear hb
        have hne : Nonempty (GW wb) := ⟨⟨wb, Grew.refl _⟩⟩
        simp only [pickOps]
        repeat (go_big_quiet_step (fail))
        refine wpQuiet_nil ?_
        clear hne
        intro u hu
        replace hm1 := hm1.grew hu
        replace hs1 := hs1.grew hu
        clear hu
        simp only [chainIx]
        refine wpChain_next rfl ?_
        go_wp2_with (first
          | (go_at_call 58; refine (IH.out _ hs1).mono ?_; rintro e w2 ⟨c2, ks2, G2, rfl, h2, hm2⟩))
        refine ⟨hm2.made_grew, ?_⟩
        intro u2 hu2
        have hall := ((hm1.mades hm2).ent (Ent.pull _ _ _)).grew hu2
        clear hm1 hm2 hs1 hu2
        refine wpChain_last rfl ?_
        refine wpl_store rfl rfl rfl size_kid hall (Wr.blk (by rw [List.size_toArray, cellsN_len]; omega)) ?_
        intro w3 hs3
        rw [List.setIfInBounds_toArray] at hs3
        replace hs3 := cop_next HC.out h2 (by omega) hs3
        have hcn := HC.out.add (c := c2) h2 (by rw [hg']; exact Option.some_ne_none g')
        clear hall hc h2 IH HC
        refine wpList_nil ⟨rfl, ?_⟩
        go_wp2
        go_roundw
        case rel => exact ⟨i + 1, _, _, by omega, by go_num, hcn, hs3⟩
        case measure => simp [intOf] <;> omega
    · obtain rfl : i = 64 := by omega
      go_wp2
      go_ret
      exact ⟨c, ks1, G1, rfl, hc, hm1⟩
theorem copy_all (hmem : ∀ k, k ∈ ks ↔ G k ≠ none) (hup : UpG G) : ∀ (l p g : Nat), l ≤ 3 → G (l, p) = some g → ∀ w, St w0 (tbl ks G W n :: L) w → Calls Tryd.prog 58 #[.pointer (some ⟨g, 0, none⟩)] w (CopyPost G W l p w)
  | 0, _, _, hl, hg => copy_step hmem hup hl hg fun _ _ _ h => by omega
  | l + 1, p, _, hl, hg => copy_step hmem hup hl hg fun m i g' h hi hg' w hs => by
    obtain rfl : m = l := by omega
    exact copy_all hmem hup m (64 * p + i) g' (by omega) hg' w hs
end
end Go.Proofs.YtkcbjkadalebjaaDoor
