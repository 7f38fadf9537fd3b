/-
  XJK: joined of XHib5 XHib6 XHib7 XHcp XHcp2 XHcp3.
-/
import Derived.Test.YtcnbmfaicbkhcaaGreatDoorJB
import Derived.Test.YtcnbmfaicbkhcaaGreatDoorJC
import Derived.Test.YtcnbmfaicbkhcaaGreatDoorJA
/-
  The contracts of a set's least, Next, List, Word, Clear.
-/
set_option maxRecDepth 100000
namespace Go.Proofs.YtcnbmfaicbkhcaaGreatDoor
open Go Go.RowKit
attribute [local irreducible] wpList Calls Code.wp

/-- What a walk over nodes that are there must know: each node's cells. -/
structure NodesAt (w0 : World) (L : List As) (S : List Nat) (G : Key → Option Nat) : Prop where
  word : ∀ k g, k.1 ≤ 3 → G k = some g → Rd w0 L ⟨g, 0, none⟩ (.int .u64 (wordOf S k : Nat))
  kid : ∀ k g d, k.1 ≤ 3 → G k = some g → d < 64 → Rd w0 L ⟨g, 1 + d, none⟩ (kidV G k.1 k.2 d)
  there : ∀ k : Key, k.1 < 3 → (G k ≠ none ↔ wordOf S k ≠ 0)
theorem Fits.nodes {w0 : World} {L : List As} {T : Nat} {S : List Nat} {ks : List Key} {G : Key → Option Nat} {W : Key → Nat} {n : Nat} (hf : Fits T S ks G W) : NodesAt w0 (tbl ks G W n :: L) S G where
  word k g hk hg := by
    have := Rd.tbl_word (w0 := w0) (L := L) (W := W) (n := n) ((hf.mem k).2 (by rw [hg]; exact Option.some_ne_none g)) hg
    rwa [hf.word k hk] at this
  kid k g d _ hg hd := Rd.tbl_kid (w0 := w0) (L := L) (W := W) (n := n) ((hf.mem k).2 (by rw [hg]; exact Option.some_ne_none g)) hg hd
  there := hf.there
theorem first_v {x : Nat} (hx : x < 2 ^ 64) {f v : Int} (h : Hid (firstW x f = v)) (w : World) (hT : Tab w) : Calls Tryz.prog 196 #[.int .u64 x, .int .i64 f] w fun e w' => e = .returned (.int .i64 v) ∧ w = w' := by
  rw [← h.out]; exact first_c hx f w hT
theorem Tab.grew {w w' : World} (h : Tab w) (hg : Grew w w') : Tab w' := fun i hi => hg.cell (h i hi)
def LeastPost (S : List Nat) (l p f : Nat) (w : World) (e : Ending) (w' : World) : Prop := ∃ r : Int, e = .returned (.int .i64 r) ∧ LowV S (p * 64 ^ (l + 1)) (p * 64 ^ (l + 1) + f) (p * 64 ^ (l + 1) + 64 ^ (l + 1)) r ∧ Grew w w'
theorem firstW_neg {x c : Nat} {v : Int} (h : firstW x c = v) (hv : ¬ 0 ≤ v) : v = -1 ∧ ∀ e, c ≤ e → e < 64 → x.testBit e = false := by
  rcases firstW_cases x c with ⟨h1, h2⟩ | ⟨i, h1, _⟩
  · exact ⟨by rw [← h, h1], fun e he h3 => h2 e (by omega) h3⟩
  · omega
theorem firstW_pos {x c : Nat} {v : Int} (h : firstW x c = v) (hv : 0 ≤ v) : ∃ d : Nat, v = d ∧ c ≤ d ∧ d < 64 ∧ x.testBit d = true ∧ ∀ e, c ≤ e → e < d → x.testBit e = false := by
  rcases firstW_cases x c with ⟨h1, _⟩ | ⟨i, h1, h2, h3, h4, h5⟩
  · omega
  · exact ⟨i, by rw [← h, h1], by omega, h3, h4, fun e he h6 => h5 e (by omega) h6⟩
def LeastInv (S : List Nat) (l p f c : Nat) (v : Int) : Prop := firstW (wordOf S (l, p)) c = v ∧ NoLow S l p f c ∧ f / 64 ^ l ≤ c
theorem least_start {S : List Nat} {l p f : Nat} : LeastInv S l p f (f / 64 ^ l) (firstW (wordOf S (l, p)) ((f / 64 ^ l : Nat) : Int)) := ⟨rfl, noLow_start, Nat.le_refl _⟩
theorem least_neg {S : List Nat} {l p f c : Nat} {v : Int} (h : LeastInv S l p f c v) (hv : ¬ 0 ≤ v) : LowV S (p * 64 ^ (l + 1)) (p * 64 ^ (l + 1) + f) (p * 64 ^ (l + 1) + 64 ^ (l + 1)) (-1) := by
  obtain ⟨_, h2⟩ := firstW_neg h.1 hv
  exact lowV_none (noLow_next h.2.1 h2 (Nat.le_refl 64))
theorem least_pos {S : List Nat} {l p f c : Nat} {v : Int} (h : LeastInv S l p f c v) (hv : 0 ≤ v) : ∃ d : Nat, v = d ∧ d < 64 ∧ (wordOf S (l, p)).testBit d = true ∧ NoLow S l p f d ∧ f / 64 ^ l ≤ d := by
  obtain ⟨d, h1, h2, h3, h4, h5⟩ := firstW_pos h.1 hv
  exact ⟨d, h1, h3, h4, noLow_next h.2.1 h5 (by omega), Nat.le_trans h.2.2 h2⟩
theorem least_go {S : List Nat} {l p f d : Nat} (h1 : NoLow S l p f (d + 1)) (h2 : f / 64 ^ l ≤ d) : LeastInv S l p f (d + 1) (firstW (wordOf S (l, p)) ((d : Int) + 1)) := ⟨by push_cast; rfl, h1, by omega⟩
theorem LowV.bd {S : List Nat} {b f B : Nat} {r : Int} (h : LowV S b (b + f) (b + B) r) (hB : B ≤ 16777216) : -1 ≤ r ∧ r ≤ 16777216 := by
  rcases h.lt (Nat.le_add_right _ _) with h | h <;> omega
theorem least_on {S : List Nat} {l p f d x : Nat} {v r : Int} (hx : x = wordOf S (l + 1, p)) (hv : firstW x ((d : Int) + 1) = v) (hno : NoLow S (l + 1) p f d) (hfd : f / 64 ^ (l + 1) ≤ d) (hr : ¬ 0 ≤ r) (hr2 : -1 ≤ r)
    (hk : LowV S ((64 * p + d) * 64 ^ (l + 1)) ((64 * p + d) * 64 ^ (l + 1) + (f - d * 64 ^ (l + 1))) ((64 * p + d) * 64 ^ (l + 1) + 64 ^ (l + 1)) r) : LeastInv S (l + 1) p f (d + 1) v := by
  obtain rfl : r = -1 := by omega
  rw [← hv, hx]
  exact least_go (noLow_kid hno hk) hfd
set_option maxHeartbeats 4000000 in
theorem least_h {w0 : World} {L : List As} {S : List Nat} {G : Key → Option Nat} (hn : NodesAt w0 L S G) : ∀ (l p f g : Nat) (w : World), l ≤ 3 → f ≤ 16777216 → G (l, p) = some g → St w0 L w → Tab w →
    Calls Tryz.prog 294 #[.pointer (some ⟨g, 0, none⟩), .int .i64 (l : Nat), .int .i64 (f : Nat)] w (LeastPost S l p f w)
  | 0, p, f, g, w, hl, hf, hg, hs, hT => by
    have hx := wordOf_lt S (0, p)
    have hrw := hn.word (0, p) g hl hg
    have HDM := Lib.hid fun i hi => downM_first (wordOf S (0, p)) i hi
    obtain ⟨x, hxx⟩ : ∃ x, x = wordOf S (0, p) := ⟨_, rfl⟩
    have HX := Lib.hid hxx
    rw [← hxx] at hx hrw HDM
    have HG := Lib.hid hg
    clear hxx hg
    obtain ⟨v0, HS1⟩ : ∃ v, Hid (firstW x (f : Int) = v) := ⟨_, rfl⟩
    have HS0 : Hid (LeastInv S 0 p f (f / 64 ^ 0) v0) := by
      rw [Hid, ← HS1.out, HX.out, show ((f : Int) : Int) = ((f / 64 ^ 0 : Nat) : Int) by simp]; exact least_start
    go_enter Tryz.func294, Tryz.ntmps294
    go_wp2
    refine wp_region_grow (by kernel_rfl) (by kernel_rfl) fun hne => ?_
    have hc := hrw.gall hs
    repeat (go_big_quiet_step ((first
      | (go_at_call 196; exact in_gsame (first_v hx HS1 _ (hT.grew (GW.grew _)))))))
    refine wpQuiet_nil ?_
    clear hne hc HS1
    intro w1 hw1
    go_wp2
    go_loopw [8] (fun dv wr => ∃ c v, Hid (LeastInv S 0 p f c v) ∧ dv = .int .i64 v ∧ Grew w wr) (fun dv _ => downM (intOf dv))
    case atStart => exact ⟨_, _, HS0, rfl, hw1⟩
    case round =>
      clear hw1 HS0
      obtain ⟨c, v, HI, rfl, hg⟩ := hrel
      by_cases hv : 0 ≤ v
      · obtain ⟨d, rfl, hd, hbit, hno, hfd⟩ := least_pos HI.out hv
        have HR := Lib.hid (lowV_zero hno hd hbit (by simpa using hfd))
        clear hbit hno hfd HI HDM HX HG
        go_wp2
        go_ret
        exact ⟨_, rfl, HR.out, hg⟩
      · have HR := Lib.hid (least_neg HI.out hv)
        clear HI HDM HX HG
        go_wp2
        go_ret
        exact ⟨_, rfl, HR.out, hg⟩
  | 1, p, f, g, w, hl, hf, hg, hs, hT => by
    have hx := wordOf_lt S (1, p)
    have hrw := hn.word (1, p) g hl hg
    have HDM := Lib.hid fun i hi => downM_first (wordOf S (1, p)) i hi
    obtain ⟨x, hxx⟩ : ∃ x, x = wordOf S (1, p) := ⟨_, rfl⟩
    have HX := Lib.hid hxx
    rw [← hxx] at hx hrw HDM
    have HG := Lib.hid hg
    clear hxx hg
    obtain ⟨v0, HS1⟩ : ∃ v, Hid (firstW x ((f : Int) / 64) = v) := ⟨_, rfl⟩
    have HS0 : Hid (LeastInv S 1 p f (f / 64 ^ 1) v0) := by
      rw [Hid, ← HS1.out, HX.out, show (((f : Int) / 64) : Int) = ((f / 64 ^ 1 : Nat) : Int) by simp]; exact least_start
    go_enter Tryz.func294, Tryz.ntmps294
    go_wp2
    refine wp_region_grow (by kernel_rfl) (by kernel_rfl) fun hne => ?_
    have hc := hrw.gall hs
    repeat (go_big_quiet_step ((first
      | (go_at_call 196; exact in_gsame (first_v hx HS1 _ (hT.grew (GW.grew _)))))))
    refine wpQuiet_nil ?_
    clear hne hc HS1
    intro w1 hw1
    go_wp2
    go_loopw [8] (fun dv wr => ∃ c v, Hid (LeastInv S 1 p f c v) ∧ dv = .int .i64 v ∧ Grew w wr) (fun dv _ => downM (intOf dv))
    case atStart => exact ⟨_, _, HS0, rfl, hw1⟩
    case round =>
      clear hw1 HS0
      obtain ⟨c, v, HI, rfl, hg⟩ := hrel
      by_cases hv : 0 ≤ v
      · obtain ⟨d, rfl, hd, hbit, hno, hfd⟩ := least_pos HI.out hv
        have hgk : G (0, 64 * p + d) ≠ none := (hn.there (0, 64 * p + d) (by simp only; omega)).2 ((wordOf_below hd).1 hbit)
        cases hgk2 : G (0, 64 * p + d) with
        | none => exact absurd hgk2 hgk
        | some g' =>
          have hc2 := hn.kid (1, p) g d hl HG.out hd _ (hs.grew hg)
          have e : kidV G 1 p d = .pointer (some ⟨g', 0, none⟩) := by simp [kidV, hgk2]
          rw [e] at hc2
          have hcx := hrw _ (hs.grew hg)
          have HK : Hid (∀ (fi : Int) (w : World), fi = ((f - d * 64 : Nat) : Int) → St w0 L w → Tab w → Calls Tryz.prog 294 #[.pointer (some ⟨g', 0, none⟩), .int .i64 0, .int .i64 fi] w (LeastPost S 0 (64 * p + d) (f - d * 64) w)) :=
            fun fi w he h1 h2 => by subst he; exact least_h hn 0 (64 * p + d) (f - d * 64) g' w (by omega) (by omega) hgk2 h1 h2
          have HNO := Lib.hid hno
          have HFD := Lib.hid hfd
          have HDM2 := Lib.hid (HDM.out d hd)
          obtain ⟨v2, HV2⟩ : ∃ v, Hid (firstW x ((d : Int) + 1) = v) := ⟨_, rfl⟩
          clear hgk hbit e hgk2 hno hfd HI HDM
          go_wp2_with (first
            | (go_at_call 294; refine (HK.out _ _ (by omega) (hs.grew hg) (hT.grew hg)).mono ?_; rintro e w' ⟨r, rfl, hlow, hg2⟩; obtain ⟨hr1, hr2⟩ := hlow.bd (by decide); replace hcx := hg2.cell hcx; replace hlow := Lib.hid hlow; by_cases hr : 0 ≤ r)
            | (go_at_call 196; refine (first_v hx HV2 _ (hT.grew (hg.trans hg2))).mono ?_; rintro e w' ⟨rfl, rfl⟩))
          · have HR := Lib.hid (lowV_kid HNO.out hd hr hlow.out)
            go_ret
            exact ⟨_, ret_int (by omega), HR.out, hg.trans hg2⟩
          · have HR := Lib.hid (least_on HX.out HV2.out HNO.out HFD.out (by omega) hr1 hlow.out)
            rw [HV2.out] at HDM2
            go_roundw
            case rel =>
              (repeat apply Exists.intro)
              refine ⟨?_, rfl⟩
              exact ⟨d + 1, v2, HR, rfl, hg.trans hg2⟩
            case measure => exact HDM2.out
      · have HR := Lib.hid (least_neg HI.out hv)
        clear HI HDM HX HG
        go_wp2
        go_ret
        exact ⟨_, rfl, HR.out, hg⟩
  | 2, p, f, g, w, hl, hf, hg, hs, hT => by
    have hx := wordOf_lt S (2, p)
    have hrw := hn.word (2, p) g hl hg
    have HDM := Lib.hid fun i hi => downM_first (wordOf S (2, p)) i hi
    obtain ⟨x, hxx⟩ : ∃ x, x = wordOf S (2, p) := ⟨_, rfl⟩
    have HX := Lib.hid hxx
    rw [← hxx] at hx hrw HDM
    have HG := Lib.hid hg
    clear hxx hg
    obtain ⟨v0, HS1⟩ : ∃ v, Hid (firstW x ((f : Int) / 4096) = v) := ⟨_, rfl⟩
    have HS0 : Hid (LeastInv S 2 p f (f / 64 ^ 2) v0) := by
      rw [Hid, ← HS1.out, HX.out, show (((f : Int) / 4096) : Int) = ((f / 64 ^ 2 : Nat) : Int) by simp]; exact least_start
    go_enter Tryz.func294, Tryz.ntmps294
    go_wp2
    refine wp_region_grow (by kernel_rfl) (by kernel_rfl) fun hne => ?_
    have hc := hrw.gall hs
    repeat (go_big_quiet_step ((first
      | (go_at_call 196; exact in_gsame (first_v hx HS1 _ (hT.grew (GW.grew _)))))))
    refine wpQuiet_nil ?_
    clear hne hc HS1
    intro w1 hw1
    go_wp2
    go_loopw [8] (fun dv wr => ∃ c v, Hid (LeastInv S 2 p f c v) ∧ dv = .int .i64 v ∧ Grew w wr) (fun dv _ => downM (intOf dv))
    case atStart => exact ⟨_, _, HS0, rfl, hw1⟩
    case round =>
      clear hw1 HS0
      obtain ⟨c, v, HI, rfl, hg⟩ := hrel
      by_cases hv : 0 ≤ v
      · obtain ⟨d, rfl, hd, hbit, hno, hfd⟩ := least_pos HI.out hv
        have hgk : G (1, 64 * p + d) ≠ none := (hn.there (1, 64 * p + d) (by simp only; omega)).2 ((wordOf_below hd).1 hbit)
        cases hgk2 : G (1, 64 * p + d) with
        | none => exact absurd hgk2 hgk
        | some g' =>
          have hc2 := hn.kid (2, p) g d hl HG.out hd _ (hs.grew hg)
          have e : kidV G 2 p d = .pointer (some ⟨g', 0, none⟩) := by simp [kidV, hgk2]
          rw [e] at hc2
          have hcx := hrw _ (hs.grew hg)
          have HK : Hid (∀ (fi : Int) (w : World), fi = ((f - d * 4096 : Nat) : Int) → St w0 L w → Tab w → Calls Tryz.prog 294 #[.pointer (some ⟨g', 0, none⟩), .int .i64 1, .int .i64 fi] w (LeastPost S 1 (64 * p + d) (f - d * 4096) w)) :=
            fun fi w he h1 h2 => by subst he; exact least_h hn 1 (64 * p + d) (f - d * 4096) g' w (by omega) (by omega) hgk2 h1 h2
          have HNO := Lib.hid hno
          have HFD := Lib.hid hfd
          have HDM2 := Lib.hid (HDM.out d hd)
          obtain ⟨v2, HV2⟩ : ∃ v, Hid (firstW x ((d : Int) + 1) = v) := ⟨_, rfl⟩
          clear hgk hbit e hgk2 hno hfd HI HDM
          go_wp2_with (first
            | (go_at_call 294; refine (HK.out _ _ (by omega) (hs.grew hg) (hT.grew hg)).mono ?_; rintro e w' ⟨r, rfl, hlow, hg2⟩; obtain ⟨hr1, hr2⟩ := hlow.bd (by decide); replace hcx := hg2.cell hcx; replace hlow := Lib.hid hlow; by_cases hr : 0 ≤ r)
            | (go_at_call 196; refine (first_v hx HV2 _ (hT.grew (hg.trans hg2))).mono ?_; rintro e w' ⟨rfl, rfl⟩))
          · have HR := Lib.hid (lowV_kid HNO.out hd hr hlow.out)
            go_ret
            exact ⟨_, ret_int (by omega), HR.out, hg.trans hg2⟩
          · have HR := Lib.hid (least_on HX.out HV2.out HNO.out HFD.out (by omega) hr1 hlow.out)
            rw [HV2.out] at HDM2
            go_roundw
            case rel =>
              (repeat apply Exists.intro)
              refine ⟨?_, rfl⟩
              exact ⟨d + 1, v2, HR, rfl, hg.trans hg2⟩
            case measure => exact HDM2.out
      · have HR := Lib.hid (least_neg HI.out hv)
        clear HI HDM HX HG
        go_wp2
        go_ret
        exact ⟨_, rfl, HR.out, hg⟩
  | 3, p, f, g, w, hl, hf, hg, hs, hT => by
    have hx := wordOf_lt S (3, p)
    have hrw := hn.word (3, p) g hl hg
    have HDM := Lib.hid fun i hi => downM_first (wordOf S (3, p)) i hi
    obtain ⟨x, hxx⟩ : ∃ x, x = wordOf S (3, p) := ⟨_, rfl⟩
    have HX := Lib.hid hxx
    rw [← hxx] at hx hrw HDM
    have HG := Lib.hid hg
    clear hxx hg
    obtain ⟨v0, HS1⟩ : ∃ v, Hid (firstW x ((f : Int) / 262144) = v) := ⟨_, rfl⟩
    have HS0 : Hid (LeastInv S 3 p f (f / 64 ^ 3) v0) := by
      rw [Hid, ← HS1.out, HX.out, show (((f : Int) / 262144) : Int) = ((f / 64 ^ 3 : Nat) : Int) by simp]; exact least_start
    go_enter Tryz.func294, Tryz.ntmps294
    go_wp2
    refine wp_region_grow (by kernel_rfl) (by kernel_rfl) fun hne => ?_
    have hc := hrw.gall hs
    repeat (go_big_quiet_step ((first
      | (go_at_call 196; exact in_gsame (first_v hx HS1 _ (hT.grew (GW.grew _)))))))
    refine wpQuiet_nil ?_
    clear hne hc HS1
    intro w1 hw1
    go_wp2
    go_loopw [8] (fun dv wr => ∃ c v, Hid (LeastInv S 3 p f c v) ∧ dv = .int .i64 v ∧ Grew w wr) (fun dv _ => downM (intOf dv))
    case atStart => exact ⟨_, _, HS0, rfl, hw1⟩
    case round =>
      clear hw1 HS0
      obtain ⟨c, v, HI, rfl, hg⟩ := hrel
      by_cases hv : 0 ≤ v
      · obtain ⟨d, rfl, hd, hbit, hno, hfd⟩ := least_pos HI.out hv
        have hgk : G (2, 64 * p + d) ≠ none := (hn.there (2, 64 * p + d) (by simp only; omega)).2 ((wordOf_below hd).1 hbit)
        cases hgk2 : G (2, 64 * p + d) with
        | none => exact absurd hgk2 hgk
        | some g' =>
          have hc2 := hn.kid (3, p) g d hl HG.out hd _ (hs.grew hg)
          have e : kidV G 3 p d = .pointer (some ⟨g', 0, none⟩) := by simp [kidV, hgk2]
          rw [e] at hc2
          have hcx := hrw _ (hs.grew hg)
          have HK : Hid (∀ (fi : Int) (w : World), fi = ((f - d * 262144 : Nat) : Int) → St w0 L w → Tab w → Calls Tryz.prog 294 #[.pointer (some ⟨g', 0, none⟩), .int .i64 2, .int .i64 fi] w (LeastPost S 2 (64 * p + d) (f - d * 262144) w)) :=
            fun fi w he h1 h2 => by subst he; exact least_h hn 2 (64 * p + d) (f - d * 262144) g' w (by omega) (by omega) hgk2 h1 h2
          have HNO := Lib.hid hno
          have HFD := Lib.hid hfd
          have HDM2 := Lib.hid (HDM.out d hd)
          obtain ⟨v2, HV2⟩ : ∃ v, Hid (firstW x ((d : Int) + 1) = v) := ⟨_, rfl⟩
          clear hgk hbit e hgk2 hno hfd HI HDM
          go_wp2_with (first
            | (go_at_call 294; refine (HK.out _ _ (by omega) (hs.grew hg) (hT.grew hg)).mono ?_; rintro e w' ⟨r, rfl, hlow, hg2⟩; obtain ⟨hr1, hr2⟩ := hlow.bd (by decide); replace hcx := hg2.cell hcx; replace hlow := Lib.hid hlow; by_cases hr : 0 ≤ r)
            | (go_at_call 196; refine (first_v hx HV2 _ (hT.grew (hg.trans hg2))).mono ?_; rintro e w' ⟨rfl, rfl⟩))
          · have HR := Lib.hid (lowV_kid HNO.out hd hr hlow.out)
            go_ret
            exact ⟨_, ret_int (by omega), HR.out, hg.trans hg2⟩
          · have HR := Lib.hid (least_on HX.out HV2.out HNO.out HFD.out (by omega) hr1 hlow.out)
            rw [HV2.out] at HDM2
            go_roundw
            case rel =>
              (repeat apply Exists.intro)
              refine ⟨?_, rfl⟩
              exact ⟨d + 1, v2, HR, rfl, hg.trans hg2⟩
            case measure => exact HDM2.out
      · have HR := Lib.hid (least_neg HI.out hv)
        clear HI HDM HX HG
        go_wp2
        go_ret
        exact ⟨_, rfl, HR.out, hg⟩
  | _ + 4, _, _, _, _, hl, _, _, _, _ => by omega
end Go.Proofs.YtcnbmfaicbkhcaaGreatDoor

/-
  The contracts of a set's Next, List, Word, Clear.
-/
set_option maxRecDepth 100000
namespace Go.Proofs.YtcnbmfaicbkhcaaGreatDoor
open Go Go.RowKit
attribute [local irreducible] wpList Calls Code.wp

theorem nextS_far {S : List Nat} (hS : ∀ a ∈ S, a < 16777216) {f : Int} (h : 16777216 ≤ f) : nextS S f = -1 := by
  unfold nextS
  have : S.find? (fun a : Nat => decide (f ≤ (a : Int))) = none := List.find?_eq_none.2 fun a ha h4 => by
    have h5 : f ≤ (a : Int) := by simpa using h4
    have := hS a ha
    omega
  rw [this]
theorem nextS_max {S : List Nat} {f : Int} : nextS S f = nextS S ((max f 0).toNat : Nat) := by
  unfold nextS
  have : (fun a : Nat => decide (f ≤ (a : Int))) = fun a : Nat => decide ((((max f 0).toNat : Nat) : Int) ≤ (a : Int)) := by
    funext a
    rw [Bool.eq_iff_iff]
    simp
    omega
  rw [this]
theorem next_g {w0 w : World} {L : List As} {T : Nat} {S : List Nat} (hs : St w0 (HSet T S :: L) w) (hT : Tab w) (f : Int) :
    Calls Tryz.prog 240 #[.pointer (some ⟨T, 0, none⟩), .int .i64 f] w fun e w' => e = .returned (.int .i64 (nextS S f)) ∧ Grew w w' := by
  obtain ⟨hS, hS2⟩ := hs.sorted
  by_cases hf : 16777216 ≤ f
  · have HR := Lib.hid (nextS_far hS2 hf)
    clear hS hS2
    go_enter Tryz.func240, Tryz.ntmps240
    go_wp2
    go_ret
    exact ⟨ret_int HR.out.symm, Grew.refl _⟩
  · obtain ⟨ks, G, W, hfit, hs⟩ := hs.hopen
    have HL : Hid (∀ (fi : Int), fi = (((max f 0).toNat : Nat) : Int) → Calls Tryz.prog 294 #[.pointer (some ⟨T, 0, none⟩), .int .i64 3, .int .i64 fi] w (LeastPost S 3 0 (max f 0).toNat w)) :=
      fun fi hfi => by subst hfi; exact least_h hfit.nodes 3 0 _ T w (by decide) (by omega) hfit.top hs hT
    have HN : Hid (∀ r, LowV S (0 * 64 ^ (3 + 1)) (0 * 64 ^ (3 + 1) + (max f 0).toNat) (0 * 64 ^ (3 + 1) + 64 ^ (3 + 1)) r → r = nextS S f) := fun r hr => by
      rw [nextS_max]
      simp only [Nat.zero_mul, Nat.zero_add] at hr
      exact hr.next hS hS2
    clear hS hS2 hfit
    go_enter Tryz.func240, Tryz.ntmps240
    go_wp2_with (first
      | (go_at_call 294; refine (HL.out _ (by omega)).mono ?_; rintro e w' ⟨r, rfl, hlow, hg2⟩; replace hlow := Lib.hid hlow))
    go_ret
    exact ⟨ret_int (HN.out _ hlow.out), hg2⟩
/-- What Next tells of a place in a row. -/
def hdR (o : Option Nat) : Int := match o with
  | some a => (a : Int)
  | none => -1
def listS (S : List Nat) (f m : Int) : List Nat := (fromS S f).take (min m 100000).toNat
theorem next_v {w0 w : World} {L : List As} {T : Nat} {S : List Nat} (hs : St w0 (HSet T S :: L) w) (hT : Tab w) {f v : Int} (h : Hid (nextS S f = v)) :
    Calls Tryz.prog 240 #[.pointer (some ⟨T, 0, none⟩), .int .i64 f] w fun e w' => e = .returned (.int .i64 v) ∧ Grew w w' := by
  rw [← h.out]; exact next_g hs hT f
end Go.Proofs.YtcnbmfaicbkhcaaGreatDoor

/-
  The contracts of a set's Word (whatever place) and Clear.
-/
set_option maxRecDepth 100000
namespace Go.Proofs.YtcnbmfaicbkhcaaGreatDoor
open Go Go.RowKit
attribute [local irreducible] wpList Calls Code.wp

theorem zero_one : ∀ v ∈ zeroCells ++ [Value.int .i64 0], v.oneCell' = true := by
  intro v hv
  unfold zeroCells at hv
  rcases List.mem_append.1 hv with h | h
  · rcases List.mem_cons.1 h with rfl | h
    · rfl
    · rw [List.eq_of_mem_replicate h]; rfl
  · simp at h; subst h; rfl
theorem WrA.clear {w0 : World} {T : Nat} {ks : List Key} {G : Key → Option Nat} {W : Key → Nat} {n : Nat} {L : List As} (hk : (3, 0) ∈ ks) (hg : G (3, 0) = some T) : WrA w0 (tbl ks G W n :: L) ⟨T, 0, none⟩ setZ.cells.toList (HSet T [] :: L) := by
  have hlen : (nodeCells G W n (3, 0)).length = 66 := by simp [nodeCells]
  have h1 : WrA w0 (YtcnbmfaicbkhcaaGreatDoor.blk T (nodeCells G W n (3, 0)).toArray 325 :: big ((ks.erase (3, 0)).map (ndBlk G W n)) :: L) ⟨T, 0, none⟩ setZ.cells.toList (YtcnbmfaicbkhcaaGreatDoor.blk T (splice (nodeCells G W n (3, 0)) 0 (zeroCells ++ [Value.int .i64 0])).toArray 325 :: big ((ks.erase (3, 0)).map (ndBlk G W n)) :: L) :=
    WrA.blk (vs := zeroCells ++ [Value.int .i64 0]) (by rw [hlen]; simp [zeroCells]) zero_one
  rw [splice_all (by rw [hlen]; simp [zeroCells])] at h1
  intro P K w hs
  have hs2 : St w0 (YtcnbmfaicbkhcaaGreatDoor.blk T (nodeCells G W n (3, 0)).toArray 325 :: big ((ks.erase (3, 0)).map (ndBlk G W n)) :: (L ++ K)) w := by
    have := Ent.open2 (L := L ++ K) (big_pull (f := ndBlk G W n) hk)
    rw [ndBlk, hg] at this
    exact St.ent hs this
  obtain ⟨w', hr, hs3⟩ := h1 P K w hs2
  exact ⟨w', hr, (St.rot hs3).drop.conv (tbl_empty T)⟩
end Go.Proofs.YtcnbmfaicbkhcaaGreatDoor

/-
  Copying a set, the plain law: nodes below a node, copied kid by kid. No function of the program stands here.
-/
set_option maxRecDepth 100000
namespace Go.Proofs.YtcnbmfaicbkhcaaGreatDoor
open Go Go.RowKit

/-- The keys below (l, p), by its first i kids. -/
def Und (l p i : Nat) (k : Key) : Prop := k.1 < l ∧ 64 * p ≤ k.2 / 64 ^ (l - 1 - k.1) ∧ k.2 / 64 ^ (l - 1 - k.1) < 64 * p + i
structure Cop (G : Key → Option Nat) (l p i : Nat) (ks : List Key) (G' : Key → Option Nat) : Prop where
  nodup : ks.Nodup
  mem : ∀ k, k ∈ ks ↔ Und l p i k ∧ G k ≠ none
  there : ∀ k, k ∈ ks ↔ G' k ≠ none
/-- A node's cells, whatever its level. -/
def cellsN (G : Key → Option Nat) (W : Key → Nat) (l p : Nat) : List Value := .int .u64 (W (l, p) : Nat) :: (List.range 64).map fun d => kidV G l p d
/-- Whoever is there has all above there. -/
def UpG (G : Key → Option Nat) : Prop := ∀ (k : Key) (m : Nat), k.1 < m → m < 3 → G k ≠ none → G (m, k.2 / 64 ^ (m - k.1)) ≠ none
theorem div_pow (i a b : Nat) : i / 64 ^ a / 64 ^ b = i / 64 ^ (a + b) := by rw [Nat.div_div_eq_div_mul, Nat.pow_add]
theorem Fits.up {T : Nat} {S : List Nat} {ks : List Key} {G : Key → Option Nat} {W : Key → Nat} (hf : Fits T S ks G W) : UpG G := fun k m h1 h2 h3 => by
  obtain ⟨i, hi, e⟩ := wordOf_ne.1 ((hf.there k (by omega)).1 h3)
  refine (hf.there _ h2).2 (wordOf_ne.2 ⟨i, hi, ?_⟩)
  show i / 64 ^ (m + 1) = k.2 / 64 ^ (m - k.1)
  rw [← e, div_pow]
  congr 2
  omega
theorem und_zero {p i : Nat} {k : Key} : ¬ Und 0 p i k := fun h => absurd h.1 (Nat.not_lt_zero _)
theorem und_start {l p : Nat} {k : Key} : ¬ Und l p 0 k := fun h => by have := h.2; omega
theorem und_next {m p i : Nat} {k : Key} : Und (m + 1) p (i + 1) k ↔ Und (m + 1) p i k ∨ (k.1 ≤ m ∧ k.2 / 64 ^ (m - k.1) = 64 * p + i) := by
  unfold Und
  rw [show m + 1 - 1 = m from rfl]
  omega
theorem und_kid {m q : Nat} {k : Key} : (k.1 ≤ m ∧ k.2 / 64 ^ (m - k.1) = q) ↔ k = (m, q) ∨ Und m q 64 k := by
  obtain ⟨a, b⟩ := k
  unfold Und
  simp only [Prod.mk.injEq]
  constructor
  · rintro ⟨h1, h2⟩
    rcases Nat.lt_or_ge a m with h | h
    · refine .inr ⟨h, ?_⟩
      have e : m - a = (m - 1 - a) + 1 := by omega
      rw [e, Nat.pow_succ, ← Nat.div_div_eq_div_mul] at h2
      omega
    · obtain rfl : a = m := by omega
      rw [Nat.sub_self, Nat.pow_zero, Nat.div_one] at h2
      exact .inl ⟨rfl, h2⟩
  · rintro (⟨rfl, rfl⟩ | ⟨h, h2⟩)
    · exact ⟨Nat.le_refl _, by simp⟩
    · refine ⟨Nat.le_of_lt h, ?_⟩
      have e : m - a = (m - 1 - a) + 1 := by omega
      rw [e, Nat.pow_succ, ← Nat.div_div_eq_div_mul]
      omega
theorem kid_anc {a b d m : Nat} (ha : a ≠ 0) (hm : a ≤ m) (hd : d < 64) : (64 * b + d) / 64 ^ (m - (a - 1)) = b / 64 ^ (m - a) := by
  rw [show m - (a - 1) = 1 + (m - a) by omega, ← div_pow]
  congr 1
  omega
theorem ndBlk_congr {G G' : Key → Option Nat} {W : Key → Nat} {n : Nat} {k : Key} (h : G k = G' k) (hk : ∀ d, d < 64 → k.1 ≠ 0 → G (k.1 - 1, 64 * k.2 + d) = G' (k.1 - 1, 64 * k.2 + d)) : ndBlk G W n k = ndBlk G' W n k := by
  have e : (List.range 64).map (fun d => kidV G k.1 k.2 d) = (List.range 64).map (fun d => kidV G' k.1 k.2 d) := List.map_congr_left fun d hd => by
    have hd2 : d < 64 := by simpa using hd
    unfold kidV
    by_cases h0 : k.1 = 0
    · rw [if_pos h0, if_pos h0]
    · rw [if_neg h0, if_neg h0, hk d hd2 h0]
  unfold ndBlk nodeCells
  rw [h, e]
theorem cellsN_congr {G G' : Key → Option Nat} {W : Key → Nat} {l p : Nat} (hk : ∀ d, d < 64 → l ≠ 0 → G (l - 1, 64 * p + d) = G' (l - 1, 64 * p + d)) : cellsN G W l p = cellsN G' W l p := by
  unfold cellsN
  congr 1
  exact List.map_congr_left fun d hd => by
    have hd2 : d < 64 := by simpa using hd
    unfold kidV
    by_cases h0 : l = 0
    · rw [if_pos h0, if_pos h0]
    · rw [if_neg h0, if_neg h0, hk d hd2 h0]
section
variable {G G1 G2 : Key → Option Nat} {W : Key → Nat} {l m p i c : Nat} {ks1 ks2 : List Key}
theorem cop_start : Cop G l p 0 [] (fun _ => none) := ⟨List.Pairwise.nil, fun k => by simp only [List.not_mem_nil, false_iff]; exact fun h => und_start h.1, fun k => by simp⟩
/-- A kid that is none. -/
theorem Cop.skip (h : Cop G (m + 1) p i ks1 G1) (hup : UpG G) (hm : m < 3) (hn : G (m, 64 * p + i) = none) : Cop G (m + 1) p (i + 1) ks1 G1 := ⟨h.nodup, fun k => by
  rw [h.mem, und_next]
  refine ⟨fun h1 => ⟨.inl h1.1, h1.2⟩, fun ⟨h1, h2⟩ => ⟨h1.resolve_right fun ⟨h3, h4⟩ => ?_, h2⟩⟩
  rcases Nat.lt_or_ge k.1 m with h5 | h5
  · exact hup k m h5 hm h2 (h4 ▸ hn)
  · obtain ⟨a, b⟩ := k
    have : a = m := by simp only at h3 h5; omega
    subst this
    simp only [Nat.sub_self, Nat.pow_zero, Nat.div_one] at h4
    subst h4
    exact h2 hn, h.there⟩
/-- What is copied, one more kid. -/
def addG (G1 G2 : Key → Option Nat) (ks2 : List Key) (q : Key) (c : Nat) : Key → Option Nat := fun k => if k = q then some c else if k ∈ ks2 then G2 k else G1 k
theorem not_und_kid (h : Cop G m (64 * p + i) 64 ks2 G2) {k : Key} (hq : k.2 / 64 ^ (m - k.1) ≠ 64 * p + i) : k ≠ (m, 64 * p + i) ∧ k ∉ ks2 := by
  have h2 := fun hh => hq (und_kid.2 hh).2
  exact ⟨fun e => h2 (.inl e), fun e => h2 (.inr ((h.mem k).1 e).1)⟩
theorem Cop.anc (h : Cop G (m + 1) p i ks1 G1) {k : Key} (hk : k ∈ ks1) : k.1 ≤ m ∧ k.2 / 64 ^ (m - k.1) ≠ 64 * p + i := by
  have := ((h.mem k).1 hk).1
  unfold Und at this
  rw [show m + 1 - 1 = m from rfl] at this
  omega
theorem Cop.add (h : Cop G (m + 1) p i ks1 G1) (h2 : Cop G m (64 * p + i) 64 ks2 G2) (hs : G (m, 64 * p + i) ≠ none) : Cop G (m + 1) p (i + 1) ((m, 64 * p + i) :: (ks2 ++ ks1)) (addG G1 G2 ks2 (m, 64 * p + i) c) := by
  have n1 : (m, 64 * p + i) ∉ ks1 := fun h3 => (h.anc h3).2 (by simp)
  have n2 : (m, 64 * p + i) ∉ ks2 := fun h3 => by have h4 := ((h2.mem _).1 h3).1.1; simp only at h4; omega
  have n12 : ∀ k ∈ ks2, k ∉ ks1 := fun k hk hk1 => (h.anc hk1).2 (und_kid.2 (.inr ((h2.mem k).1 hk).1)).2
  refine ⟨?_, fun k => ?_, fun k => ?_⟩
  · rw [List.nodup_cons, List.nodup_append]
    refine ⟨by simp [n1, n2], h2.nodup, h.nodup, fun a ha b hb e => n12 a ha (e ▸ hb)⟩
  · rw [List.mem_cons, List.mem_append, h.mem, h2.mem, und_next, und_kid]
    constructor
    · rintro (rfl | h3 | h3)
      · exact ⟨.inr (.inl rfl), hs⟩
      · exact ⟨.inr (.inr h3.1), h3.2⟩
      · exact ⟨.inl h3.1, h3.2⟩
    · rintro ⟨h3 | h3 | h3, h4⟩
      · exact .inr (.inr ⟨h3, h4⟩)
      · exact .inl h3
      · exact .inr (.inl ⟨h3, h4⟩)
  · rw [List.mem_cons, List.mem_append]
    unfold addG
    by_cases e : k = (m, 64 * p + i)
    · simp [e]
    · rw [if_neg e]
      by_cases e2 : k ∈ ks2
      · rw [if_pos e2]; simp [e2, (h2.there k).1 e2]
      · rw [if_neg e2, ← h.there k]; simp [e, e2]
theorem Cop.kid_in2 (h : Cop G (m + 1) p i ks1 G1) (h2 : Cop G m (64 * p + i) 64 ks2 G2) {k : Key} (hk : k.1 < m) (hq : k.2 / 64 ^ (m - k.1) = 64 * p + i) : addG G1 G2 ks2 (m, 64 * p + i) c k = G2 k := by
  have e : k ≠ (m, 64 * p + i) := fun e => by subst e; exact absurd hk (Nat.lt_irrefl _)
  unfold addG
  rw [if_neg e]
  by_cases e2 : k ∈ ks2
  · rw [if_pos e2]
  · rw [if_neg e2]
    have a1 : G1 k = none := Classical.byContradiction fun h3 => (h.anc ((h.there k).2 h3)).2 hq
    have a2 : G2 k = none := Classical.byContradiction fun h3 => e2 ((h2.there k).2 h3)
    rw [a1, a2]
theorem Cop.add1 (h : Cop G (m + 1) p i ks1 G1) (h2 : Cop G m (64 * p + i) 64 ks2 G2) : ∀ k ∈ ks1, ndBlk (addG G1 G2 ks2 (m, 64 * p + i) c) W 0 k = ndBlk G1 W 0 k := fun k hk => by
  have ⟨a1, a2⟩ := h.anc hk
  have hout : ∀ k : Key, k.1 ≤ m → k.2 / 64 ^ (m - k.1) ≠ 64 * p + i → addG G1 G2 ks2 (m, 64 * p + i) c k = G1 k := fun k _ b2 => by
    have ⟨c1, c2⟩ := not_und_kid h2 b2
    unfold addG
    rw [if_neg c1, if_neg c2]
  exact ndBlk_congr (hout k a1 a2) fun d hd h0 => hout _ (by simp only; omega) (by simp only; rw [kid_anc h0 a1 hd]; exact a2)
theorem Cop.add2 (h : Cop G (m + 1) p i ks1 G1) (h2 : Cop G m (64 * p + i) 64 ks2 G2) : ∀ k ∈ ks2, ndBlk (addG G1 G2 ks2 (m, 64 * p + i) c) W 0 k = ndBlk G2 W 0 k := fun k hk => by
  have hu := ((h2.mem k).1 hk).1
  have ha := (und_kid.2 (.inr hu)).2
  exact ndBlk_congr (h.kid_in2 h2 hu.1 ha) fun d hd h0 => h.kid_in2 h2 (by simp only; have := hu.1; omega) (by simp only; rw [kid_anc h0 (Nat.le_of_lt hu.1) hd]; exact ha)
theorem Cop.addc (h : Cop G (m + 1) p i ks1 G1) (h2 : Cop G m (64 * p + i) 64 ks2 G2) (hm : m < 3) : ndBlk (addG G1 G2 ks2 (m, 64 * p + i) c) W 0 (m, 64 * p + i) = blk c (cellsN G2 W m (64 * p + i)).toArray 270 := by
  have e : cellsN (addG G1 G2 ks2 (m, 64 * p + i) c) W m (64 * p + i) = cellsN G2 W m (64 * p + i) := cellsN_congr fun d hd h0 => h.kid_in2 h2 (by simp only; omega) (by
    simp only
    rw [kid_anc h0 (Nat.le_refl m) hd]
    simp)
  have h3 : ¬ m = 3 := by omega
  rw [← e]
  unfold ndBlk nodeCells nodeTy cellsN addG
  simp only [if_true, Option.getD_some, if_neg h3, List.append_nil]
theorem Cop.adds (h2 : Cop G m (64 * p + i) 64 ks2 G2) : cellsN (addG G1 G2 ks2 (m, 64 * p + i) c) W (m + 1) p = (cellsN G1 W (m + 1) p).set (1 + i) (.pointer (some ⟨c, 0, none⟩)) := by
  unfold cellsN
  rw [Nat.add_comm 1 i, List.set_cons_succ, map_range_set (d := i) (f := fun e => kidV G1 (m + 1) p e) (fun e he => ?_)]
  · congr 2
    unfold kidV addG
    simp
  · unfold kidV
    rw [if_neg (Nat.succ_ne_zero m), if_neg (Nat.succ_ne_zero m), show m + 1 - 1 = m from rfl]
    have c1 : (m, 64 * p + e) ≠ (m, 64 * p + i) := fun h3 => he (by injection h3; omega)
    have c2 : (m, 64 * p + e) ∉ ks2 := fun h3 => absurd ((h2.mem _).1 h3).1.1 (Nat.lt_irrefl _)
    unfold addG
    rw [if_neg c1, if_neg c2]
end
section
variable {G G' : Key → Option Nat} {W : Key → Nat} {T T' n : Nat} {S : List Nat} {ks ks' : List Key}
theorem Cop.fits (hf : Fits T S ks G W) (h : Cop G 3 0 64 ks' G') : Fits T' S ((3, 0) :: ks') (upd G' (3, 0) (some T')) W where
  nodup := List.nodup_cons.2 ⟨fun h2 => absurd ((h.mem _).1 h2).1.1 (Nat.lt_irrefl _), h.nodup⟩
  mem k := by
    by_cases e : k = (3, 0)
    · subst e; rw [upd_same]; simp
    · rw [upd_other _ _ e, List.mem_cons, h.there]; simp [e]
  top := upd_same _ _ _
  lev k hk := by
    rcases List.mem_cons.1 hk with rfl | h2
    · exact ⟨Nat.le_refl _, fun _ => rfl⟩
    · have := ((h.mem k).1 h2).1.1
      exact ⟨Nat.le_of_lt this, fun h3 => by omega⟩
  there k hk := by
    have e : k ≠ (3, 0) := fun e => by subst e; exact absurd hk (Nat.lt_irrefl _)
    rw [upd_other _ _ e, ← h.there, h.mem, hf.there k hk]
    refine ⟨fun h2 => h2.2, fun h2 => ⟨?_, h2⟩⟩
    obtain ⟨i, hi, e2⟩ := wordOf_ne.1 h2
    have hsm := hf.small i hi
    refine ⟨hk, Nat.zero_le _, ?_⟩
    rw [← e2, div_pow, show k.1 + 1 + (3 - 1 - k.1) = 3 by omega]
    omega
  word := hf.word
  sorted := hf.sorted
  small := hf.small
theorem Cop.top_cells : nodeCells (upd G' (3, 0) (some T')) W n (3, 0) = cellsN G' W 3 0 ++ [.int .i64 (n : Nat)] := by
  have e : cellsN (upd G' (3, 0) (some T')) W 3 0 = cellsN G' W 3 0 := cellsN_congr fun d _ _ => upd_other _ _ (by intro h; injection h with h1; exact absurd h1 (by decide))
  rw [← e]
  rfl
theorem Cop.top_rest (h : Cop G 3 0 64 ks' G') : ∀ k ∈ ks', ndBlk (upd G' (3, 0) (some T')) W n k = ndBlk G' W 0 k := fun k hk => by
  have h3 : k.1 < 3 := ((h.mem k).1 hk).1.1
  have e : ndBlk (upd G' (3, 0) (some T')) W n k = ndBlk G' W n k := ndBlk_congr (upd_other _ _ fun e => by subst e; exact absurd h3 (Nat.lt_irrefl _)) fun d _ _ => upd_other _ _ (by intro h4; injection h4 with h5; omega)
  rw [e]
  unfold ndBlk nodeCells
  rw [if_neg (by omega), if_neg (by omega)]
end
end Go.Proofs.YtcnbmfaicbkhcaaGreatDoor

/-
  The contracts of node.copy and a set's Copy.
-/
set_option maxRecDepth 100000
namespace Go.Proofs.YtcnbmfaicbkhcaaGreatDoor
open Go Go.RowKit
attribute [local irreducible] wpList Calls Code.wp

theorem arr_kids : Tryz.prog.underlying 268 = some (.array 64 264) := by kernel_rfl
theorem agg_kids : (match Tryz.prog.underlying 268 with | some (.struct _) | some (.array _ _) => true | _ => false) = true := by kernel_rfl
theorem size_kids : (Tryz.prog.info? 268).map (·.size) = some 64 := by kernel_rfl
theorem build_node1 (x : Nat) (w : World) : (Instr.build 270 #[(0, .int .u64 (x : Nat))]).run Tryz.prog w = .ok (.agg (Value.int .u64 (x : Nat) :: List.replicate 64 (.pointer none)).toArray) w := by kernel_rfl
def kidsL (G : Key → Option Nat) (l p : Nat) : List Value := (List.range 64).map fun d => kidV G l p d
theorem kidsL_len (G : Key → Option Nat) (l p : Nat) : (kidsL G l p).length = 64 := by simp [kidsL]
theorem kidsL_get {G : Key → Option Nat} {l p d : Nat} (hd : d < 64) : (kidsL G l p)[d]? = some (kidV G l p d) := by simp [kidsL, hd]
theorem cellsN_none (W : Key → Nat) (l p : Nat) : cellsN (fun _ => none) W l p = .int .u64 (W (l, p) : Nat) :: List.replicate 64 (.pointer none) := by
  unfold cellsN
  congr 1
  apply List.ext_getElem (by simp)
  intro i h1 h2
  rw [List.getElem_replicate, List.getElem_map]
  unfold kidV
  split <;> rfl
theorem cellsN_len (G : Key → Option Nat) (W : Key → Nat) (l p : Nat) : (cellsN G W l p).length = 65 := by simp [cellsN]
/-- What a node's copy answers. -/
def CopyPost (G : Key → Option Nat) (W : Key → Nat) (l p : Nat) (w : World) (e : Ending) (w' : World) : Prop :=
  ∃ c ks' G', e = .returned (.pointer (some ⟨c, 0, none⟩)) ∧ Cop G l p 64 ks' G' ∧ St w (blk c (cellsN G' W l p).toArray 270 :: ks'.map (ndBlk G' W 0)) w'
theorem cop_next {w0 w : World} {G G1 G2 : Key → Option Nat} {W : Key → Nat} {m p i c c2 : Nat} {ks1 ks2 : List Key} (h : Cop G (m + 1) p i ks1 G1) (h2 : Cop G m (64 * p + i) 64 ks2 G2) (hm : m < 3)
    (hs : St w0 (blk c ((cellsN G1 W (m + 1) p).set (1 + i) (.pointer (some ⟨c2, 0, none⟩))).toArray 270 :: ((blk c2 (cellsN G2 W m (64 * p + i)).toArray 270 :: ks2.map (ndBlk G2 W 0)) ++ ks1.map (ndBlk G1 W 0))) w) :
    St w0 (blk c (cellsN (addG G1 G2 ks2 (m, 64 * p + i) c2) W (m + 1) p).toArray 270 :: ((m, 64 * p + i) :: (ks2 ++ ks1)).map (ndBlk (addG G1 G2 ks2 (m, 64 * p + i) c2) W 0)) w := by
  rw [h2.adds, List.map_cons, List.map_append, h.addc h2 hm, List.map_congr_left (h.add1 (W := W) (c := c2) h2), List.map_congr_left (h.add2 (W := W) (c := c2) h2)]
  exact hs
/-- What stands below: the kid's pointer, and the law for it. -/
theorem kid_case {G : Key → Option Nat} {l p i : Nat} : kidV G l p i = .pointer none ∧ (l = 0 ∨ ∃ m, l = m + 1 ∧ G (m, 64 * p + i) = none) ∨ ∃ m g, l = m + 1 ∧ G (m, 64 * p + i) = some g ∧ kidV G l p i = .pointer (some ⟨g, 0, none⟩) := by
  cases l with
  | zero => exact .inl ⟨rfl, .inl rfl⟩
  | succ m =>
    cases hg : G (m, 64 * p + i) with
    | none => exact .inl ⟨by simp [kidV, hg], .inr ⟨m, rfl, hg⟩⟩
    | some g => exact .inr ⟨m, g, rfl, hg, by simp [kidV, hg]⟩
theorem Cop.skip0 {G G1 : Key → Option Nat} {l p i : Nat} {ks1 : List Key} (h : Cop G l p i ks1 G1) (hup : UpG G) (hl : l ≤ 3) (hn : l = 0 ∨ ∃ m, l = m + 1 ∧ G (m, 64 * p + i) = none) : Cop G l p (i + 1) ks1 G1 := by
  rcases hn with rfl | ⟨m, rfl, hn⟩
  · exact ⟨h.nodup, fun k => by rw [h.mem]; exact ⟨fun h2 => absurd h2.1 und_zero, fun h2 => absurd h2.1 und_zero⟩, h.there⟩
  · exact h.skip hup (by omega) hn
section
variable {w0 : World} {L : List As} {ks : List Key} {G : Key → Option Nat} {W : Key → Nat} {n : Nat}
theorem copy_step (hmem : ∀ k, k ∈ ks ↔ G k ≠ none) (hup : UpG G) {l p g : Nat} (hl : l ≤ 3) (hg : G (l, p) = some g)
    (ih : ∀ m i g', l = m + 1 → i < 64 → G (m, 64 * p + i) = some g' → ∀ w, St w0 (tbl ks G W n :: L) w → Calls Tryz.prog 307 #[.pointer (some ⟨g', 0, none⟩)] w (CopyPost G W m (64 * p + i) w))
    (w : World) (hs : St w0 (tbl ks G W n :: L) w) : Calls Tryz.prog 307 #[.pointer (some ⟨g, 0, none⟩)] w (CopyPost G W l p w) := by
  have hk : (l, p) ∈ ks := (hmem _).2 (by rw [hg]; exact Option.some_ne_none g)
  have hrw := Rd.tbl_word (w0 := w0) (L := L) (W := W) (n := n) hk hg
  have hcw := hrw _ hs
  have hrk : ∀ j u, (kidsL G l p)[j]? = some u → Rd w0 (tbl ks G W n :: L) ⟨g, 1 + j, none⟩ u := fun j u hj => by
    have hj64 : j < 64 := by
      rcases Nat.lt_or_ge j 64 with h | h
      · exact h
      · rw [List.getElem?_eq_none (by rw [kidsL_len]; exact h)] at hj; cases hj
    rw [kidsL_get hj64] at hj
    rw [← Option.some.inj hj]
    exact Rd.tbl_kid (w0 := w0) (L := L) (W := W) (n := n) hk hg hj64
  have hkl := kidsL_len G l p
  have hkg := fun d hd => kidsL_get (G := G) (l := l) (p := p) (d := d) hd
  generalize kidsL G l p = kc at hrk hkl hkg
  have hm := St.start w
  have hs0 := hs
  obtain ⟨zv, HZ⟩ : ∃ zv, Hid (zv = Value.agg (cellsN (fun _ => none) W l p).toArray) := ⟨_, rfl⟩
  have hz : ∀ w, (Instr.build 270 #[(0, .int .u64 (W (l, p) : Nat))]).run Tryz.prog w = .ok zv w := fun w => by rw [HZ.out, cellsN_none]; exact build_node1 (W (l, p)) w
  obtain ⟨x, HX⟩ : ∃ x, Hid (x = W (l, p)) := ⟨_, rfl⟩
  rw [← HX.out] at hcw hz
  clear hrw hk
  go_enter Tryz.func307, Tryz.ntmps307
  go_wp2_with (first
    | (refine wpl_buildS hz rfl ?_)
    | (refine wpl_box_v (v := zv) rfl hm ?_; clear hm; intro c w1 hm; replace hs := hs.grew hm.made_grew)
    | (refine wpl_load_agg (cs := kc) rfl agg_kids (by rw [size_kids, hkl]) hs hrk ?_))
  rw [HZ.out] at hm
  replace hm : St w [blk c (cellsN (fun _ => none) W l p).toArray 270] w1 := hm
  go_loopw [16] (fun iv wr => ∃ (i : Nat) (ks1 : List Key) (G1 : Key → Option Nat), i ≤ 64 ∧ iv = .int .i64 (i : Nat) ∧ Cop G l p i ks1 G1 ∧ St w (blk c (cellsN G1 W l p).toArray 270 :: ks1.map (ndBlk G1 W 0)) wr) (fun iv _ => 64 - (intOf iv).toNat)
  case atStart => exact ⟨0, [], _, Nat.zero_le _, rfl, cop_start, hm⟩
  case round =>
    obtain ⟨i, ks1, G1, hi, rfl, hc, hm1⟩ := hrel
    have hs1 : St w0 (tbl ks G W n :: L) wr := hs0.grew hm1.made_grew
    clear hm hs hcw hz HX
    by_cases hlt : i < 64
    · have hki := hkg i hlt
      have HC := Lib.hid hc
      rcases kid_case (G := G) (l := l) (p := p) (i := i) with ⟨hv, hn⟩ | ⟨m, g', hlm, hg', hv⟩
      · rw [hv] at hki
        have hc2 := hc.skip0 hup hl hn
        clear hc hn hv
        go_wp2_with (first
          | (refine wpl_index arr_kids one_kid size_kid rfl rfl hlt hki ?_))
        go_roundw
        case rel => exact ⟨i + 1, ks1, G1, by omega, by go_num, hc2, hm1⟩
        case measure => simp [intOf] <;> omega
      · rw [hv] at hki
        have IH := Lib.hid (ih m i g' hlm hlt hg')
        subst hlm
        clear hv
        go_wp2_with (first
          | (refine wpl_index arr_kids one_kid size_kid rfl rfl hlt hki ?_))
        refine wp_region_chain [false, false, false, true, false, false, false, true] (by kernel_rfl) (by kernel_rfl) ?_
        intro wb hb
        replace hm1 := hm1.grew hb
        replace hs1 := hs1.grew hb
        clear hb
        have hne : Nonempty (GW wb) := ⟨⟨wb, Grew.refl _⟩⟩
        simp only [pickOps]
        repeat (go_big_quiet_step (fail))
        refine wpQuiet_nil ?_
        clear hne
        intro u hu
        replace hm1 := hm1.grew hu
        replace hs1 := hs1.grew hu
        clear hu
        simp only [chainIx]
        refine wpChain_next rfl ?_
        go_wp2_with (first
          | (go_at_call 307; refine (IH.out _ hs1).mono ?_; rintro e w2 ⟨c2, ks2, G2, rfl, h2, hm2⟩))
        refine ⟨hm2.made_grew, ?_⟩
        intro u2 hu2
        have hall := ((hm1.mades hm2).ent (Ent.pull _ _ _)).grew hu2
        clear hm1 hm2 hs1 hu2
        refine wpChain_last rfl ?_
        refine wpl_store rfl rfl rfl size_kid hall (Wr.blk (by rw [List.size_toArray, cellsN_len]; omega)) ?_
        intro w3 hs3
        rw [List.setIfInBounds_toArray] at hs3
        replace hs3 := cop_next HC.out h2 (by omega) hs3
        have hcn := HC.out.add (c := c2) h2 (by rw [hg']; exact Option.some_ne_none g')
        clear hall hc h2 IH HC
        refine wpList_nil ⟨rfl, ?_⟩
        go_wp2
        go_roundw
        case rel => exact ⟨i + 1, _, _, by omega, by go_num, hcn, hs3⟩
        case measure => simp [intOf] <;> omega
    · obtain rfl : i = 64 := by omega
      go_wp2
      go_ret
      exact ⟨c, ks1, G1, rfl, hc, hm1⟩
theorem copy_all (hmem : ∀ k, k ∈ ks ↔ G k ≠ none) (hup : UpG G) : ∀ (l p g : Nat), l ≤ 3 → G (l, p) = some g → ∀ w, St w0 (tbl ks G W n :: L) w → Calls Tryz.prog 307 #[.pointer (some ⟨g, 0, none⟩)] w (CopyPost G W l p w)
  | 0, _, _, hl, hg => copy_step hmem hup hl hg fun _ _ _ h => by omega
  | l + 1, p, _, hl, hg => copy_step hmem hup hl hg fun m i g' h hi hg' w hs => by
    obtain rfl : m = l := by omega
    exact copy_all hmem hup m (64 * p + i) g' (by omega) hg' w hs
end
end Go.Proofs.YtcnbmfaicbkhcaaGreatDoor

/-
  The contract of a set's Copy.
-/
set_option maxRecDepth 100000
namespace Go.Proofs.YtcnbmfaicbkhcaaGreatDoor
open Go Go.RowKit
attribute [local irreducible] wpList Calls Code.wp

theorem build_set_f (f : Nat → Value) (n : Int) (w : World) : (Instr.build 325 #[(0, .agg ((List.range 65).map f).toArray), (1, .int .i64 n)]).run Tryz.prog w = .ok (.agg ((List.range 65).map f ++ [Value.int .i64 n]).toArray) w := by kernel_rfl
theorem list_f (cs : List Value) {n : Nat} (h : cs.length = n) : (List.range n).map (fun i => cs.getD i undef) = cs := by
  subst h
  apply List.ext_getElem (by simp)
  intro i h1 h2
  simp [List.getD, h2]
theorem build_set2 {cs : List Value} (h : cs.length = 65) (n : Int) (w : World) : (Instr.build 325 #[(0, .agg cs.toArray), (1, .int .i64 n)]).run Tryz.prog w = .ok (.agg (cs ++ [Value.int .i64 n]).toArray) w := by
  have e := build_set_f (fun i => cs.getD i undef) n w
  rwa [list_f cs h] at e
theorem agg_node : (match Tryz.prog.underlying 270 with | some (.struct _) | some (.array _ _) => true | _ => false) = true := by kernel_rfl
theorem size_node : (Tryz.prog.info? 270).map (·.size) = some 65 := by kernel_rfl
theorem copy_shut {w0 w : World} {T T' c : Nat} {S : List Nat} {ks ks' : List Key} {G G' : Key → Option Nat} {W : Key → Nat} (hf : Fits T S ks G W) (h : Cop G 3 0 64 ks' G')
    (hs : St w0 (blk T' (cellsN G' W 3 0 ++ [Value.int .i64 (S.length : Nat)]).toArray 325 :: blk c (cellsN G' W 3 0).toArray 270 :: ks'.map (ndBlk G' W 0)) w) : St w0 [HSet T' S] w := by
  have h1 := hs.rot.drop
  have e : blk T' (cellsN G' W 3 0 ++ [Value.int .i64 (S.length : Nat)]).toArray 325 :: ks'.map (ndBlk G' W 0) = ((3, 0) :: ks').map (ndBlk (upd G' (3, 0) (some T')) W S.length) := by
    rw [List.map_cons, List.map_congr_left (h.top_rest (T' := T') (W := W) (n := S.length))]
    unfold ndBlk nodeTy
    rw [Cop.top_cells, upd_same]
    rfl
  rw [e] at h1
  exact h1.ent fun x hx => star_comm (emp_star ⟨_, _, _, h.fits hf, hx⟩)
theorem copy_h {w0 w : World} {L : List As} {T : Nat} {S : List Nat} (hs : St w0 (HSet T S :: L) w) :
    Calls Tryz.prog 256 #[.pointer (some ⟨T, 0, none⟩)] w fun e w' => ∃ T', e = .returned (.pointer (some ⟨T', 0, none⟩)) ∧ St w [HSet T' S] w' := by
  obtain ⟨ks, G, W, hf, hs⟩ := hs.hopen
  have hk : (3, 0) ∈ ks := (hf.mem _).2 (by rw [hf.top]; exact Option.some_ne_none T)
  have hrn := Rd.tbl_n (w0 := w0) (L := L) (W := W) (n := S.length) hk hf.top
  have HC := Lib.hid (copy_all (w0 := w0) (L := L) (W := W) (n := S.length) hf.mem hf.up 3 0 T (Nat.le_refl 3) hf.top)
  have HF := Lib.hid hf
  obtain ⟨n, HN⟩ : ∃ n : Nat, Hid (S.length = n) := ⟨_, rfl⟩
  rw [HN.out] at hrn hs HC
  have hm := St.start w
  clear hk hf
  go_enter Tryz.func256, Tryz.ntmps256
  go_wp2
  refine wp_region_chain [false, false, false, true, true, true, false, false, false, false, true, true, true] (by kernel_rfl) (by kernel_rfl) ?_
  intro wb hb
  have hne : Nonempty (GW wb) := ⟨⟨wb, Grew.refl _⟩⟩
  replace hs := hs.grew hb
  replace hm := hm.grew hb
  have hc1 := hrn.gall hs
  clear hb
  simp only [pickOps]
  repeat (go_big_quiet_step (fail))
  refine wpQuiet_nil ?_
  clear hne hc1
  intro u hu
  replace hs := hs.grew hu
  replace hm := hm.grew hu
  clear hu
  simp only [chainIx]
  refine wpChain_next rfl ?_
  go_wp2_with (first
    | (go_at_call 307; refine (HC.out _ hs).mono ?_; rintro e w2 ⟨c2, ks2, G2, rfl, h2, hm2⟩))
  refine ⟨hm2.made_grew, ?_⟩
  intro u2 hu2
  have hm0 := hm
  replace hm := hm2.grew hu2
  obtain ⟨cs, hcs⟩ : ∃ cs, Hid (cs = cellsN G2 W 3 0) := ⟨_, rfl⟩
  have hcl : cs.length = 65 := by rw [hcs.out, cellsN_len]
  rw [← hcs.out] at hm
  have hrd : ∀ j v, cs[j]? = some v → Rd u (blk c2 cs.toArray 270 :: ks2.map (ndBlk G2 W 0)) ⟨c2, 0 + j, none⟩ v := fun j v hj => by rw [Nat.zero_add]; exact Rd.blk (by simpa using hj)
  clear hs hm2 hu2
  refine wpChain_next rfl ?_
  go_wp2
  refine ⟨Grew.refl _, ?_⟩
  intro u3 hu3
  replace hm := hm.grew hu3
  refine wpChain_next rfl ?_
  refine wpl_load_agg (cs := cs) rfl agg_node (by rw [size_node, hcl]) hm hrd ?_
  refine wpList_nil ⟨rfl, Grew.refl _, ?_⟩
  intro u4 hu4
  replace hm := hm.grew hu4
  refine wpChain_next rfl ?_
  refine wpl_buildS (build_set2 hcl n) rfl ?_
  refine wpList_nil ⟨rfl, Grew.refl _, ?_⟩
  intro u5 hu5
  replace hm := hm.grew hu5
  refine wpChain_next rfl ?_
  refine wpl_box_v (v := .agg (cs ++ [Value.int .i64 n]).toArray) rfl (St.start u5) ?_
  intro T' w6 hm6
  refine wpList_nil ⟨rfl, hm6.made_grew, ?_⟩
  intro w7 hw7
  have hfin := (hm0.mades (hm.mades hm6)).grew hw7
  rw [hcs.out, ← HN.out, List.append_nil] at hfin
  replace hfin := copy_shut HF.out h2 hfin
  clear hm0 hm hm6 hw7 hrd HC HF hrn h2
  refine wpChain_last rfl ?_
  simp only [Act.put, List.setIfInBounds_toArray, List.set_cons_succ, List.set_cons_zero]
  go_wp2
  go_ret
  exact ⟨T', rfl, hfin⟩
end Go.Proofs.YtcnbmfaicbkhcaaGreatDoor
