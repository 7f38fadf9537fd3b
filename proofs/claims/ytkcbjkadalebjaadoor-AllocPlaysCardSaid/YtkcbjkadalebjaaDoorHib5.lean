/-
  The contracts of a set's least, Next, List, Word, Clear.
-/
import Derived.Test.YtkcbjkadalebjaaDoorHib4
import Derived.Test.YtkcbjkadalebjaaDoorBits2
set_option maxRecDepth 100000
namespace Go.Proofs.YtkcbjkadalebjaaDoor
open Go Go.RowKit
attribute [local irreducible] wpList Calls Code.wp

/-- What a walk over nodes that are there must know: each node's cells. -/
structure NodesAt (w0 : World) (L : List As) (S : List Nat) (G : Key → Option Nat) : Prop where
  word : ∀ k g, k.1 ≤ 3 → G k = some g → Rd w0 L ⟨g, 0, none⟩ (.int .u64 (wordOf S k : Nat))
  kid : ∀ k g d, k.1 ≤ 3 → G k = some g → d < 64 → Rd w0 L ⟨g, 1 + d, none⟩ (kidV G k.1 k.2 d)
  there : ∀ k : Key, k.1 < 3 → (G k ≠ none ↔ wordOf S k ≠ 0)
theorem Fits.nodes {w0 : World} {L : List As} {T : Nat} {S : List Nat} {ks : List Key} {G : Key → Option Nat} {W : Key → Nat} {n : Nat} (hf : Fits T S ks G W) : NodesAt w0 (tbl ks G W n :: L) S G where
  word k g hk hg := by
    have := Rd.tbl_word (w0 := w0) (L := L) (W := W) (n := n) ((hf.mem k).2 (by rw [hg]; exact Option.some_ne_none g)) hg
    rwa [hf.word k hk] at this
  kid k g d _ hg hd := Rd.tbl_kid (w0 := w0) (L := L) (W := W) (n := n) ((hf.mem k).2 (by rw [hg]; exact Option.some_ne_none g)) hg hd
  there := hf.there
theorem first_v {x : Nat} (hx : x < 2 ^ 64) {f v : Int} (h : Hid (firstW x f = v)) (w : World) (hT : Tab w) : Calls Tryd.prog 59 #[.int .u64 x, .int .i64 f] w fun e w' => e = .returned (.int .i64 v) ∧ w = w' := by
  rw [← h.out]; exact first_c hx f w hT
theorem Tab.grew {w w' : World} (h : Tab w) (hg : Grew w w') : Tab w' := fun i hi => hg.cell (h i hi)
def LeastPost (S : List Nat) (l p f : Nat) (w : World) (e : Ending) (w' : World) : Prop := ∃ r : Int, e = .returned (.int .i64 r) ∧ LowV S (p * 64 ^ (l + 1)) (p * 64 ^ (l + 1) + f) (p * 64 ^ (l + 1) + 64 ^ (l + 1)) r ∧ Grew w w'
theorem firstW_neg {x c : Nat} {v : Int} (h : firstW x c = v) (hv : ¬ 0 ≤ v) : v = -1 ∧ ∀ e, c ≤ e → e < 64 → x.testBit e = false := by
  rcases firstW_cases x c with ⟨h1, h2⟩ | ⟨i, h1, _⟩
  · exact ⟨by rw [← h, h1], fun e he h3 => h2 e (by omega) h3⟩
  · omega
theorem firstW_pos {x c : Nat} {v : Int} (h : firstW x c = v) (hv : 0 ≤ v) : ∃ d : Nat, v = d ∧ c ≤ d ∧ d < 64 ∧ x.testBit d = true ∧ ∀ e, c ≤ e → e < d → x.testBit e = false := by
  rcases firstW_cases x c with ⟨h1, _⟩ | ⟨i, h1, h2, h3, h4, h5⟩
  · omega
  · exact ⟨i, by rw [← h, h1], by omega, h3, h4, fun e he h6 => h5 e (by omega) h6⟩
def LeastInv (S : List Nat) (l p f c : Nat) (v : Int) : Prop := firstW (wordOf S (l, p)) c = v ∧ NoLow S l p f c ∧ f / 64 ^ l ≤ c
theorem least_start {S : List Nat} {l p f : Nat} : LeastInv S l p f (f / 64 ^ l) (firstW (wordOf S (l, p)) ((f / 64 ^ l : Nat) : Int)) := ⟨rfl, noLow_start, Nat.le_refl _⟩
theorem least_neg {S : List Nat} {l p f c : Nat} {v : Int} (h : LeastInv S l p f c v) (hv : ¬ 0 ≤ v) : LowV S (p * 64 ^ (l + 1)) (p * 64 ^ (l + 1) + f) (p * 64 ^ (l + 1) + 64 ^ (l + 1)) (-1) := by
  obtain ⟨_, h2⟩ := firstW_neg h.1 hv
  exact lowV_none (noLow_next h.2.1 h2 (Nat.le_refl 64))
theorem least_pos {S : List Nat} {l p f c : Nat} {v : Int} (h : LeastInv S l p f c v) (hv : 0 ≤ v) : ∃ d : Nat, v = d ∧ d < 64 ∧ (wordOf S (l, p)).testBit d = true ∧ NoLow S l p f d ∧ f / 64 ^ l ≤ d := by
  obtain ⟨d, h1, h2, h3, h4, h5⟩ := firstW_pos h.1 hv
  exact ⟨d, h1, h3, h4, noLow_next h.2.1 h5 (by omega), Nat.le_trans h.2.2 h2⟩
theorem least_go {S : List Nat} {l p f d : Nat} (h1 : NoLow S l p f (d + 1)) (h2 : f / 64 ^ l ≤ d) : LeastInv S l p f (d + 1) (firstW (wordOf S (l, p)) ((d : Int) + 1)) := ⟨by push_cast; rfl, h1, by omega⟩
theorem downM_neg {v : Int} (h : ¬ 0 ≤ v) : downM v = 0 := by unfold downM; rw [if_pos (by omega)]
theorem LowV.bd {S : List Nat} {b f B : Nat} {r : Int} (h : LowV S b (b + f) (b + B) r) (hB : B ≤ 16777216) : -1 ≤ r ∧ r ≤ 16777216 := by
  rcases h.lt (Nat.le_add_right _ _) with h | h <;> omega
theorem least_on {S : List Nat} {l p f d x : Nat} {v r : Int} (hx : x = wordOf S (l + 1, p)) (hv : firstW x ((d : Int) + 1) = v) (hno : NoLow S (l + 1) p f d) (hfd : f / 64 ^ (l + 1) ≤ d) (hr : ¬ 0 ≤ r) (hr2 : -1 ≤ r)
    (hk : LowV S ((64 * p + d) * 64 ^ (l + 1)) ((64 * p + d) * 64 ^ (l + 1) + (f - d * 64 ^ (l + 1))) ((64 * p + d) * 64 ^ (l + 1) + 64 ^ (l + 1)) r) : LeastInv S (l + 1) p f (d + 1) v := by
  obtain rfl : r = -1 := by omega
  rw [← hv, hx]
  exact least_go (noLow_kid hno hk) hfd
set_option maxHeartbeats 4000000 in
theorem least_h {w0 : World} {L : List As} {S : List Nat} {G : Key → Option Nat} (hn : NodesAt w0 L S G) : ∀ (l p f g : Nat) (w : World), l ≤ 3 → f ≤ 16777216 → G (l, p) = some g → St w0 L w → Tab w →
    Calls Tryd.prog 56 #[.pointer (some ⟨g, 0, none⟩), .int .i64 (l : Nat), .int .i64 (f : Nat)] w (LeastPost S l p f w)
  | 0, p, f, g, w, hl, hf, hg, hs, hT => by
    have hx := wordOf_lt S (0, p)
    have hrw := hn.word (0, p) g hl hg
    have HDM := Lib.hid fun i hi => downM_first (wordOf S (0, p)) i hi
    obtain ⟨x, hxx⟩ : ∃ x, x = wordOf S (0, p) := ⟨_, rfl⟩
    have HX := Lib.hid hxx
    rw [← hxx] at hx hrw HDM
    have HG := Lib.hid hg
    clear hxx hg
    obtain ⟨v0, HS1⟩ : ∃ v, Hid (firstW x (f : Int) = v) := ⟨_, rfl⟩
    have HS0 : Hid (LeastInv S 0 p f (f / 64 ^ 0) v0) := by
      rw [Hid, ← HS1.out, HX.out, show ((f : Int) : Int) = ((f / 64 ^ 0 : Nat) : Int) by simp]; exact least_start
    go_enter Tryd.func56, Tryd.ntmps56
    go_wp2
    refine wp_region_grow (by kernel_rfl) (by kernel_rfl) fun hne => ?_
    have hc := hrw.gall hs
    repeat (go_big_quiet_step ((first
      | (go_at_call 59; exact in_gsame (first_v hx HS1 _ (hT.grew (GW.grew _)))))))
    refine wpQuiet_nil ?_
    clear hne hc HS1
    intro w1 hw1
    go_wp2
    go_loopw [8] (fun dv wr => ∃ c v, Hid (LeastInv S 0 p f c v) ∧ dv = .int .i64 v ∧ Grew w wr) (fun dv _ => downM (intOf dv))
    case atStart => exact ⟨_, _, HS0, rfl, hw1⟩
    case round =>
      clear hw1 HS0
      obtain ⟨c, v, HI, rfl, hg⟩ := hrel
      by_cases hv : 0 ≤ v
      · obtain ⟨d, rfl, hd, hbit, hno, hfd⟩ := least_pos HI.out hv
        have HR := Lib.hid (lowV_zero hno hd hbit (by simpa using hfd))
        clear hbit hno hfd HI HDM HX HG
        go_wp2
        go_ret
        exact ⟨_, rfl, HR.out, hg⟩
      · have HR := Lib.hid (least_neg HI.out hv)
        clear HI HDM HX HG
        go_wp2
        go_ret
        exact ⟨_, rfl, HR.out, hg⟩
  | 1, p, f, g, w, hl, hf, hg, hs, hT => by
    have hx := wordOf_lt S (1, p)
    have hrw := hn.word (1, p) g hl hg
    have HDM := Lib.hid fun i hi => downM_first (wordOf S (1, p)) i hi
    obtain ⟨x, hxx⟩ : ∃ x, x = wordOf S (1, p) := ⟨_, rfl⟩
    have HX := Lib.hid hxx
    rw [← hxx] at hx hrw HDM
    have HG := Lib.hid hg
    clear hxx hg
    obtain ⟨v0, HS1⟩ : ∃ v, Hid (firstW x ((f : Int) / 64) = v) := ⟨_, rfl⟩
    have HS0 : Hid (LeastInv S 1 p f (f / 64 ^ 1) v0) := by
      rw [Hid, ← HS1.out, HX.out, show (((f : Int) / 64) : Int) = ((f / 64 ^ 1 : Nat) : Int) by simp]; exact least_start
    go_enter Tryd.func56, Tryd.ntmps56
    go_wp2
    refine wp_region_grow (by kernel_rfl) (by kernel_rfl) fun hne => ?_
    have hc := hrw.gall hs
    repeat (go_big_quiet_step ((first
      | (go_at_call 59; exact in_gsame (first_v hx HS1 _ (hT.grew (GW.grew _)))))))
    refine wpQuiet_nil ?_
    clear hne hc HS1
    intro w1 hw1
    go_wp2
    go_loopw [8] (fun dv wr => ∃ c v, Hid (LeastInv S 1 p f c v) ∧ dv = .int .i64 v ∧ Grew w wr) (fun dv _ => downM (intOf dv))
    case atStart => exact ⟨_, _, HS0, rfl, hw1⟩
    case round =>
      clear hw1 HS0
      obtain ⟨c, v, HI, rfl, hg⟩ := hrel
      by_cases hv : 0 ≤ v
      · obtain ⟨d, rfl, hd, hbit, hno, hfd⟩ := least_pos HI.out hv
        have hgk : G (0, 64 * p + d) ≠ none := (hn.there (0, 64 * p + d) (by simp only; omega)).2 ((wordOf_below hd).1 hbit)
        cases hgk2 : G (0, 64 * p + d) with
        | none => exact absurd hgk2 hgk
        | some g' =>
          have hc2 := hn.kid (1, p) g d hl HG.out hd _ (hs.grew hg)
          have e : kidV G 1 p d = .pointer (some ⟨g', 0, none⟩) := by simp [kidV, hgk2]
          rw [e] at hc2
          have hcx := hrw _ (hs.grew hg)
          have HK : Hid (∀ (fi : Int) (w : World), fi = ((f - d * 64 : Nat) : Int) → St w0 L w → Tab w → Calls Tryd.prog 56 #[.pointer (some ⟨g', 0, none⟩), .int .i64 0, .int .i64 fi] w (LeastPost S 0 (64 * p + d) (f - d * 64) w)) :=
            fun fi w he h1 h2 => by subst he; exact least_h hn 0 (64 * p + d) (f - d * 64) g' w (by omega) (by omega) hgk2 h1 h2
          have HNO := Lib.hid hno
          have HFD := Lib.hid hfd
          have HDM2 := Lib.hid (HDM.out d hd)
          obtain ⟨v2, HV2⟩ : ∃ v, Hid (firstW x ((d : Int) + 1) = v) := ⟨_, rfl⟩
          clear hgk hbit e hgk2 hno hfd HI HDM
          go_wp2_with (first
            | (go_at_call 56; refine (HK.out _ _ (by omega) (hs.grew hg) (hT.grew hg)).mono ?_; rintro e w' ⟨r, rfl, hlow, hg2⟩; obtain ⟨hr1, hr2⟩ := hlow.bd (by decide); replace hcx := hg2.cell hcx; replace hlow := Lib.hid hlow; by_cases hr : 0 ≤ r)
            | (go_at_call 59; refine (first_v hx HV2 _ (hT.grew (hg.trans hg2))).mono ?_; rintro e w' ⟨rfl, rfl⟩))
          · have HR := Lib.hid (lowV_kid HNO.out hd hr hlow.out)
            go_ret
            exact ⟨_, ret_int (by omega), HR.out, hg.trans hg2⟩
          · have HR := Lib.hid (least_on HX.out HV2.out HNO.out HFD.out (by omega) hr1 hlow.out)
            rw [HV2.out] at HDM2
            go_roundw
            case rel =>
              (repeat apply Exists.intro)
              refine ⟨?_, rfl⟩
              exact ⟨d + 1, v2, HR, rfl, hg.trans hg2⟩
            case measure => exact HDM2.out
      · have HR := Lib.hid (least_neg HI.out hv)
        clear HI HDM HX HG
        go_wp2
        go_ret
        exact ⟨_, rfl, HR.out, hg⟩
  | 2, p, f, g, w, hl, hf, hg, hs, hT => by
    have hx := wordOf_lt S (2, p)
    have hrw := hn.word (2, p) g hl hg
    have HDM := Lib.hid fun i hi => downM_first (wordOf S (2, p)) i hi
    obtain ⟨x, hxx⟩ : ∃ x, x = wordOf S (2, p) := ⟨_, rfl⟩
    have HX := Lib.hid hxx
    rw [← hxx] at hx hrw HDM
    have HG := Lib.hid hg
    clear hxx hg
    obtain ⟨v0, HS1⟩ : ∃ v, Hid (firstW x ((f : Int) / 4096) = v) := ⟨_, rfl⟩
    have HS0 : Hid (LeastInv S 2 p f (f / 64 ^ 2) v0) := by
      rw [Hid, ← HS1.out, HX.out, show (((f : Int) / 4096) : Int) = ((f / 64 ^ 2 : Nat) : Int) by simp]; exact least_start
    go_enter Tryd.func56, Tryd.ntmps56
    go_wp2
    refine wp_region_grow (by kernel_rfl) (by kernel_rfl) fun hne => ?_
    have hc := hrw.gall hs
    repeat (go_big_quiet_step ((first
      | (go_at_call 59; exact in_gsame (first_v hx HS1 _ (hT.grew (GW.grew _)))))))
    refine wpQuiet_nil ?_
    clear hne hc HS1
    intro w1 hw1
    go_wp2
    go_loopw [8] (fun dv wr => ∃ c v, Hid (LeastInv S 2 p f c v) ∧ dv = .int .i64 v ∧ Grew w wr) (fun dv _ => downM (intOf dv))
    case atStart => exact ⟨_, _, HS0, rfl, hw1⟩
    case round =>
      clear hw1 HS0
      obtain ⟨c, v, HI, rfl, hg⟩ := hrel
      by_cases hv : 0 ≤ v
      · obtain ⟨d, rfl, hd, hbit, hno, hfd⟩ := least_pos HI.out hv
        have hgk : G (1, 64 * p + d) ≠ none := (hn.there (1, 64 * p + d) (by simp only; omega)).2 ((wordOf_below hd).1 hbit)
        cases hgk2 : G (1, 64 * p + d) with
        | none => exact absurd hgk2 hgk
        | some g' =>
          have hc2 := hn.kid (2, p) g d hl HG.out hd _ (hs.grew hg)
          have e : kidV G 2 p d = .pointer (some ⟨g', 0, none⟩) := by simp [kidV, hgk2]
          rw [e] at hc2
          have hcx := hrw _ (hs.grew hg)
          have HK : Hid (∀ (fi : Int) (w : World), fi = ((f - d * 4096 : Nat) : Int) → St w0 L w → Tab w → Calls Tryd.prog 56 #[.pointer (some ⟨g', 0, none⟩), .int .i64 1, .int .i64 fi] w (LeastPost S 1 (64 * p + d) (f - d * 4096) w)) :=
            fun fi w he h1 h2 => by subst he; exact least_h hn 1 (64 * p + d) (f - d * 4096) g' w (by omega) (by omega) hgk2 h1 h2
          have HNO := Lib.hid hno
          have HFD := Lib.hid hfd
          have HDM2 := Lib.hid (HDM.out d hd)
          obtain ⟨v2, HV2⟩ : ∃ v, Hid (firstW x ((d : Int) + 1) = v) := ⟨_, rfl⟩
          clear hgk hbit e hgk2 hno hfd HI HDM
          go_wp2_with (first
            | (go_at_call 56; refine (HK.out _ _ (by omega) (hs.grew hg) (hT.grew hg)).mono ?_; rintro e w' ⟨r, rfl, hlow, hg2⟩; obtain ⟨hr1, hr2⟩ := hlow.bd (by decide); replace hcx := hg2.cell hcx; replace hlow := Lib.hid hlow; by_cases hr : 0 ≤ r)
            | (go_at_call 59; refine (first_v hx HV2 _ (hT.grew (hg.trans hg2))).mono ?_; rintro e w' ⟨rfl, rfl⟩))
          · have HR := Lib.hid (lowV_kid HNO.out hd hr hlow.out)
            go_ret
            exact ⟨_, ret_int (by omega), HR.out, hg.trans hg2⟩
          · have HR := Lib.hid (least_on HX.out HV2.out HNO.out HFD.out (by omega) hr1 hlow.out)
            rw [HV2.out] at HDM2
            go_roundw
            case rel =>
              (repeat apply Exists.intro)
              refine ⟨?_, rfl⟩
              exact ⟨d + 1, v2, HR, rfl, hg.trans hg2⟩
            case measure => exact HDM2.out
      · have HR := Lib.hid (least_neg HI.out hv)
        clear HI HDM HX HG
        go_wp2
        go_ret
        exact ⟨_, rfl, HR.out, hg⟩
  | 3, p, f, g, w, hl, hf, hg, hs, hT => by
    have hx := wordOf_lt S (3, p)
    have hrw := hn.word (3, p) g hl hg
    have HDM := Lib.hid fun i hi => downM_first (wordOf S (3, p)) i hi
    obtain ⟨x, hxx⟩ : ∃ x, x = wordOf S (3, p) := ⟨_, rfl⟩
    have HX := Lib.hid hxx
    rw [← hxx] at hx hrw HDM
    have HG := Lib.hid hg
    clear hxx hg
    obtain ⟨v0, HS1⟩ : ∃ v, Hid (firstW x ((f : Int) / 262144) = v) := ⟨_, rfl⟩
    have HS0 : Hid (LeastInv S 3 p f (f / 64 ^ 3) v0) := by
      rw [Hid, ← HS1.out, HX.out, show (((f : Int) / 262144) : Int) = ((f / 64 ^ 3 : Nat) : Int) by simp]; exact least_start
    go_enter Tryd.func56, Tryd.ntmps56
    go_wp2
    refine wp_region_grow (by kernel_rfl) (by kernel_rfl) fun hne => ?_
    have hc := hrw.gall hs
    repeat (go_big_quiet_step ((first
      | (go_at_call 59; exact in_gsame (first_v hx HS1 _ (hT.grew (GW.grew _)))))))
    refine wpQuiet_nil ?_
    clear hne hc HS1
    intro w1 hw1
    go_wp2
    go_loopw [8] (fun dv wr => ∃ c v, Hid (LeastInv S 3 p f c v) ∧ dv = .int .i64 v ∧ Grew w wr) (fun dv _ => downM (intOf dv))
    case atStart => exact ⟨_, _, HS0, rfl, hw1⟩
    case round =>
      clear hw1 HS0
      obtain ⟨c, v, HI, rfl, hg⟩ := hrel
      by_cases hv : 0 ≤ v
      · obtain ⟨d, rfl, hd, hbit, hno, hfd⟩ := least_pos HI.out hv
        have hgk : G (2, 64 * p + d) ≠ none := (hn.there (2, 64 * p + d) (by simp only; omega)).2 ((wordOf_below hd).1 hbit)
        cases hgk2 : G (2, 64 * p + d) with
        | none => exact absurd hgk2 hgk
        | some g' =>
          have hc2 := hn.kid (3, p) g d hl HG.out hd _ (hs.grew hg)
          have e : kidV G 3 p d = .pointer (some ⟨g', 0, none⟩) := by simp [kidV, hgk2]
          rw [e] at hc2
          have hcx := hrw _ (hs.grew hg)
          have HK : Hid (∀ (fi : Int) (w : World), fi = ((f - d * 262144 : Nat) : Int) → St w0 L w → Tab w → Calls Tryd.prog 56 #[.pointer (some ⟨g', 0, none⟩), .int .i64 2, .int .i64 fi] w (LeastPost S 2 (64 * p + d) (f - d * 262144) w)) :=
            fun fi w he h1 h2 => by subst he; exact least_h hn 2 (64 * p + d) (f - d * 262144) g' w (by omega) (by omega) hgk2 h1 h2
          have HNO := Lib.hid hno
          have HFD := Lib.hid hfd
          have HDM2 := Lib.hid (HDM.out d hd)
          obtain ⟨v2, HV2⟩ : ∃ v, Hid (firstW x ((d : Int) + 1) = v) := ⟨_, rfl⟩
          clear hgk hbit e hgk2 hno hfd HI HDM
          go_wp2_with (first
            | (go_at_call 56; refine (HK.out _ _ (by omega) (hs.grew hg) (hT.grew hg)).mono ?_; rintro e w' ⟨r, rfl, hlow, hg2⟩; obtain ⟨hr1, hr2⟩ := hlow.bd (by decide); replace hcx := hg2.cell hcx; replace hlow := Lib.hid hlow; by_cases hr : 0 ≤ r)
            | (go_at_call 59; refine (first_v hx HV2 _ (hT.grew (hg.trans hg2))).mono ?_; rintro e w' ⟨rfl, rfl⟩))
          · have HR := Lib.hid (lowV_kid HNO.out hd hr hlow.out)
            go_ret
            exact ⟨_, ret_int (by omega), HR.out, hg.trans hg2⟩
          · have HR := Lib.hid (least_on HX.out HV2.out HNO.out HFD.out (by omega) hr1 hlow.out)
            rw [HV2.out] at HDM2
            go_roundw
            case rel =>
              (repeat apply Exists.intro)
              refine ⟨?_, rfl⟩
              exact ⟨d + 1, v2, HR, rfl, hg.trans hg2⟩
            case measure => exact HDM2.out
      · have HR := Lib.hid (least_neg HI.out hv)
        clear HI HDM HX HG
        go_wp2
        go_ret
        exact ⟨_, rfl, HR.out, hg⟩
  | _ + 4, _, _, _, _, hl, _, _, _, _ => by omega
end Go.Proofs.YtkcbjkadalebjaaDoor
