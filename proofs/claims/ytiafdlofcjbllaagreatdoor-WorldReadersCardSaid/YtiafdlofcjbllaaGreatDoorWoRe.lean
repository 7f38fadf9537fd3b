/-
  WorldReaders: the walk.
-/
import Derived.Test.YtiafdlofcjbllaaGreatDoorWo13
import Derived.Test.YtiafdlofcjbllaaGreatDoorWo11
import Derived.Test.YtiafdlofcjbllaaGreatDoorJA
set_option maxRecDepth 100000
namespace Go.Proofs.YtiafdlofcjbllaaGreatDoor
open Go Go.RowKit
theorem wo_oks {w0 w : World} {L : List As} {W E A R X Q n : Nat} {s : WoS} (hs : St w0 (WoB W E A R X Q n s :: L) w) {c : Nat} {x : Cmp} (hc : s.e.l[c]? = some x) : x.2.Ok := (rg_wf (wo_en hs).enopen.rot hc).ok
/-- Two readers of each component below i that has some, k of the next one. -/
structure RdI (ds : List V3) (l : List Cmp) (i k : Nat) : Prop where
  len : l.length = ds.length
  at_ : ∀ (c : Nat) (x : Cmp), l[c]? = some x → ds[c]? = some x.2.d ∧ x.2.F.isSome = decide (0 < x.2.d.b) ∧ x.2.evs = [] ∧ x.2.rds = if x.2.F.isSome then List.replicate (if c < i then 2 else if c = i then k else 0) 0 else []
section
variable {ds : List V3} {l : List Cmp} {i k : Nat}
theorem NewL.rd (h : NewL ds l) (ho : ∀ (c : Nat) (x : Cmp), l[c]? = some x → x.2.Ok) : RdI ds l 0 0 := ⟨h.len, fun c x hx => by
  obtain ⟨d, v, F, h1, h2⟩ := h.at_ c x hx
  have hf := (ho c x hx).flag
  refine ⟨by rw [h2]; exact h1, hf, by rw [h2]; rfl, ?_⟩
  rw [h2]
  show ([] : List Nat) = _
  split
  · rw [if_neg (by omega)]; split <;> rfl
  · rfl⟩
theorem RdI.next (h : RdI ds l i 2) : RdI ds l (i + 1) 0 := ⟨h.len, fun c x hx => by
  obtain ⟨h1, h2, h3, h4⟩ := h.at_ c x hx
  refine ⟨h1, h2, h3, ?_⟩
  rw [h4]
  congr 2
  by_cases hc : c < i
  · rw [if_pos hc, if_pos (by omega)]
  · rw [if_neg hc]
    by_cases he : c = i
    · rw [if_pos he, if_pos (by omega)]
    · rw [if_neg he, if_neg (by omega)]; split <;> rfl⟩
theorem RdI.no (h : RdI ds l i k) {X : Nat} {t : SlS} (hx : l[i]? = some (X, t)) (hF : t.F = none) : RdI ds l i (k + 1) := ⟨h.len, fun c x hc => by
  obtain ⟨h1, h2, h3, h4⟩ := h.at_ c x hc
  refine ⟨h1, h2, h3, ?_⟩
  rw [h4]
  by_cases he : c = i
  · subst he
    rw [hx] at hc
    cases hc
    rw [hF]
    rfl
  · congr 2
    by_cases hlt : c < i
    · rw [if_pos hlt, if_pos hlt]
    · rw [if_neg hlt, if_neg he, if_neg hlt, if_neg he]⟩
theorem RdI.yes (h : RdI ds l i k) {X f : Nat} {t : SlS} (hx : l[i]? = some (X, t)) (hF : t.F = some f) : t.rds.length = k ∧ RdI ds (l.set i (X, { t with rds := t.rds ++ [t.evs.length] })) i (k + 1) := by
  obtain ⟨g1, g2, g3, g4⟩ := h.at_ i _ hx
  have hs : t.F.isSome = true := by rw [hF]; rfl
  simp only at g1 g2 g3 g4
  rw [if_pos hs, if_neg (by omega), if_pos trivial] at g4
  refine ⟨by rw [g4, List.length_replicate], by rw [List.length_set]; exact h.len, fun c x hc => ?_⟩
  rw [List.getElem?_set] at hc
  by_cases he : i = c
  · rw [if_pos he] at hc
    split at hc
    · injection hc with hc
      subst hc
      subst he
      refine ⟨g1, g2, g3, ?_⟩
      simp only
      rw [if_pos hs, if_neg (by omega), if_pos trivial, g4, g3, List.replicate_succ']
      rfl
    · cases hc
  · rw [if_neg he] at hc
    obtain ⟨h1, h2, h3, h4⟩ := h.at_ c x hc
    refine ⟨h1, h2, h3, ?_⟩
    rw [h4]
    congr 2
    by_cases hlt : c < i
    · rw [if_pos hlt, if_pos hlt]
    · rw [if_neg hlt, if_neg (fun q => he q.symm), if_neg hlt, if_neg (fun q => he q.symm)]
/-- What a call of Reader comes to. -/
theorem RdI.call {s : WoS} (h : RdI ds s.e.l i k) (hf : s.held = false) (hk : k < 2) {d : V3} (hd : ds[i]? = some d) : ∃ (m x : Int) (s' : WoS), s.reader (i : Int) = (m, x, s') ∧ RdI ds s'.e.l i (k + 1) ∧ s'.held = false ∧ ((x = 14 ∧ m = 0 ∧ ¬ 0 < d.b) ∨ (x = 0 ∧ m = (k : Int) ∧ 0 < d.b)) := by
  have hi : i < s.e.l.length := by rw [h.len]; exact (List.getElem?_eq_some_iff.1 hd).1
  obtain ⟨⟨X, t⟩, hx⟩ : ∃ x, s.e.l[i]? = some x := ⟨_, List.getElem?_eq_getElem hi⟩
  obtain ⟨h1, h2, h3, h4⟩ := h.at_ i _ hx
  rw [hd] at h1
  injection h1 with h1
  subst h1
  simp only at h2
  cases hF : t.F with
  | none =>
    refine ⟨0, 14, s, WoS.reader_flag (WoS.free_free hf) (by rw [EnS.slot_nat]; exact hx) hF, h.no hx hF, hf, .inl ⟨rfl, rfl, ?_⟩⟩
    rw [hF] at h2
    simpa using h2
  | some f =>
    obtain ⟨hl, hn⟩ := h.yes hx hF
    refine ⟨((t.rds.length : Nat) : Int), 0, _, WoS.reader_ok (WoS.free_free hf) hx hF (by omega), hn, hf, .inr ⟨rfl, by rw [hl], ?_⟩⟩
    rw [hF] at h2
    simpa using h2.symm
/-- What a call of Read comes to. -/
theorem RdI.read {s : WoS} {m : Nat} (h : RdI ds s.e.l m 0) (hm : ds.length = m) (hok : ∀ d ∈ ds, descE d = 0) (c r : Int) : ∃ (ev : List Ev) (b : Bool) (x : Int) (s' : WoS), s.read c r = (ev, b, x, s') ∧ ((x = 11 ∧ (c < 0 ∨ (m : Int) ≤ c)) ∨ ∃ (j : Nat) (d : V3), c = (j : Int) ∧ j < m ∧ ds[j]? = some d ∧ ((x = 14 ∧ d.b = 0) ∨ (d.b ≠ 0 ∧ ((x = 8 ∧ r ≠ 0 ∧ r ≠ 1) ∨ (x = 0 ∧ (r = 0 ∨ r = 1)))))) := by
  cases hc : s.e.slot c with
  | none => exact ⟨_, _, _, _, WoS.read_comp hc, .inl ⟨rfl, by rw [← hm, ← h.len]; exact EnS.slot_none hc⟩⟩
  | some y =>
    obtain ⟨j, rfl, hj⟩ := EnS.slot_some hc
    obtain ⟨X, t⟩ := y
    obtain ⟨h1, h2, h3, h4⟩ := h.at_ j _ hj
    have hjl : j < m := by rw [← hm]; exact (List.getElem?_eq_some_iff.1 h1).1
    simp only at h1 h2 h3 h4
    have hd := hok _ (List.mem_of_getElem? h1)
    have hb : 0 ≤ t.d.b := by
      unfold descE at hd
      split at hd
      · rename_i q; exact q.2.2.2.2.1
      · cases hd
    cases hF : t.F with
    | none =>
      refine ⟨_, _, _, _, WoS.read_flag hc hF, .inr ⟨j, t.d, rfl, hjl, h1, .inl ⟨rfl, ?_⟩⟩⟩
      rw [hF] at h2
      have : ¬ 0 < t.d.b := by simpa using h2
      omega
    | some f =>
      have hs : t.F.isSome = true := by rw [hF]; rfl
      have hbp : 0 < t.d.b := by rw [hs] at h2; simpa using h2.symm
      rw [if_pos hs, if_pos hjl] at h4
      by_cases hr : r = 0 ∨ r = 1
      · obtain ⟨i, rfl, hi⟩ : ∃ i : Nat, r = (i : Int) ∧ i < 2 := ⟨r.toNat, by omega, by omega⟩
        obtain ⟨k, hk⟩ : ∃ k, t.rds[i]? = some k := ⟨_, List.getElem?_eq_getElem (by rw [h4, List.length_replicate]; exact hi)⟩
        exact ⟨_, _, _, _, WoS.read_ok hj hF hk, .inr ⟨j, t.d, rfl, hjl, h1, .inr ⟨by omega, .inr ⟨rfl, hr⟩⟩⟩⟩
      · refine ⟨_, _, _, _, WoS.read_no hc hF (by rw [h4, List.length_replicate]; omega), .inr ⟨j, t.d, rfl, hjl, h1, .inr ⟨by omega, .inl ⟨rfl, by omega, by omega⟩⟩⟩⟩
theorem RdI.ev (h : RdI ds l i k) : ∀ x ∈ l, x.2.evs.length < 4611686018427387904 := fun x hx => by
  obtain ⟨c, hc⟩ := List.getElem?_of_mem hx
  rw [(h.at_ c x hc).2.2.1]
  exact (by decide : 0 < 4611686018427387904)
end
attribute [local irreducible] wpList Calls Code.wp okI okN pS tS memS getG pG insS delS getV pV tV okVal newSl SlS.put SlS.err SlS.putU SlS.putB descE SlS.take SlS.set SlS.errSet SlS.get SlS.has stV EnS.live EnS.get EnS.slot EnS.ins EnS.set EnS.rem EnS.parts EnS.del ofN strL delA newA giveV cs3 errDs descsL mkV WoS.reader WoS.read i8v
set_option maxHeartbeats 16000000 in
theorem woreaders_c {w0 : World} (hT : Tab w0) {va : Value} {za : List Int} (hva : IntArg w0 va za) (c r : Int) :
    Calls Tryz.prog 7 #[va, .int .i64 c, .int .i64 r] w0 (LawPost w0) := by
  obtain ⟨A0, na, ca, rfl, hna, hnc, hcm, hra, -⟩ := hva
  unfold maxLen at hcm
  have HNA := Lib.hid hna
  have hnb : na ≤ 9223372036854775807 := by omega
  clear hna hnc hcm
  have hs := St.start w0
  obtain ⟨ds, hds⟩ : ∃ z, Hid (descsL za = z) := ⟨_, rfl⟩
  have hl8 : ds.length ≤ 8 := by rw [← hds.out]; exact descsL_len za
  have HOK : Hid (∀ d ∈ ds, descE d = 0) := by rw [Hid, ← hds.out]; exact descsL_ok za
  have HER : Hid (errDs 0 ds = 0) := errDs_ok HOK.out (by omega)
  go_enter Tryz.func7, Tryz.ntmps7
  go_upto_region 2 with (first
    | (go_at_call 58; refine (config_c (N := 6) (q3 := 2) hs HNA hnb hra hds (by rw [Hid]; rfl) (by rw [Hid]; rfl)).mono ?_; clear hs; rintro r w ⟨B, m, cB, G, hm, rfl, hs⟩; have hm8 : m ≤ 8 := hm.out ▸ hl8)
    | (refine wpl_alloc zeroCf hs ?_; clear hs; intro g7 w hs; replace hs : St w0 (blk g7 (cfC 0 0 none 0 0 none 0 0).toArray 28 :: _) w := hs)
    | (refine wpl_store_agg (v := .agg (cfC (6 : Nat) ((2 : Nat) + 1) B m cB (some ⟨G, 0, none⟩) 2 2).toArray) rfl rfl (sizeCfv _ _ _ _ _ _ _ _) hs WrA.slotCf ?_; clear hs; intro w hs))
  go_upto_region 3 with (first
    | (refine wpl_load_agg (cs := cfC (6 : Nat) ((2 : Nat) + 1) B m cB (some ⟨G, 0, none⟩) 2 2) (b := g7) (o := 0) rfl aggCf (sizeCf _ _ _ _ _ _ _ _) hs ?hh ?_; case hh => exact fun j x hx => (Rd.blk (by simpa using hx)))
    | (go_at_call 47; refine (wo_new (n := 6) (top := 3) hs (by decide) (by decide) (by decide) (by decide) hm (by omega) (RdS.own hs.drop).tail HER (B := some ⟨G, 0, none⟩) (fun h => nomatch h) (k := 2) (rs := [3, -7]) rfl (by decide) (by decide) RdS.blk.tail.tail).mono ?_; clear hs; rintro r w ⟨W, E, A, R, X, Q, l, HNL, rfl, hs⟩))
  have HRD : Hid (RdI ds l 0 0) := HNL.out.rd fun c x hx => wo_oks hs hx
  obtain ⟨s0, HS0⟩ : ∃ z, Hid ((⟨⟨3, newA 6, l⟩, [], [3, -7], false⟩ : WoS) = z) := ⟨_, rfl⟩
  have HR0 : Hid (RdI ds s0.e.l 0 0 ∧ s0.held = false) := by rw [← HS0.out]; exact ⟨HRD.out, rfl⟩
  rw [HS0.out] at hs
  clear HNL HER hl8 hds hra HNA HRD HS0
  replace hs : St w0 [WoB W E A R X Q 6 s0, blk g7 (cfC (6 : Nat) ((2 : Nat) + 1) B m cB (some ⟨G, 0, none⟩) 2 2).toArray 28, own B m cB 97 3 (cs3 ds)] w := (hs.ent (M := blk G (i8v [3, -7]).toArray 2 :: [WoB W E A R X Q 6 s0, blk g7 (cfC (6 : Nat) ((2 : Nat) + 1) B m cB (some ⟨G, 0, none⟩) 2 2).toArray 28, own B m cB 97 3 (cs3 ds)]) (by (repeat first | exact Ent.refl _ | refine Ent.step (by repeat first | exact Ent.refl _ | apply Ent.skip) ?_))).drop
  go_upto_region 6 with (fail)
  go_loopw [10] (fun iv wr => ∃ (i : Nat) (s : WoS), i ≤ m ∧ iv = .int .i64 (i : Nat) ∧ Hid (RdI ds s.e.l i 0 ∧ s.held = false) ∧ St w0 [WoB W E A R X Q 6 s, blk g7 (cfC (6 : Nat) ((2 : Nat) + 1) B m cB (some ⟨G, 0, none⟩) 2 2).toArray 28, own B m cB 97 3 (cs3 ds)] wr) (fun iv _ => m - (intOf iv).toNat)
  case atStart => exact ⟨0, s0, Nat.zero_le _, rfl, HR0, hs⟩
  case round =>
    clear hs HR0
    obtain ⟨i, s, hi, rfl, HR, hs⟩ := hrel
    have c2 : World.cell? _ ⟨g7, 2, none⟩ = some (.slice B m cB) := Rd.blk (by rfl) _ hs.drop
    by_cases hlt : i < m
    · obtain ⟨d, hd⟩ : ∃ d, Hid (ds[i]? = some d) := ⟨ds[i]'(by rw [hm.out]; exact hlt), List.getElem?_eq_getElem _⟩
      obtain ⟨gB, rfl⟩ := hs.up2.own_at (by omega)
      go_upto_region 9 with (fail)
      clear c2
      go_loopw [11] (fun kv wr => ∃ (k : Nat) (s : WoS), k ≤ 2 ∧ kv = .int .i64 (k : Nat) ∧ Hid (RdI ds s.e.l i k ∧ s.held = false) ∧ St w0 [WoB W E A R X Q 6 s, blk g7 (cfC (6 : Nat) ((2 : Nat) + 1) (some ⟨gB, 0, none⟩) m cB (some ⟨G, 0, none⟩) 2 2).toArray 28, own (some ⟨gB, 0, none⟩) m cB 97 3 (cs3 ds)] wr) (fun kv _ => 2 - (intOf kv).toNat)
      case atStart => exact ⟨0, s, Nat.zero_le _, rfl, HR, hs⟩
      case round =>
        clear hs HR
        obtain ⟨k, s, hk, rfl, HR, hs⟩ := hrel
        by_cases hk2 : k < 2
        · obtain ⟨mm, x, s', h1, h2, h3, h4⟩ := RdI.call HR.out.1 HR.out.2 hk2 hd.out
          have HC := Lib.hid h1
          have HR' : Hid (RdI ds s'.e.l i (k + 1) ∧ s'.held = false) := ⟨h2, h3⟩
          clear h1 h2 h3 HR
          rcases h4 with ⟨rfl, rfl, hb⟩ | ⟨rfl, rfl, hb⟩
          · have hb2 : decide (d.b > 0) = false := decide_eq_false hb
            go_upto_region 12 with (first
              | (go_at_call 59; refine (wo_reader hs HC).mono ?_; clear hs; rintro r w ⟨rfl, hs⟩))
            have c2 : World.cell? _ ⟨g7, 2, none⟩ = some (.slice (some ⟨gB, 0, none⟩) m cB) := Rd.blk (by rfl) _ hs.drop
            have c3 : World.cell? _ ⟨gB, i * 3 + 2, none⟩ = some (.int .i64 d.b) := Rd.own (cs3_get hd.out 2 _ rfl) _ hs.up2
            go_wp2
            clear c2 c3
            go_roundw
            case rel => exact ⟨k + 1, s', by omega, by first | rfl | go_num, HR', hs⟩
            case measure => simp [intOf]; omega
          · have hb2 : decide (d.b > 0) = true := decide_eq_true hb
            go_upto_region 12 with (first
              | (go_at_call 59; refine (wo_reader hs HC).mono ?_; clear hs; rintro r w ⟨rfl, hs⟩))
            have c2 : World.cell? _ ⟨g7, 2, none⟩ = some (.slice (some ⟨gB, 0, none⟩) m cB) := Rd.blk (by rfl) _ hs.drop
            have c3 : World.cell? _ ⟨gB, i * 3 + 2, none⟩ = some (.int .i64 d.b) := Rd.own (cs3_get hd.out 2 _ rfl) _ hs.up2
            go_wp2
            clear c2 c3
            go_roundw
            case rel => exact ⟨k + 1, s', by omega, by first | rfl | go_num, HR', hs⟩
            case measure => simp [intOf]; omega
        · obtain rfl : k = 2 := by omega
          have HR' : Hid (RdI ds s.e.l (i + 1) 0 ∧ s.held = false) := ⟨HR.out.1.next, HR.out.2⟩
          go_wp2
          go_roundw
          case rel => exact ⟨i + 1, s, by omega, by first | rfl | go_num, HR', hs⟩
          case measure => simp [intOf]; omega
    · obtain rfl : i = m := by omega
      obtain ⟨ev, b, x, s', h1, h4⟩ := RdI.read HR.out.1 hm.out HOK.out c r
      have HC := Lib.hid h1
      have HEV := Lib.hid HR.out.1.ev
      clear h1 HR HOK
      go_upto_region 15 with (first
        | (go_at_call 60; refine (wo_read hs HEV.out HC).mono ?_; clear hs c2; rintro r w ⟨D, me, ce, hme, rfl, hs⟩; replace hs := hs.drop))
      have c2 : World.cell? _ ⟨g7, 2, none⟩ = some (.slice B i cB) := Rd.blk (by rfl) _ hs.drop
      rcases h4 with ⟨rfl, hc⟩ | ⟨j, d, rfl, hj, hd, h5⟩
      · by_cases h0 : c < 0
        · have d0 : decide (c < 0) = true := decide_eq_true h0
          clear hc
          go_wp2_with (first
            | (go_at_call 46; refine (awake16 (hT.grew hs.below)).mono ?_; rintro r w' ⟨rfl, hg⟩; replace hs := hs.grew hg; clear hg))
          go_ret
          exact ⟨rfl, St.front (L := []) hs⟩
        · have hc2 : (i : Int) ≤ c := hc.resolve_left h0
          have d0 : decide (c < 0) = false := decide_eq_false h0
          have d1 : decide (c ≥ (i : Int)) = true := decide_eq_true hc2
          clear hc
          go_wp2_with (first
            | (go_at_call 46; refine (awake16 (hT.grew hs.below)).mono ?_; rintro r w' ⟨rfl, hg⟩; replace hs := hs.grew hg; clear hg))
          go_ret
          exact ⟨rfl, St.front (L := []) hs⟩
      · obtain ⟨gB, rfl⟩ := hs.up2.own_at (by omega)
        have c3 : World.cell? _ ⟨gB, j * 3 + 2, none⟩ = some (.int .i64 d.b) := Rd.own (cs3_get hd 2 _ rfl) _ hs.up2
        have n0 : ¬ ((j : Nat) : Int) < 0 := by omega
        have d0 : decide (((j : Nat) : Int) < 0) = false := decide_eq_false n0
        have n1 : ¬ ((i : Nat) : Int) ≤ ((j : Nat) : Int) := by omega
        have d1 : decide (((j : Nat) : Int) ≥ ((i : Nat) : Int)) = false := decide_eq_false n1
        clear hd
        rcases h5 with ⟨rfl, hb⟩ | ⟨hb, h6⟩
        · have d2 : (d.b == 0) = true := by simp [hb]
          clear hb
          go_wp2_with (first
            | (go_at_call 46; refine (awake16 (hT.grew hs.below)).mono ?_; rintro r w' ⟨rfl, hg⟩; replace hs := hs.grew hg; clear hg))
          go_ret
          exact ⟨rfl, St.front (L := []) hs⟩
        · have d2 : (d.b == 0) = false := by simp [hb]
          clear hb
          rcases h6 with ⟨rfl, hr0, hr1⟩ | ⟨rfl, rfl | rfl⟩
          · have d3 : (r != 0) = true := by simp [hr0]
            have d4 : (r != 1) = true := by simp [hr1]
            clear hr0 hr1
            go_wp2_with (first
              | (go_at_call 46; refine (awake16 (hT.grew hs.below)).mono ?_; rintro r w' ⟨rfl, hg⟩; replace hs := hs.grew hg; clear hg))
            go_ret
            exact ⟨rfl, St.front (L := []) hs⟩
          · skip
            go_wp2_with (first
              | (go_at_call 46; refine (awake16 (hT.grew hs.below)).mono ?_; rintro r w' ⟨rfl, hg⟩; replace hs := hs.grew hg; clear hg))
            go_ret
            exact ⟨rfl, St.front (L := []) hs⟩
          · skip
            go_wp2_with (first
              | (go_at_call 46; refine (awake16 (hT.grew hs.below)).mono ?_; rintro r w' ⟨rfl, hg⟩; replace hs := hs.grew hg; clear hg))
            go_ret
            exact ⟨rfl, St.front (L := []) hs⟩
end Go.Proofs.YtiafdlofcjbllaaGreatDoor
