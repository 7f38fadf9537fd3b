/-
  One kind of place behind another (slot.Slot), 2: check, kept, New.
-/
import Derived.Test.YtmdjpeblbnbjmaaSt
set_option maxRecDepth 100000
namespace Go.Proofs.Ytmdjpeblbnbjmaa
open Go Go.RowKit
attribute [local irreducible] wpList Calls Code.wp okI okN pS tS memS getG pG insS delS getV pV tV okVal

theorem Has3.gfacts {w0 wb : World} {L : List As} {g : Nat} {v : V3} (h : Has3 w0 L g v) (hs : St w0 L wb) : (∀ p : GW wb, p.w.cell? ⟨g, 0, none⟩ = some (.int .i64 v.k)) ∧ (∀ p : GW wb, p.w.cell? ⟨g, 1, none⟩ = some (.int .i64 v.a)) ∧ ∀ p : GW wb, p.w.cell? ⟨g, 2, none⟩ = some (.int .i64 v.b) :=
  ⟨fun p => (h.facts (hs.grew p.grew)).1, fun p => (h.facts (hs.grew p.grew)).2.1, fun p => (h.facts (hs.grew p.grew)).2.2⟩
def errV (kd i : Int) (v : V3) : Int := if okI i = true then (if (okVal v && v.k == kd) = true then 0 else 9) else 1
theorem SlS.err_eq (s : SlS) (i : Int) (v : V3) : s.err i v = errV s.d.k i v := rfl
theorem okI_iff {i : Int} : okI i = true ↔ 0 ≤ i ∧ i < 65536 := by unfold okI; exact decide_eq_true_iff
theorem vok_v {w : World} {v : V3} {b : Bool} (hb : Hid (okVal v = b)) : Calls Try.prog 50 #[val3 v] w fun e w' => e = .returned (.bool b) ∧ Grew w w' := by rw [← hb.out]; exact vok_c v
theorem scheck2_c {w0 w : World} {L : List As} {X M : Nat} {v0 : Value} {d : V3} {F : Option Nat} (hs : St w0 (blk X (slC v0 d M F) 67 :: L) w) (i : Int) (v : V3) {e : Int} (he : Hid (errV d.k i v = e)) :
    Calls Try.prog 39 #[.pointer (some ⟨X, 0, none⟩), .int .i64 i, val3 v] w fun r w' => r = .returned (.int .i64 e) ∧ Grew w w' := by
  by_cases hI : okI i = true
  · have hi := okI_iff.1 hI
    cases hO : okVal v
    · skip
      obtain rfl : e = 9 := by
        rw [← he.out]; unfold errV
        rw [if_pos hI, if_neg (by simp [hO])]
      clear he
      (have HO := Lib.hid hO); clear hO hI
      have hw := St.start w
      have hk1 := Rd.sl1 _ hs
      go_enter Try.func39, Try.ntmps39
      go_upto_region 3 with (first
        | (refine wpl_box_v (v := val3 v) rfl hw ?_; clear hw; intro g1 w1 hw))
      have hs2 := hs.grew hw.made_grew
      refine wp_region_grow (by kernel_rfl) (by kernel_rfl) fun hne => ?_
      have q0 := (Rd.sl1 (w0 := w0) (X := X) (v := v0) (d := d) (M := M) (F := F) (L := L) (t := 67)).gall hs2
      obtain ⟨c0, c1, c2⟩ := Has3.gfacts (has3_slot (w0 := w) (L := []) (g := g1) (v := v) (t := 40)) hw
      repeat ((go_big_quiet_step ((first
        | (go_at_call 50; exact in_grew (vok_v HO))))))
      refine wpQuiet_nil ?_
      intro u hu
      go_wp2
      go_ret
      exact ⟨rfl, hw.made_grew.trans hu⟩
    · by_cases hK : v.k = d.k
      · skip
        obtain rfl : e = 0 := by
          rw [← he.out]; unfold errV
          rw [if_pos hI, if_pos (by simp [hO, hK])]
        clear he
        (have HO := Lib.hid hO); (have d6 : (v.k == d.k) = true := by simp [hK]); clear hO hI hK
        have hw := St.start w
        have hk1 := Rd.sl1 _ hs
        go_enter Try.func39, Try.ntmps39
        go_upto_region 3 with (first
          | (refine wpl_box_v (v := val3 v) rfl hw ?_; clear hw; intro g1 w1 hw))
        have hs2 := hs.grew hw.made_grew
        refine wp_region_grow (by kernel_rfl) (by kernel_rfl) fun hne => ?_
        have q0 := (Rd.sl1 (w0 := w0) (X := X) (v := v0) (d := d) (M := M) (F := F) (L := L) (t := 67)).gall hs2
        obtain ⟨c0, c1, c2⟩ := Has3.gfacts (has3_slot (w0 := w) (L := []) (g := g1) (v := v) (t := 40)) hw
        repeat ((go_big_quiet_step ((first
          | (go_at_call 50; exact in_grew (vok_v HO))))))
        refine wpQuiet_nil ?_
        intro u hu
        go_wp2
        go_ret
        exact ⟨rfl, hw.made_grew.trans hu⟩
      · skip
        obtain rfl : e = 9 := by
          rw [← he.out]; unfold errV
          rw [if_pos hI, if_neg (by simp [hO, hK])]
        clear he
        (have HO := Lib.hid hO); (have d6 : (v.k == d.k) = false := by simp [hK]); clear hO hI hK
        have hw := St.start w
        have hk1 := Rd.sl1 _ hs
        go_enter Try.func39, Try.ntmps39
        go_upto_region 3 with (first
          | (refine wpl_box_v (v := val3 v) rfl hw ?_; clear hw; intro g1 w1 hw))
        have hs2 := hs.grew hw.made_grew
        refine wp_region_grow (by kernel_rfl) (by kernel_rfl) fun hne => ?_
        have q0 := (Rd.sl1 (w0 := w0) (X := X) (v := v0) (d := d) (M := M) (F := F) (L := L) (t := 67)).gall hs2
        obtain ⟨c0, c1, c2⟩ := Has3.gfacts (has3_slot (w0 := w) (L := []) (g := g1) (v := v) (t := 40)) hw
        repeat ((go_big_quiet_step ((first
          | (go_at_call 50; exact in_grew (vok_v HO))))))
        refine wpQuiet_nil ?_
        intro u hu
        go_wp2
        go_ret
        exact ⟨rfl, hw.made_grew.trans hu⟩
  · by_cases h0 : i < 0
    · skip
      obtain rfl : e = 1 := by
        rw [← he.out]; unfold errV
        rw [if_neg hI]
      clear he
      clear hI
      have hw := St.start w
      have hk1 := Rd.sl1 _ hs
      go_enter Try.func39, Try.ntmps39
      go_wp2_with (first
        | (refine wpl_box_v (v := val3 v) rfl hw ?_; clear hw; intro g1 w1 hw))
      go_ret
      exact ⟨rfl, hw.made_grew⟩
    · have h1 : 65536 ≤ i := by
        have h2 : ¬ (0 ≤ i ∧ i < 65536) := fun h => hI (okI_iff.2 h)
        omega
      obtain rfl : e = 1 := by
        rw [← he.out]; unfold errV
        rw [if_neg hI]
      clear he
      clear hI
      have hw := St.start w
      have hk1 := Rd.sl1 _ hs
      go_enter Try.func39, Try.ntmps39
      go_wp2_with (first
        | (refine wpl_box_v (v := val3 v) rfl hw ?_; clear hw; intro g1 w1 hw))
      go_ret
      exact ⟨rfl, hw.made_grew⟩
theorem build_nl (T : Nat) (w : World) : (Instr.build 112 #[(0, .pointer (some ⟨T, 0, none⟩))]).run Try.prog w = .ok (.agg #[.pointer (some ⟨T, 0, none⟩)]) w := by kernel_rfl
theorem kept_c {w0 w : World} {L : List As} (hs : St w0 L w) {a kd : Int} (h1 : 1 ≤ a) (h2 : a ≤ 4) (hk : a = 4 → kd = 3) :
    Calls Try.prog 35 #[.int .i64 a] w fun e w' => ∃ t u, e = .returned (.iface t u) ∧ St w0 (PlB kd (.iface t u) [] (fun _ => V3.z) :: L) w' := by
  have ha : a = 1 ∨ a = 2 ∨ a = 3 ∨ a = 4 := by omega
  have h0 : ∀ a ∈ ([] : List Nat), a < 65536 := fun _ h => nomatch h
  clear h1 h2
  rcases ha with rfl | rfl | rfl | rfl
  · clear hk
    go_enter Try.func35, Try.ntmps35
    go_wp2_with (first
      | (go_at_call 47; refine dn_new.mono ?_; rintro e w ⟨D, rfl, hm⟩; replace hs := hs.made hm; clear hm))
    go_ret
    exact ⟨_, _, rfl, hs.pldn h0⟩
  · clear hk
    go_enter Try.func35, Try.ntmps35
    go_wp2_with (first
      | (go_at_call 48; refine (sp_new hs).mono ?_; clear hs; rintro e w ⟨D, T, rfl, hs⟩))
    go_ret
    exact ⟨_, _, rfl, hs.plsp h0 fun i => by unfold getV getG memS; rfl⟩
  · clear hk
    go_enter Try.func35, Try.ntmps35
    go_wp2_with (first
      | (go_at_call 49; refine ht_new.mono ?_; rintro e w ⟨D, rfl, hm⟩; replace hs := hs.made hm; clear hm))
    go_ret
    exact ⟨_, _, rfl, hs.plht h0⟩
  · obtain rfl := hk rfl
    clear hk
    go_enter Try.func35, Try.ntmps35
    go_wp2_with (first
      | (go_at_call 36; refine (new_nil hs).mono ?_; clear hs; rintro e w ⟨T, rfl, hs⟩)
      | (refine wpl_buildS (build_nl T) rfl ?_))
    go_ret
    exact ⟨_, _, rfl, hs.plnl h0 fun _ h => nomatch h⟩
/-- A Slot that is new. -/
def newSl (d : V3) (v : Value) (F : Option Nat) : SlS := ⟨d, [], fun _ => V3.z, F, [], [], v⟩
theorem build_sl (ty : TypeId) (u : Value) (d : V3) (M : Nat) (w : World) : (Instr.build 67 #[(0, .iface ty u), (1, val3 d), (2, .pointer (some ⟨M, 0, none⟩))]).run Try.prog w = .ok (.agg (slC (.iface ty u) d M none)) w := by kernel_rfl
theorem size_fp : (Try.prog.info? 37).map (·.size) = some 1 := by kernel_rfl
theorem Wr.sl5 {w0 : World} {X M : Nat} {v : Value} {d : V3} {F F' : Option Nat} {L : List As} {t : TypeId} : Wr w0 (Ytmdjpeblbnbjmaa.blk X (slC v d M F) t :: L) ⟨X, 5, none⟩ (fpV F') (Ytmdjpeblbnbjmaa.blk X (slC v d M F') t :: L) := Wr.blk (by simp [slC])
theorem sl_new_no {w : World} (d : V3) {e : Int} (he : Hid (descE d = e)) (h0 : e ≠ 0) :
    Calls Try.prog 15 #[val3 d] w fun r w' => r = .returned (.tuple #[.pointer none, .int .i64 e]) ∧ Grew w w' := by
  have hw := St.start w
  have d0 : (e == 0) = false := by simpa using h0
  go_enter Try.func15, Try.ntmps15
  go_upto_region 1 with (first
    | (refine wpl_box_v (v := val3 d) rfl hw ?_; clear hw; intro g1 w1 hw))
  obtain ⟨c0, c1, c2⟩ := (has3_slot (w0 := w) (L := []) (g := g1) (v := d) (t := 28)).facts hw
  go_wp2_with (first
    | (go_at_call 16; refine (scheck_c d he).mono ?_; rintro r w3 ⟨rfl, hg⟩; replace hw := hw.grew hg; clear hg))
  go_ret2
  exact ⟨rfl, hw.made_grew⟩
theorem sl_new {w0 w : World} {L : List As} (hs : St w0 L w) (d : V3) (he : Hid (descE d = 0)) :
    Calls Try.prog 15 #[val3 d] w fun r w' => ∃ X v F, r = .returned (.tuple #[.pointer (some ⟨X, 0, none⟩), .int .i64 0]) ∧ St w0 (SlB X (newSl d v F) :: L) w' := by
  have hde : (1 ≤ d.a ∧ d.a ≤ 4) ∧ (d.a = 4 → d.k = 3) ∧ 0 ≤ d.b ∧ d.b ≤ 1000 := by
    have h := he.out
    unfold descE at h
    by_cases h1 : 1 ≤ d.k ∧ d.k ≤ 3 ∧ 1 ≤ d.a ∧ d.a ≤ 4 ∧ 0 ≤ d.b ∧ d.b ≤ 1000
    · rw [if_pos h1] at h
      by_cases h2 : d.a = 4 ∧ d.k ≠ 3
      · rw [if_pos h2] at h; cases h
      · exact ⟨⟨h1.2.2.1, h1.2.2.2.1⟩, fun h3 => by omega, h1.2.2.2.2.1, h1.2.2.2.2.2⟩
    · rw [if_neg h1] at h; cases h
  obtain ⟨⟨ha1, ha2⟩, hak, hb1, hb2⟩ := hde
  have HK := Lib.hid (fun (w : World) (L : List As) (hs : St w0 L w) => kept_c hs ha1 ha2 hak)
  clear ha1 ha2 hak
  go_enter Try.func15, Try.ntmps15
  go_upto_region 1 with (first
    | (refine wpl_box_v (v := val3 d) rfl hs ?_; clear hs; intro g1 w hs))
  replace hs : St w0 (blk g1 (c3 d).toArray 28 :: L) w := hs
  have hr3 := has3_slot (w0 := w0) (L := []) (g := g1) (v := d) (t := 28)
  obtain ⟨c0, c1, c2⟩ := hr3.facts hs.only
  go_upto_region 4 with (first
    | (go_at_call 16; refine (scheck_c d he).mono ?_; rintro r w3 ⟨rfl, hg⟩; replace hs := hs.grew hg; clear hg c0 c1 c2))
  refine wp_region_plain [false, false, true, false, true, true, true, true] hs.only (by kernel_rfl) (by kernel_rfl) fun hne => ?_
  have c0 := (hr3 0 _ rfl).alln
  have c1 := (hr3 1 _ rfl).alln
  have c2 := (hr3 2 _ rfl).alln
  simp only [pickOps]
  repeat (go_big_quiet_step (fail))
  refine wpQuiet_nil ?_
  clear hne c0 c1 c2
  simp only [chainIx]
  refine wpChainP_next rfl ?_
  replace hs := hs.drew
  go_wp2_with (first
    | (go_at_call 35; refine (HK.out _ _ hs).mono ?_; clear hs; rintro r w ⟨tv, uv, rfl, hs⟩))
  refine ⟨hs.drop.only, ?_⟩
  refine wpChainP_next rfl ?_
  go_wp2_with (first
    | (go_at_call 36; refine (new_nil hs).mono ?_; clear hs; rintro r w ⟨M, rfl, hs⟩))
  refine ⟨hs.drop.drop.only, ?_⟩
  refine wpChainP_next rfl ?_
  refine wpl_buildS (build_sl tv uv d M) rfl ?_
  refine wpList_nil ⟨rfl, hs.drop.drop.only, ?_⟩
  refine wpChainP_next rfl ?_
  refine wpl_box_v (v := .agg (slC (.iface tv uv) d M none)) rfl hs ?_
  clear hs
  intro X w hs
  replace hs : St w0 (blk X (slC (.iface tv uv) d M none) 67 :: HSet M [] :: PlB d.k (.iface tv uv) [] (fun _ => V3.z) :: blk g1 (c3 d).toArray 28 :: L) w := hs
  refine wpList_nil ⟨rfl, hs.drop.drop.drop.only, ?_⟩
  refine wpChain_last rfl ?_
  have c2 : w.cell? ⟨g1, 2, none⟩ = some (.int .i64 d.b) := (hr3 2 _ rfl) _ hs.drop.drop.drop.only
  by_cases hb : 0 < d.b
  · have HF : Hid (∀ w, Calls Try.prog 37 #[.int .i64 d.b] w fun e w' => ∃ F, e = .returned (.tuple #[.pointer (some ⟨F, 0, none⟩), .int .i64 0]) ∧ St w [FlB F d.b.toNat [] []] w') := fun w => by
      obtain ⟨n, hn⟩ := Int.eq_ofNat_of_zero_le hb1
      rw [hn]
      exact fl_new (by omega) (by omega)
    go_wp2_with (first
      | (go_at_call 37; refine (HF.out _).mono ?_; rintro r w ⟨F, rfl, hm⟩; replace hs := hs.made hm; clear hm c2)
      | (refine wpl_store (v := .pointer (some ⟨F, 0, none⟩)) rfl rfl rfl size_fp hs.rot (Wr.sl5 (F' := some F)) ?_; clear hs; intro w hs))
    go_ret2
    refine ⟨X, .iface tv uv, some F, rfl, ?_⟩
    refine St.slshut (s := newSl d (.iface tv uv) (some F)) (M := M) ⟨he.out, (decide_eq_true (show 0 < d.b by omega)).symm⟩ ?_
    exact (hs.ent (M := blk X (slC (.iface tv uv) d M (some F)) 67 :: PlB d.k (.iface tv uv) [] (fun _ => V3.z) :: HSet M [] :: FlB F d.b.toNat [] [] :: blk g1 (c3 d).toArray 28 :: L) (by (repeat first | exact Ent.refl _ | refine Ent.step (by first | exact Ent.refl _ | exact Ent.skip (Ent.refl _) | exact Ent.skip (Ent.skip (Ent.refl _)) | exact Ent.skip (Ent.skip (Ent.skip (Ent.refl _))) | exact Ent.skip (Ent.skip (Ent.skip (Ent.skip (Ent.refl _)))) | exact Ent.skip (Ent.skip (Ent.skip (Ent.skip (Ent.skip (Ent.refl _))))) | exact Ent.skip (Ent.skip (Ent.skip (Ent.skip (Ent.skip (Ent.skip (Ent.refl _)))))) | exact Ent.skip (Ent.skip (Ent.skip (Ent.skip (Ent.skip (Ent.skip (Ent.skip (Ent.refl _))))))) | exact Ent.skip (Ent.skip (Ent.skip (Ent.skip (Ent.skip (Ent.skip (Ent.skip (Ent.skip (Ent.refl _)))))))) | exact Ent.skip (Ent.skip (Ent.skip (Ent.skip (Ent.skip (Ent.skip (Ent.skip (Ent.skip (Ent.skip (Ent.refl _)))))))))) ?_))).up4.drop
  · go_wp2
    go_ret2
    refine ⟨X, .iface tv uv, none, rfl, ?_⟩
    refine St.slshut (s := newSl d (.iface tv uv) none) (M := M) ⟨he.out, (decide_eq_false (show ¬ 0 < d.b by omega)).symm⟩ ?_
    have hs2 := hs.up3.drop
    have hs3 : St w0 (FlP none d.b [] [] :: blk X (slC (.iface tv uv) d M none) 67 :: HSet M [] :: PlB d.k (.iface tv uv) [] (fun _ => V3.z) :: L) w := hs2.ent fun _ h => star_mono (fun _ he => ⟨⟨rfl, rfl⟩, he⟩) (fun _ x => x) (emp_star h)
    exact hs3.ent (M := blk X (slC (.iface tv uv) d M none) 67 :: PlB d.k (.iface tv uv) [] (fun _ => V3.z) :: HSet M [] :: FlP none d.b [] [] :: L) (by (repeat first | exact Ent.refl _ | refine Ent.step (by first | exact Ent.refl _ | exact Ent.skip (Ent.refl _) | exact Ent.skip (Ent.skip (Ent.refl _)) | exact Ent.skip (Ent.skip (Ent.skip (Ent.refl _))) | exact Ent.skip (Ent.skip (Ent.skip (Ent.skip (Ent.refl _)))) | exact Ent.skip (Ent.skip (Ent.skip (Ent.skip (Ent.skip (Ent.refl _))))) | exact Ent.skip (Ent.skip (Ent.skip (Ent.skip (Ent.skip (Ent.skip (Ent.refl _)))))) | exact Ent.skip (Ent.skip (Ent.skip (Ent.skip (Ent.skip (Ent.skip (Ent.skip (Ent.refl _))))))) | exact Ent.skip (Ent.skip (Ent.skip (Ent.skip (Ent.skip (Ent.skip (Ent.skip (Ent.skip (Ent.refl _)))))))) | exact Ent.skip (Ent.skip (Ent.skip (Ent.skip (Ent.skip (Ent.skip (Ent.skip (Ent.skip (Ent.skip (Ent.refl _)))))))))) ?_))
end Go.Proofs.Ytmdjpeblbnbjmaa
