/-
  A world in memory (world.World): Defer.
-/
import Derived.Test.YtiafdlofcjbllaaGreatDoorWo8
set_option maxRecDepth 100000
namespace Go.Proofs.YtiafdlofcjbllaaGreatDoor
open Go Go.RowKit
theorem zeroWo : (Tryz.prog.info? 99).bind (·.zero) = some (valW ⟨0, (0, 0), 0, V3.z⟩) := by kernel_rfl
theorem sizeWv (o : OpW) : (Tryz.prog.info? 99).map (·.size) = some (valW o).cells.size := by kernel_rfl
theorem c7w_one (o : OpW) : ∀ u ∈ c7w o, u.oneCell' = true := by simp [c7w]; exact ⟨rfl, rfl, rfl, rfl, rfl, rfl, rfl⟩
theorem WrA.slotW {w0 : World} {g : Nat} {u v : OpW} {t : TypeId} {L : List As} : WrA w0 (YtiafdlofcjbllaaGreatDoor.blk g (c7w u).toArray t :: L) ⟨g, 0, none⟩ (valW v).cells.toList (YtiafdlofcjbllaaGreatDoor.blk g (c7w v).toArray t :: L) := by
  have := WrA.blk (w0 := w0) (g := g) (o := 0) (cs := c7w u) (t := t) (vs := c7w v) (L := L) (by simp [c7w]) (c7w_one v)
  rwa [splice_all (by simp [c7w])] at this
theorem all_take {α : Type} {p : α → Bool} {l : List α} {k : Nat} {x : α} (hx : l[k]? = some x) : (l.take (k + 1)).all p = ((l.take k).all p && p x) := by
  rw [List.take_add_one, hx]; simp
section
variable {s : WoS} {l : List OpW}
theorem WoS.defer_bad {x : Int} (he : s.defE l = x) (h0 : x ≠ 0) : s.defer l = (x, s) := by unfold WoS.defer; rw [he, if_neg h0]
theorem WoS.defer_ok (he : s.defE l = 0) : s.defer l = (0, { s with q := s.q ++ l }) := by unfold WoS.defer; rw [he, if_pos rfl]
theorem WoS.defE_1 (h1 : l.any (fun o => !o.ok) = true) : s.defE l = 1 := by unfold WoS.defE; rw [if_pos h1]
theorem WoS.defE_4 (h1 : l.any (fun o => !o.ok) = false) (h2 : l.any (fun o => decide (stV s.e.cs o.h = 0)) = true) : s.defE l = 4 := by unfold WoS.defE; rw [h1, if_neg Bool.false_ne_true, if_pos h2]
theorem WoS.defE_11 (h1 : l.any (fun o => !o.ok) = false) (h2 : l.any (fun o => decide (stV s.e.cs o.h = 0)) = false) (h3 : l.all (fun o => (s.kn o).1) = false) : s.defE l = 11 := by unfold WoS.defE; rw [h1, h2, h3]; rfl
theorem WoS.defE_9 (h1 : l.any (fun o => !o.ok) = false) (h2 : l.any (fun o => decide (stV s.e.cs o.h = 0)) = false) (h3 : l.all (fun o => (s.kn o).1) = true) (h4 : l.all (fun o => (s.kn o).2) = false) : s.defE l = 9 := by unfold WoS.defE; rw [h1, h2, h3, h4]; rfl
theorem WoS.defE_q (h1 : l.any (fun o => !o.ok) = false) (h2 : l.any (fun o => decide (stV s.e.cs o.h = 0)) = false) (h3 : l.all (fun o => (s.kn o).1) = true) (h4 : l.all (fun o => (s.kn o).2) = true) : s.defE l = quE l s.q := by unfold WoS.defE quE; rw [h1, h2, h3, h4]; rfl
end
attribute [local irreducible] wpList Calls Code.wp stV EnS.live EnS.slot WoS.kn WoS.defE WoS.defer quE OpW.ok
set_option maxHeartbeats 8000000 in
theorem wo_defer {w0 w : World} {L : List As} {W E A R X Q n : Nat} {s : WoS} {l : List OpW} {D : Option Addr} {cap : Nat} (hq : s.q.length ≤ 10000) (hl : l.length ≤ 1000000) (hs : St w0 (WoB W E A R X Q n s :: L) w) (hr : RdS w0 L D (l.flatMap c7w)) {x : Int} {s' : WoS} (HV : Hid (s.defer l = (x, s'))) :
    Calls Tryz.prog 53 #[.pointer (some ⟨W, 0, none⟩), .slice D l.length cap] w fun r w' => r = .returned (.int .i64 x) ∧ St w0 (WoB W E A R X Q n s' :: L) w' := by
  obtain ⟨m, hm⟩ : ∃ m, Hid (l.length = m) := ⟨_, rfl⟩
  obtain ⟨a1, HA⟩ : ∃ z, Hid (l.any (fun o => !o.ok) = z) := ⟨_, rfl⟩
  obtain ⟨a2, HB⟩ : ∃ z, Hid (l.any (fun o => decide (stV s.e.cs o.h = 0)) = z) := ⟨_, rfl⟩
  have HL := Lib.hid hl
  have HQ := Lib.hid hq
  have HR := Lib.hid hr
  have hcaps : D = none → m = 0 := fun h0 => by
    subst h0
    match l, hm with
    | [], hm => exact hm.out.symm
    | o :: l, _ => obtain ⟨ad, h1, _⟩ := hr 0 (.int .i64 o.k) rfl; cases h1
  have hm2 : m ≤ 1000000 := hm.out ▸ hl
  rw [hm.out]
  clear hl hq hr
  go_enter Tryz.func53, Tryz.ntmps53
  go_upto_region 3 with (first
    | (refine wpl_box_v (v := .pointer (some ⟨W, 0, none⟩)) rfl hs ?_; clear hs; intro g2 w hs; replace hs : St w0 (blk g2 #[.pointer (some ⟨W, 0, none⟩)] 89 :: WoB W E A R X Q n s :: L) w := hs))
  go_loopw [5, 6, 13] (fun av bv cv wr => ∃ (k : Nat) (a b : Bool), k ≤ m ∧ av = .bool a ∧ bv = .bool b ∧ Hid ((l.take k).all (fun o => (s.kn o).1) = a) ∧ Hid ((l.take k).all (fun o => (s.kn o).2) = b) ∧ cv = .int .i64 (k : Nat) ∧ St w0 (blk g2 #[.pointer (some ⟨W, 0, none⟩)] 89 :: WoB W E A R X Q n s :: L) wr) (fun _ _ cv _ => m - (intOf cv).toNat)
  case atStart => exact ⟨0, true, true, Nat.zero_le _, rfl, rfl, rfl, rfl, rfl, hs⟩
  case round =>
    clear hs
    obtain ⟨k, a, b, hk, rfl, rfl, Ha, Hb, rfl, hs⟩ := hrel
    by_cases hlt : k < m
    · obtain ⟨o, ho⟩ : ∃ o, Hid (l[k]? = some o) := ⟨l[k]'(by rw [hm.out]; exact hlt), List.getElem?_eq_getElem _⟩
      obtain ⟨ad, rfl, hsp, _⟩ := HR.out (k * 7) (.int .i64 o.k) (flat_get c7len ho.out 0 _ rfl)
      obtain ⟨gb, off, sp⟩ := ad
      obtain rfl : sp = none := hsp
      have hrd : ∀ j u, (c7w o)[j]? = some u → Rd w0 L ⟨gb, off + k * 7 + j, none⟩ u := fun j u hu => by
        obtain ⟨ad, hh, _, h⟩ := HR.out (k * 7 + j) u (flat_get c7len ho.out j u hu)
        injection hh with hh
        subst hh
        rwa [Nat.add_assoc]
      obtain ⟨⟨a3, b3⟩, HK⟩ : ∃ z, Hid (s.kn o = z) := ⟨_, rfl⟩
      have Ha2 : Hid ((l.take (k + 1)).all (fun o => (s.kn o).1) = (a && a3)) := by rw [Hid, all_take ho.out, Ha.out, HK.out]
      have Hb2 : Hid ((l.take (k + 1)).all (fun o => (s.kn o).2) = (b && b3)) := by rw [Hid, all_take ho.out, Hb.out, HK.out]
      go_upto_region 5 with (first
        | (refine wpl_load_agg (cs := c7w o) (b := gb) (o := off + k * 7) rfl aggW (sizeW o) hs ?hh ?_; case hh => exact fun j x hx => (hrd j x hx).tail.tail)
        | (refine wpl_alloc zeroWo hs ?_; clear hs; intro g8 w hs)
        | (refine wpl_store_agg (v := valW o) rfl rfl (sizeWv o) hs WrA.slotW ?_; clear hs; intro w hs))
      clear hrd
      have c2 : World.cell? _ ⟨g2, 0, none⟩ = some (.pointer (some ⟨W, 0, none⟩)) := Rd.blk (by rfl) _ hs.drop
      go_upto_region 6 with (first
        | (refine wpl_load_agg (cs := c7w o) (b := g8) (o := 0) rfl aggW (sizeW o) hs (opW_rd o) ?_)
        | (go_at_call 105; refine (wo_knows hs.up2 o HK).mono ?_; rintro r w' ⟨rfl, hg⟩; replace hs := hs.grew hg; clear hg c2))
      replace hs := hs.drop
      cases a <;> cases b <;>
      · go_wp2
        go_roundw
        case rel => exact ⟨k + 1, _, _, by omega, rfl, rfl, Ha2, Hb2, by first | rfl | go_num, hs⟩
        case measure => simp [intOf]; omega
    · obtain rfl : k = m := by omega
      rw [← hm.out, List.take_length] at Ha Hb
      have HCA : Hid (∀ w, St w0 (blk g2 #[.pointer (some ⟨W, 0, none⟩)] 89 :: WoB W E A R X Q n s :: L) w → Calls Tryz.prog 106 #[.slice D k cap, .func (Fn.func 107) #[] #[]] w fun r w' => r = .returned (.bool a1) ∧ Grew w w') := fun w q => by
        have h := containsD_c (cap := cap) (l := l) (by have := HL.out; omega) q HR.out.tail.tail
        rw [hm.out, HA.out] at h; exact h
      have HCS : Hid (∀ w, St w0 (blk g2 #[.pointer (some ⟨W, 0, none⟩)] 89 :: WoB W E A R X Q n s :: L) w → Calls Tryz.prog 106 #[.slice D k cap, .func (Fn.func 109) #[] #[.pointer (some ⟨g2, 0, none⟩)]] w fun r w' => r = .returned (.bool a2) ∧ Grew w w') := fun w q => by
        have h := containsS_c (cap := cap) (l := l) (Ent.swap _ _ _) (Rd.blk rfl) (by have := HL.out; omega) q HR.out.tail.tail
        rw [hm.out, HB.out] at h; exact h
      cases a1
      case true =>
        have h5 := HV.out
        rw [WoS.defer_bad (WoS.defE_1 HA.out) (by decide)] at h5
        cases h5
        go_wp2_with (first
          | (go_at_call 106; refine (HCA.out _ hs).mono ?_; rintro r w' ⟨rfl, hg⟩; replace hs := hs.grew hg; clear hg)
          | (go_at_call 106; refine (HCS.out _ hs).mono ?_; rintro r w' ⟨rfl, hg⟩; replace hs := hs.grew hg; clear hg))
        go_ret
        exact ⟨rfl, hs.drop⟩
      case false =>
      cases a2
      case true =>
        have h5 := HV.out
        rw [WoS.defer_bad (WoS.defE_4 HA.out HB.out) (by decide)] at h5
        cases h5
        go_wp2_with (first
          | (go_at_call 106; refine (HCA.out _ hs).mono ?_; rintro r w' ⟨rfl, hg⟩; replace hs := hs.grew hg; clear hg)
          | (go_at_call 106; refine (HCS.out _ hs).mono ?_; rintro r w' ⟨rfl, hg⟩; replace hs := hs.grew hg; clear hg))
        go_ret
        exact ⟨rfl, hs.drop⟩
      case false =>
      cases a
      case false =>
        have h5 := HV.out
        rw [WoS.defer_bad (WoS.defE_11 HA.out HB.out Ha.out) (by decide)] at h5
        cases h5
        go_wp2_with (first
          | (go_at_call 106; refine (HCA.out _ hs).mono ?_; rintro r w' ⟨rfl, hg⟩; replace hs := hs.grew hg; clear hg)
          | (go_at_call 106; refine (HCS.out _ hs).mono ?_; rintro r w' ⟨rfl, hg⟩; replace hs := hs.grew hg; clear hg))
        go_ret
        exact ⟨rfl, hs.drop⟩
      case true =>
      cases b
      case false =>
        have h5 := HV.out
        rw [WoS.defer_bad (WoS.defE_9 HA.out HB.out Ha.out Hb.out) (by decide)] at h5
        cases h5
        go_wp2_with (first
          | (go_at_call 106; refine (HCA.out _ hs).mono ?_; rintro r w' ⟨rfl, hg⟩; replace hs := hs.grew hg; clear hg)
          | (go_at_call 106; refine (HCS.out _ hs).mono ?_; rintro r w' ⟨rfl, hg⟩; replace hs := hs.grew hg; clear hg))
        go_ret
        exact ⟨rfl, hs.drop⟩
      case true =>
        obtain ⟨y, HY⟩ : ∃ z, Hid (quE l s.q = z) := ⟨_, rfl⟩
        obtain ⟨q', HQ'⟩ : ∃ z, Hid ((if y = 0 then s.q ++ l else s.q) = z) := ⟨_, rfl⟩
        have h5 : s.defer l = (y, { s with q := q' }) := by
          have e := WoS.defE_q HA.out HB.out Ha.out Hb.out
          rw [HY.out] at e
          by_cases h0 : y = 0
          · subst h0; rw [WoS.defer_ok e, ← HQ'.out, if_pos rfl]
          · rw [WoS.defer_bad e h0, ← HQ'.out, if_neg h0]
        have h6 := HV.out
        rw [h5] at h6
        cases h6
        have HQA : Hid (∀ w, St w0 (QuB Q s.q :: blk W (woC E X Q s.held n s.e.top) 132 :: EnB E A R s.e :: ReB X s.r :: blk g2 #[.pointer (some ⟨W, 0, none⟩)] 89 :: L) w → Calls Tryz.prog 110 #[.pointer (some ⟨Q, 0, none⟩), .slice D k cap] w fun r w' => r = .returned (.int .i64 x) ∧ St w0 (QuB Q q' :: blk W (woC E X Q s.held n s.e.top) 132 :: EnB E A R s.e :: ReB X s.r :: blk g2 #[.pointer (some ⟨W, 0, none⟩)] 89 :: L) w') := fun w q => by
          have h := qadd_c (cap := cap) (l := l) HQ.out HL.out q HR.out.tail.tail.tail.tail
          rw [hm.out, HY.out, HQ'.out] at h; exact h
        clear h5 HV
        go_upto_region 16 with (first
          | (go_at_call 106; refine (HCA.out _ hs).mono ?_; rintro r w' ⟨rfl, hg⟩; replace hs := hs.grew hg; clear hg)
          | (go_at_call 106; refine (HCS.out _ hs).mono ?_; rintro r w' ⟨rfl, hg⟩; replace hs := hs.grew hg; clear hg))
        have c2 : World.cell? _ ⟨g2, 0, none⟩ = some (.pointer (some ⟨W, 0, none⟩)) := Rd.blk (by rfl) _ hs
        replace hs := hs.rot.woopen
        have kQ := Rd.blk (k := 2) (v := .pointer (some ⟨Q, 0, none⟩)) (by rfl) _ hs
        replace hs := hs.up3
        (go_wp2_with (first
          | (go_at_call 110; refine (HQA.out _ hs).mono ?_; clear hs c2 kQ; rintro r w ⟨rfl, hs⟩)))
        go_ret
        exact ⟨rfl, St.woshut (s := { s with q := q' }) ((hs.ent (M := blk g2 #[.pointer (some ⟨W, 0, none⟩)] 89 :: blk W (woC E X Q s.held n s.e.top) 132 :: EnB E A R s.e :: ReB X s.r :: QuB Q q' :: L) (by (repeat first | exact Ent.refl _ | refine Ent.step (by repeat first | exact Ent.refl _ | apply Ent.skip) ?_))).drop)⟩
end Go.Proofs.YtiafdlofcjbllaaGreatDoor
