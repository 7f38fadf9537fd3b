/-
  A world in memory (world.World): Queue, Ents, Res, New; the statements' Config.
-/
import Derived.Test.YtcnbmfaicbkhcaaGreatDoorWo6
import Derived.Test.YtcnbmfaicbkhcaaGreatDoorWoL2
import Derived.Test.YtcnbmfaicbkhcaaGreatDoorOpE
import Derived.Test.YtcnbmfaicbkhcaaGreatDoorEn5
set_option maxRecDepth 100000
namespace Go.Proofs.YtcnbmfaicbkhcaaGreatDoor
open Go Go.RowKit
attribute [local irreducible] wpList Calls Code.wp stV EnS.live EnS.slot okVal newSl descE newA cs3 errDs descsL
section
variable {w0 w : World} {L : List As} {W E A R X Q n : Nat} {s : WoS}
theorem wo_en (hs : St w0 (WoB W E A R X Q n s :: L) w) : St w0 (EnB E A R s.e :: YtcnbmfaicbkhcaaGreatDoor.blk W (woC E X Q s.held n s.e.top) 151 :: ReB X s.r :: QuB Q s.q :: L) w := hs.woopen.rot
theorem Rd.wo0 : Rd w0 (WoB W E A R X Q n s :: L) ⟨W, 0, none⟩ (.pointer (some ⟨E, 0, none⟩)) := fun w hs => Rd.blk (by rfl) w hs.woopen
theorem Rd.woe0 : Rd w0 (WoB W E A R X Q n s :: L) ⟨E, 0, none⟩ (.pointer (some ⟨A, 0, none⟩)) := fun w hs => Rd.en0 w (wo_en hs)
end
theorem build_th (E : Nat) (w : World) : (Instr.build 144 #[(0, .pointer (some ⟨E, 0, none⟩))]).run Tryz.prog w = .ok (.agg #[.pointer (some ⟨E, 0, none⟩)]) w := by kernel_rfl
theorem build_on (E : Nat) (w : World) : (Instr.build 147 #[(0, .pointer (some ⟨E, 0, none⟩))]).run Tryz.prog w = .ok (.agg #[.pointer (some ⟨E, 0, none⟩)]) w := by kernel_rfl
theorem build_wa (E : Nat) (w : World) : (Instr.build 149 #[(0, .pointer (some ⟨E, 0, none⟩))]).run Tryz.prog w = .ok (.agg #[.pointer (some ⟨E, 0, none⟩)]) w := by kernel_rfl
theorem build_wo (E X Q n : Nat) (top : Int) (w : World) : (Instr.build 151 #[(0, .agg #[.pointer (some ⟨E, 0, none⟩)]), (1, .agg #[.pointer (some ⟨X, 0, none⟩)]), (2, .agg #[.pointer (some ⟨Q, 0, none⟩)]), (4, .int .i64 (n : Nat)), (5, .int .i64 top)]).run Tryz.prog w = .ok (.agg (woC E X Q false n top)) w := by kernel_rfl
set_option maxHeartbeats 4000000 in
theorem wo_new {w0 w : World} {L : List As} (hs : St w0 L w) {n : Nat} {top : Int} (h1 : 1 ≤ n) (h2 : n ≤ 65536) (h3 : 1 ≤ top) (h4 : top ≤ 4294967295) {A : Option Addr} {m cA : Nat} {ds : List V3} (hm : Hid (ds.length = m)) (hmb : m ≤ 140737488355328) (hr : RdS w0 L A (cs3 ds)) (he : Hid (errDs 0 ds = 0))
    {B : Option Addr} {k cB : Nat} {rs : List Int} (hB : B = none → k = 0 ∧ cB = 0) (hk : Hid (rs.length = k)) (hk2 : k ≤ 32) (hkc : k ≤ cB) (hrs : RdS w0 L B (i8v rs)) :
    Calls Tryz.prog 33 #[.agg (cfC (n : Nat) top A m cA B k cB).toArray] w fun r w' => ∃ W E A1 R X Q l, Hid (NewL ds l) ∧ r = .returned (.tuple #[.pointer (some ⟨W, 0, none⟩), .int .i64 0]) ∧ St w0 (WoB W E A1 R X Q n ⟨⟨top, newA n, l⟩, [], rs, false⟩ :: L) w' := by
  have b1 := build_th
  have b2 := build_on
  have b3 := build_wa
  have b4 := build_wo
  go_enter Tryz.func33, Tryz.ntmps33
  go_upto_region 1 with (first
    | (refine wpl_box_v (v := .agg (cfC (n : Nat) top A m cA B k cB).toArray) rfl hs ?_; clear hs; intro g1 w hs; replace hs : St w0 (blk g1 (cfC (n : Nat) top A m cA B k cB).toArray 27 :: L) w := hs))
  have c0 : World.cell? _ ⟨g1, 0, none⟩ = some (.int .i64 (n : Nat)) := Rd.blk (by rfl) _ hs
  have c1 : World.cell? _ ⟨g1, 1, none⟩ = some (.int .i64 top) := Rd.blk (by rfl) _ hs
  have c2 : World.cell? _ ⟨g1, 2, none⟩ = some (.slice A m cA) := Rd.blk (by rfl) _ hs
  go_upto_region 4 with (first
    | (go_at_call 94; refine (en_new_ok hs h1 h2 h3 h4 hm hmb hr.tail he).mono ?_; clear hs c0 c1 c2; rintro r w ⟨E, A1, R, l, HNL, rfl, hs⟩))
  replace hs : St w0 (blk g1 (cfC (n : Nat) top A m cA B k cB).toArray 27 :: EnB E A1 R ⟨top, newA n, l⟩ :: L) _ := hs.ent (by (repeat first | exact Ent.refl _ | refine Ent.step (by repeat first | exact Ent.refl _ | apply Ent.skip) ?_))
  refine wp_mix 3 [0, 1, 2, 3, 8, 9, 10, 11] [4, 5, 6, 7, 12, 13, 14, 15] hs.only (by kernel_rfl) (by kernel_rfl) fun hne => ?_
  have r0 := (show Rd w0 [blk g1 (cfC (n : Nat) top A m cA B k cB).toArray 27] ⟨g1, 0, none⟩ (.int .i64 (n : Nat)) from Rd.blk (by rfl)).alln
  have r1 := (show Rd w0 [blk g1 (cfC (n : Nat) top A m cA B k cB).toArray 27] ⟨g1, 1, none⟩ (.int .i64 top) from Rd.blk (by rfl)).alln
  have r3 := (show Rd w0 [blk g1 (cfC (n : Nat) top A m cA B k cB).toArray 27] ⟨g1, 3, none⟩ (.slice B k cB) from Rd.blk (by rfl)).alln
  simp only [opsAt, List.getElem?_toArray, List.getElem?_cons_succ, List.getElem?_cons_zero]
  repeat (go_big_quiet_step (fail))
  refine wpQuiet_nil ?_
  clear hne r0 r1 r3
  replace hs := hs.drew
  refine wpMix_next [4] (by kernel_rfl) (by simp) (fun c hc => ?_)
  simp only [List.mem_singleton] at hc
  subst hc
  refine ⟨_, rfl, ?_⟩
  go_wp2_with (first
    | (go_at_call 95; refine (renew_c hs hB hk hk2 hkc hrs.tail.tail).mono ?_; clear hs; rintro r w ⟨X, rfl, hs⟩))
  replace hs : St w0 (blk g1 (cfC (n : Nat) top A m cA B k cB).toArray 27 :: EnB E A1 R ⟨top, newA n, l⟩ :: ReB X rs :: L) w := hs.ent (by (repeat first | exact Ent.refl _ | refine Ent.step (by repeat first | exact Ent.refl _ | apply Ent.skip) ?_))
  replace hs : St w0 (blk g1 (cfC (n : Nat) top A m cA B k cB).toArray 27 :: EnB E A1 R ⟨top, newA n, l⟩ :: ReB X rs :: L) w := hs.ent (by (repeat first | exact Ent.refl _ | refine Ent.step (by repeat first | exact Ent.refl _ | apply Ent.skip) ?_))
  refine mix_quiet [5] [6, 7, 12, 13, 14, 15] hs.only (by kernel_rfl) (by kernel_rfl) fun hne => ?_
  simp only [opsAt, List.getElem?_toArray, List.getElem?_cons_succ, List.getElem?_cons_zero]
  repeat (go_big_quiet_step (fail))
  refine wpQuiet_nil ?_
  clear hne
  refine wpMix_next [6] (by kernel_rfl) (by simp) (fun c hc => ?_)
  simp only [List.mem_singleton] at hc
  subst hc
  refine ⟨_, rfl, ?_⟩
  go_wp2_with (first
    | (go_at_call 31; refine (qnew_c hs).mono ?_; clear hs; rintro r w ⟨Q, rfl, hs⟩))
  replace hs : St w0 (blk g1 (cfC (n : Nat) top A m cA B k cB).toArray 27 :: EnB E A1 R ⟨top, newA n, l⟩ :: ReB X rs :: QuB Q [] :: L) w := hs.ent (by (repeat first | exact Ent.refl _ | refine Ent.step (by repeat first | exact Ent.refl _ | apply Ent.skip) ?_))
  refine mix_quiet [7, 12] [13, 14, 15] hs.only (by kernel_rfl) (by kernel_rfl) fun hne => ?_
  simp only [opsAt, List.getElem?_toArray, List.getElem?_cons_succ, List.getElem?_cons_zero]
  repeat (go_big_quiet_step (fail))
  refine wpQuiet_nil ?_
  clear hne
  refine wpMix_next [13] (by kernel_rfl) (by simp) (fun c hc => ?_)
  simp only [List.mem_singleton] at hc
  subst hc
  refine ⟨_, rfl, ?_⟩
  refine wpl_box_v (v := .agg (woC E X Q false n top)) rfl hs ?_
  clear hs
  intro W w hs
  replace hs : St w0 (blk W (woC E X Q false n top) 151 :: blk g1 (cfC (n : Nat) top A m cA B k cB).toArray 27 :: EnB E A1 R ⟨top, newA n, l⟩ :: ReB X rs :: QuB Q [] :: L) w := hs
  replace hs : St w0 (blk g1 (cfC (n : Nat) top A m cA B k cB).toArray 27 :: EnB E A1 R ⟨top, newA n, l⟩ :: ReB X rs :: QuB Q [] :: blk W (woC E X Q false n top) 151 :: L) w := hs.ent (by (repeat first | exact Ent.refl _ | refine Ent.step (by repeat first | exact Ent.refl _ | apply Ent.skip) ?_))
  refine wpList_nil ⟨rfl, ?_⟩
  refine mix_quiet [14, 15] [] hs.only (by kernel_rfl) (by kernel_rfl) fun hne => ?_
  simp only [opsAt, List.getElem?_toArray, List.getElem?_cons_succ, List.getElem?_cons_zero]
  try simp only [Act.put, List.setIfInBounds_toArray, List.set_cons_succ, List.set_cons_zero]
  repeat (go_big_quiet_step (fail))
  refine wpQuiet_nil ?_
  clear hne
  refine wpMix_end ?_
  go_wp2
  go_ret2
  exact ⟨W, E, A1, R, X, Q, l, HNL, rfl, St.woshut (s := ⟨⟨top, newA n, l⟩, [], rs, false⟩) (hs.ent (M := blk W (woC E X Q false n top) 151 :: EnB E A1 R ⟨top, newA n, l⟩ :: ReB X rs :: QuB Q [] :: blk g1 (cfC (n : Nat) top A m cA B k cB).toArray 27 :: L) (by (repeat first | exact Ent.refl _ | refine Ent.step (by repeat first | exact Ent.refl _ | apply Ent.skip) ?_))) |> fun h => h.rot.drop⟩
--END--
end Go.Proofs.YtcnbmfaicbkhcaaGreatDoor
