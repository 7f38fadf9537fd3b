/-
  Things with parts (ent.Ents), 7: the statements' own awake.
-/
import Derived.Test.YtiafdlofcjbllaaGreatDoorEn5
set_option maxRecDepth 100000
namespace Go.Proofs.YtiafdlofcjbllaaGreatDoor
open Go Go.RowKit
/-- What the calls of awake come to. -/
structure Awk15 (l : List Cmp) (c1 : List ACell) (s2 s3 : EnS) : Prop where
  cr : giveV 1 (newA 5) = ((0, 1), 0, c1)
  ins : (EnS.mk 3 c1 l).ins (0, 1) 0 ⟨1, 7, 0⟩ = (V3.z, false, 0, s2)
  get : s2.get (0, 1) 0 = (⟨1, 7, 0⟩, 0)
  del : s2.del (0, 1) = (1, 0, s3)
  get2 : s3.get (0, 1) 0 = (V3.z, 4)
  ev1 : EvL 0 l
  ev2 : EvL 1 s2.l
theorem awk15 (X : Nat) (v : Value) (F : Option Nat) : ∃ c1 s2 s3, Awk15 [(X, newSl ⟨1, 1, 0⟩ v F)] c1 s2 s3 := by
  have h0 : EvL 0 [(X, newSl ⟨1, 1, 0⟩ v F)] := fun x hx => by
    simp only [List.mem_singleton] at hx
    rw [hx]; exact Nat.le_refl _
  refine ⟨(newA 5).set 0 (1, 1), ((EnS.mk 3 ((newA 5).set 0 (1, 1)) [(X, newSl ⟨1, 1, 0⟩ v F)]).ins (0, 1) 0 ⟨1, 7, 0⟩).2.2.2, (((EnS.mk 3 ((newA 5).set 0 (1, 1)) [(X, newSl ⟨1, 1, 0⟩ v F)]).ins (0, 1) 0 ⟨1, 7, 0⟩).2.2.2.del (0, 1)).2.2, ⟨by kernel_rfl, by kernel_rfl, by kernel_rfl, by kernel_rfl, by kernel_rfl, h0, ?_⟩⟩
  have h1 := EvL.ins (s := EnS.mk 3 ((newA 5).set 0 (1, 1)) [(X, newSl ⟨1, 1, 0⟩ v F)]) (h := (0, 1)) (c := 0) (v := ⟨1, 7, 0⟩) h0
  exact h1
theorem newL_one {d : V3} {l : List Cmp} (h : NewL [d] l) : ∃ X v F, l = [(X, newSl d v F)] := by
  have h1 := h.len
  match l, h1 with
  | [x], _ =>
    obtain ⟨d', v, F, h2, h3⟩ := h.at_ 0 x rfl
    simp only [List.getElem?_cons_zero, Option.some.injEq] at h2
    subst h2
    exact ⟨x.1, v, F, by rw [← h3]⟩
theorem build_d11 (w : World) : (Instr.build 97 #[(0, .int .i64 1), (1, .int .i64 1)]).run Tryz.prog w = .ok (val3 ⟨1, 1, 0⟩) w := by kernel_rfl
theorem build_v17 (w : World) : (Instr.build 38 #[(0, .int .i64 1), (1, .int .i64 7)]).run Tryz.prog w = .ok (val3 ⟨1, 7, 0⟩) w := by kernel_rfl
theorem cs3_one (d : V3) : cs3 [d] = c3 d := rfl
theorem err_one : errDs 0 [⟨1, 1, 0⟩] = 0 := rfl
attribute [local irreducible] wpList Calls Code.wp okI okN pS tS memS getG pG insS delS getV pV tV okVal newSl SlS.put SlS.err SlS.putU SlS.putB descE SlS.take SlS.set SlS.errSet SlS.get SlS.has stV EnS.live EnS.get EnS.slot EnS.ins EnS.set EnS.rem EnS.parts EnS.del ofN strL delA newA giveV cs3 errDs
set_option maxHeartbeats 4000000 in
theorem awake15 {w5 : World} (hT : Tab w5) : Calls Tryz.prog 15 #[] w5 fun r w' => r = .returned (.bool true) ∧ Grew w5 w' := by
  have hs := St.start w5
  have hm1 : Hid (([⟨1, 1, 0⟩] : List V3).length = 1) := rfl
  go_enter Tryz.func15, Tryz.ntmps15
  go_upto_region 4 with (first
    | (refine wpl_buildS build_d11 rfl ?_)
    | (refine wpl_build1 (v := val3 ⟨1, 1, 0⟩) elemDs (by decide) rfl rfl hs ?_; clear hs; intro G w1 hs; replace hs : St w5 [blk G (c3 ⟨1, 1, 0⟩).toArray 97] w1 := hs)
    | (go_at_call 14; refine (en_new_ok (n := 5) (top := 3) hs (by decide) (by decide) (by decide) (by decide) (ds := [⟨1, 1, 0⟩]) (m := 1) hm1 (by decide) (by rw [cs3_one]; exact RdS.blk) err_one).mono ?_; clear hs; rintro r w ⟨E, A, R, l, HNL, rfl, hs⟩))
  obtain ⟨X, v, F, rfl⟩ := newL_one HNL.out
  obtain ⟨c1, s2, s3, HK⟩ := awk15 X v F
  have HK := Lib.hid HK
  clear HNL
  have k0 := Rd.en0 _ hs
  go_upto_region 6 with (first
    | (go_at_call 19; refine (en_create (s := EnS.mk 3 (newA 5) [(X, newSl ⟨1, 1, 0⟩ v F)]) hT hs (Lib.hid HK.out.cr)).mono ?_; clear hs k0; rintro r w ⟨rfl, hs⟩)
    | (refine wpl_alloc zeroH hs ?_; clear hs; intro g3 w hs)
    | (refine wpl_store_agg (v := hv (0, 1)) rfl rfl (by rw [sizeHd]; rfl) hs WrA.slotH ?_; clear hs; intro w hs)
    | (refine wpl_buildS build_v17 rfl ?_)
    | (refine wpl_alloc zero3 hs ?_; clear hs; intro g5 w hs)
    | (refine wpl_store_agg (v := val3 ⟨1, 7, 0⟩) rfl rfl (size3 _) hs WrA.slot3 ?_; clear hs; intro w hs))
  obtain ⟨s1, HS1⟩ : ∃ z, Hid (EnS.mk 3 c1 [(X, newSl ⟨1, 1, 0⟩ v F)] = z) := ⟨_, rfl⟩
  have HI : Hid (s1.ins (0, 1) 0 ⟨1, 7, 0⟩ = (V3.z, false, 0, s2)) := by rw [Hid, ← HS1.out]; exact HK.out.ins
  have HE1 : Hid (EvL 0 s1.l) := by rw [Hid, ← HS1.out]; exact HK.out.ev1
  have HG := Lib.hid HK.out.get
  have HD := Lib.hid HK.out.del
  have HG2 := Lib.hid HK.out.get2
  have HE2 := Lib.hid HK.out.ev2
  replace hs : St w5 [EnB E A R s1, blk g3 (h2 (0, 1)).toArray 40, blk g5 (c3 ⟨1, 7, 0⟩).toArray 38, blk G (c3 ⟨1, 1, 0⟩).toArray 97] w := by rw [← HS1.out]; exact hs.ent (by (repeat first | exact Ent.refl _ | refine Ent.step (by repeat first | exact Ent.refl _ | apply Ent.skip) ?_))
  clear HK HS1
  go_upto_region 7 with (first
    | (refine wpl_load_agg (cs := h2 (0, 1)) (b := g3) (o := 0) rfl aggH (sizeHd _) hs ?hh ?_; case hh => exact fun j x hx => (Rd.blk (by simpa using hx)).tail)
    | (refine wpl_load3 (v := ⟨1, 7, 0⟩) (g := g5) rfl (has3_tail (has3_tail (has3_slot (t := 38)))) agg3 size3n hs ?_)
    | (go_at_call 25; refine (en_ins (h := (0, 1)) hs (HE1.out.lt (by decide)) HI).mono ?_; clear hs; rintro r w ⟨rfl, hs⟩)
    | (refine wpl_alloc zero3 hs ?_; clear hs; intro g6 w hs)
    | (refine wpl_store_agg (v := val3 V3.z) rfl rfl (size3 _) hs WrA.slot3 ?_; clear hs; intro w hs; replace hs := hs.drop))
  go_upto_region 8 with (first
    | (refine wpl_load_agg (cs := h2 (0, 1)) (b := g3) (o := 0) rfl aggH (sizeHd _) hs ?hh ?_; case hh => exact fun j x hx => (Rd.blk (by simpa using hx)).tail)
    | (go_at_call 29; refine (en_get (h := (0, 1)) hs HG).mono ?_; clear hs; rintro r w ⟨rfl, hs⟩)
    | (refine wpl_alloc zero3 hs ?_; clear hs; intro g9 w hs)
    | (refine wpl_store_agg (v := val3 ⟨1, 7, 0⟩) rfl rfl (size3 _) hs WrA.slot3 ?_; clear hs; intro w hs))
  replace hs : St w5 [EnB E A R s2, blk g3 (h2 (0, 1)).toArray 40, blk g5 (c3 ⟨1, 7, 0⟩).toArray 38, blk g9 (c3 ⟨1, 7, 0⟩).toArray 38, blk G (c3 ⟨1, 1, 0⟩).toArray 97] w := hs.ent (by (repeat first | exact Ent.refl _ | refine Ent.step (by repeat first | exact Ent.refl _ | apply Ent.skip) ?_))
  go_upto_region 10 with (first
    | (refine wpl_load_agg (cs := h2 (0, 1)) (b := g3) (o := 0) rfl aggH (sizeHd _) hs ?hh ?_; case hh => exact fun j x hx => (Rd.blk (by simpa using hx)).tail)
    | (go_at_call 23; refine (en_del (h := (0, 1)) hs (HE2.out.lt (by decide)) HD).mono ?_; clear hs; rintro r w ⟨rfl, hs⟩)
    | (go_at_call 29; refine (en_get (h := (0, 1)) hs HG2).mono ?_; clear hs; rintro r w ⟨rfl, hs⟩)
    | (refine wpl_alloc zero3 hs ?_; clear hs; intro g13 w hs)
    | (refine wpl_store_agg (v := val3 V3.z) rfl rfl (size3 _) hs WrA.slot3 ?_; clear hs; intro w hs; replace hs := hs.drop))
  obtain ⟨p0, p1, p2⟩ := Has3.facts (has3_tail (has3_tail (has3_slot (g := g5) (v := ⟨1, 7, 0⟩) (t := 38)))) hs
  obtain ⟨q0, q1, q2⟩ := Has3.facts (has3_tail (has3_tail (has3_tail (has3_slot (g := g9) (v := ⟨1, 7, 0⟩) (t := 38))))) hs
  go_wp2
  go_ret
  exact ⟨rfl, hs.made_grew⟩
end Go.Proofs.YtiafdlofcjbllaaGreatDoor
