/-
  Components (reg.Reg), 5: Descs.
-/
import Derived.Test.YtmdjpeblbnbjmaaRg4
set_option maxRecDepth 100000
namespace Go.Proofs.Ytmdjpeblbnbjmaa
open Go Go.RowKit
attribute [local irreducible] wpList Calls Code.wp okI okN pS tS memS getG pG insS delS getV pV tV okVal newSl SlS.put SlS.err SlS.putU SlS.putB descE SlS.take

theorem elemDs : ElemOk Try.prog 45 28 3 24 := ElemOk.of Try.underlying45 (z := val3 V3.z) (by kernel_rfl) rfl (by decide)
def dsOf (l : List Cmp) : List V3 := l.map fun x => x.2.d
theorem rg_desc_v {w0 w : World} {L : List As} {R c X : Nat} {l : List Cmp} {s : SlS} (hs : St w0 (RgB R l :: L) w) (hc : Hid (l[c]? = some (X, s))) {d : V3} (hd : Hid (s.d = d)) :
    Calls Try.prog 42 #[.pointer (some ⟨X, 0, none⟩)] w fun r w' => r = .returned (val3 d) ∧ Grew w w' := rg_desc hs hc hd
set_option maxHeartbeats 2000000 in
theorem rg_descs {w0 w : World} {L : List As} {R : Nat} {l : List Cmp} (hs : St w0 (RgB R l :: L) w) :
    Calls Try.prog 23 #[.pointer (some ⟨R, 0, none⟩)] w fun e w' => ∃ B cap, e = .returned (.slice B l.length cap) ∧ St w0 (own B l.length cap 28 3 (cs3 (dsOf l)) :: RgB R l :: L) w' := by
  obtain ⟨hle, A, cap, hs⟩ := hs.rgopen
  obtain ⟨n, hn⟩ : ∃ n, Hid (l.length = n) := ⟨_, rfl⟩
  rw [hn.out] at hs hle ⊢
  have hr := Rd.rg0 _ hs
  go_enter Try.func23, Try.ntmps23
  go_wp2
  clear hr
  go_loopw [3, 11] (fun bv cv wr => ∃ (k cB : Nat) (B : Option Addr), k ≤ n ∧ bv = .slice B k cB ∧ cv = .int .i64 (k : Nat) ∧ St w0 (own B k cB 28 3 (cs3 ((dsOf l).take k)) :: blk R (rgC A n cap) 85 :: own A n cap 87 1 (rgP l) :: Sls l :: L) wr) (fun _ cv _ => n - (intOf cv).toNat)
  case atStart => exact ⟨0, 0, none, Nat.zero_le _, rfl, rfl, hs.own_nil _ _⟩
  case round =>
    clear hs
    obtain ⟨k, cB, B, hk, rfl, rfl, hs⟩ := hrel
    by_cases hlt : k < n
    · obtain ⟨x, hx⟩ : ∃ x, l[k]? = some x := ⟨_, List.getElem?_eq_getElem (by rw [hn.out]; exact hlt)⟩
      obtain ⟨X, s⟩ := x
      obtain ⟨gA, rfl⟩ := (hs.up2).own_at (by omega)
      have hrx := ((Rd.own (w0 := w0) (g := gA) (n := n) (cap := cap) (e := 87) (size := 1) (L := Sls l :: L) (rgP_get hx)).tail (p := blk R (rgC (some ⟨gA, 0, none⟩) n cap) 85)).tail (p := own B k cB 28 3 (cs3 ((dsOf l).take k)))
      have HX := Lib.hid hx
      obtain ⟨d, hd⟩ : ∃ u, Hid (s.d = u) := ⟨_, rfl⟩
      have HT : Hid (cs3 ((dsOf l).take (k + 1)) = cs3 ((dsOf l).take k) ++ c3 d) := by
        have h1 : (dsOf l)[k]? = some d := by unfold dsOf; rw [List.getElem?_map, hx, ← hd.out]; rfl
        obtain ⟨h2, h3⟩ := List.getElem?_eq_some_iff.1 h1
        rw [Hid, List.take_succ_eq_append_getElem h2, h3, cs3_append]
        congr 1
        all_goals simp [cs3]
      have hcx := hrx _ hs
      clear hx
      go_upto_region 5 with (first
        | (refine wpl_alloc zeroRow hs ?_; clear hs; intro g5 w hs)
        | (refine wpl_store_agg (v := .agg #[.pointer (some ⟨X, 0, none⟩)]) rfl rfl (sizeRowV X) hs WrA.row ?_; clear hs; intro w hs))
      replace hs : St w0 (SlB X s :: SlsBut l k :: blk g5 #[.pointer (some ⟨X, 0, none⟩)] 87 :: own B k cB 28 3 (cs3 ((dsOf l).take k)) :: blk R (rgC (some ⟨gA, 0, none⟩) n cap) 85 :: own (some ⟨gA, 0, none⟩) n cap 87 1 (rgP l) :: L) w :=
        (St.slsOut HX.out (hs.ent (M := Sls l :: blk g5 #[.pointer (some ⟨X, 0, none⟩)] 87 :: own B k cB 28 3 (cs3 ((dsOf l).take k)) :: blk R (rgC (some ⟨gA, 0, none⟩) n cap) 85 :: own (some ⟨gA, 0, none⟩) n cap 87 1 (rgP l) :: L) (by (repeat first | exact Ent.refl _ | refine Ent.step (by first | exact Ent.refl _ | exact Ent.skip (Ent.refl _) | exact Ent.skip (Ent.skip (Ent.refl _)) | exact Ent.skip (Ent.skip (Ent.skip (Ent.refl _))) | exact Ent.skip (Ent.skip (Ent.skip (Ent.skip (Ent.refl _)))) | exact Ent.skip (Ent.skip (Ent.skip (Ent.skip (Ent.skip (Ent.refl _))))) | exact Ent.skip (Ent.skip (Ent.skip (Ent.skip (Ent.skip (Ent.skip (Ent.refl _)))))) | exact Ent.skip (Ent.skip (Ent.skip (Ent.skip (Ent.skip (Ent.skip (Ent.skip (Ent.refl _))))))) | exact Ent.skip (Ent.skip (Ent.skip (Ent.skip (Ent.skip (Ent.skip (Ent.skip (Ent.skip (Ent.refl _)))))))) | exact Ent.skip (Ent.skip (Ent.skip (Ent.skip (Ent.skip (Ent.skip (Ent.skip (Ent.skip (Ent.skip (Ent.refl _)))))))))) ?_))))
      have hc5 := (Rd.blk (w0 := w0) (g := g5) (k := 0) (cs := #[.pointer (some ⟨X, 0, none⟩)]) (t := 87) (L := own B k cB 28 3 (cs3 ((dsOf l).take k)) :: blk R (rgC (some ⟨gA, 0, none⟩) n cap) 85 :: own (some ⟨gA, 0, none⟩) n cap 87 1 (rgP l) :: L) (v := .pointer (some ⟨X, 0, none⟩)) rfl) _ hs.drop.drop
      go_wp2_with (first
        | (go_at_call 42; refine (sl_desc hs).mono ?_; rw [hd.out]; rintro r w ⟨rfl, hg⟩; replace hs := (St.slsBack HX.out (hs.grew hg)).rot.drop; clear hg hc5)
        | (refine wpl_build1 (v := val3 d) elemDs (by decide) rfl rfl hs ?_; clear hs; intro G w hs)
        | (refine wpl_append (A := B) (n := k) (cap := cB) (xs := cs3 ((dsOf l).take k)) (m := 1) (news := c3 d) elemDs rfl rfl hs (L' := blk G (c3 d).toArray 28 :: Sls l :: blk R (rgC (some ⟨gA, 0, none⟩) n cap) 85 :: own (some ⟨gA, 0, none⟩) n cap 87 1 (rgP l) :: L) (by (repeat first | exact Ent.refl _ | refine Ent.step (by first | exact Ent.refl _ | exact Ent.skip (Ent.refl _) | exact Ent.skip (Ent.skip (Ent.refl _)) | exact Ent.skip (Ent.skip (Ent.skip (Ent.refl _))) | exact Ent.skip (Ent.skip (Ent.skip (Ent.skip (Ent.refl _)))) | exact Ent.skip (Ent.skip (Ent.skip (Ent.skip (Ent.skip (Ent.refl _))))) | exact Ent.skip (Ent.skip (Ent.skip (Ent.skip (Ent.skip (Ent.skip (Ent.refl _)))))) | exact Ent.skip (Ent.skip (Ent.skip (Ent.skip (Ent.skip (Ent.skip (Ent.skip (Ent.refl _))))))) | exact Ent.skip (Ent.skip (Ent.skip (Ent.skip (Ent.skip (Ent.skip (Ent.skip (Ent.skip (Ent.refl _)))))))) | exact Ent.skip (Ent.skip (Ent.skip (Ent.skip (Ent.skip (Ent.skip (Ent.skip (Ent.skip (Ent.skip (Ent.refl _)))))))))) ?_)) RdS.blk rfl (one3 _) (by unfold maxLen; omega) (by omega) ?_; clear hs; intro B3 cap3 w hs; rw [← HT.out] at hs; replace hs := hs.rot.drop))
      have hs6 : St w0 (own B3 (k + 1) cap3 28 3 (cs3 ((dsOf l).take (k + 1))) :: blk R (rgC (some ⟨gA, 0, none⟩) n cap) 85 :: own (some ⟨gA, 0, none⟩) n cap 87 1 (rgP l) :: Sls l :: L) w := hs.ent (by (repeat first | exact Ent.refl _ | refine Ent.step (by first | exact Ent.refl _ | exact Ent.skip (Ent.refl _) | exact Ent.skip (Ent.skip (Ent.refl _)) | exact Ent.skip (Ent.skip (Ent.skip (Ent.refl _))) | exact Ent.skip (Ent.skip (Ent.skip (Ent.skip (Ent.refl _)))) | exact Ent.skip (Ent.skip (Ent.skip (Ent.skip (Ent.skip (Ent.refl _))))) | exact Ent.skip (Ent.skip (Ent.skip (Ent.skip (Ent.skip (Ent.skip (Ent.refl _)))))) | exact Ent.skip (Ent.skip (Ent.skip (Ent.skip (Ent.skip (Ent.skip (Ent.skip (Ent.refl _))))))) | exact Ent.skip (Ent.skip (Ent.skip (Ent.skip (Ent.skip (Ent.skip (Ent.skip (Ent.skip (Ent.refl _)))))))) | exact Ent.skip (Ent.skip (Ent.skip (Ent.skip (Ent.skip (Ent.skip (Ent.skip (Ent.skip (Ent.skip (Ent.refl _)))))))))) ?_))
      go_roundw
      case rel => exact ⟨k + 1, cap3, B3, by omega, by first | rfl | go_num, by first | rfl | go_num, hs6⟩
      case measure => simp [intOf] <;> omega
    · obtain rfl : k = n := by omega
      have HT : Hid ((dsOf l).take k = dsOf l) := List.take_of_length_le (by unfold dsOf; rw [List.length_map, hn.out]; exact Nat.le_refl _)
      rw [HT.out] at hs
      go_wp2
      go_ret
      exact ⟨B, cB, rfl, (hs.dn3.rgshut (by rw [hn.out]; exact hle) hn.out.symm rfl).rot⟩
end Go.Proofs.Ytmdjpeblbnbjmaa
