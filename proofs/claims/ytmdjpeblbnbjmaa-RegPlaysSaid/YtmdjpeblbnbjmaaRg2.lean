/-
  Components (reg.Reg), 2: Add, Of.
-/
import Derived.Test.YtmdjpeblbnbjmaaRg
set_option maxRecDepth 100000
namespace Go.Proofs.Ytmdjpeblbnbjmaa
open Go Go.RowKit
attribute [local irreducible] wpList Calls Code.wp okI okN pS tS memS getG pG insS delS getV pV tV okVal newSl SlS.put SlS.err SlS.putU SlS.putB descE SlS.take

theorem rg_add_no {w0 w : World} {L : List As} {R : Nat} {l : List Cmp} (hs : St w0 (RgB R l :: L) w) (d : V3) {e : Int} (he : Hid (rgE l d = e)) (h0 : e ≠ 0) :
    Calls Try.prog 11 #[.pointer (some ⟨R, 0, none⟩), val3 d] w fun r w' => r = .returned (.tuple #[.int .i64 0, .int .i64 e]) ∧ St w0 (RgB R l :: L) w' := by
  obtain ⟨hle, A, cap, hs⟩ := hs.rgopen
  have hr := fun L => Rd.rg0 (w0 := w0) (R := R) (A := A) (n := l.length) (cap := cap) (t := 85) (L := L)
  by_cases hd : descE d = 0
  · have h1 := he.out
    unfold rgE at h1
    rw [if_pos hd] at h1
    have h64 : 64 ≤ l.length := by
      by_cases h : 64 ≤ l.length
      · exact h
      · rw [if_neg h] at h1; exact absurd h1.symm h0
    rw [if_pos h64] at h1
    subst h1
    have HD := Lib.hid hd
    have hlen : l.length = 64 := by omega
    clear hd he h0 h64
    go_enter Try.func11, Try.ntmps11
    go_upto_region 2 with (first
      | (refine wpl_box_v (v := val3 d) rfl hs ?_; clear hs; intro g3 w hs)
      | (refine wpl_load3 (v := d) rfl (has3_slot (t := 28)) agg3D (size3Dn (v := V3.z)) hs ?_)
      | (go_at_call 15; refine (sl_new hs d HD).mono ?_; clear hs; rintro r w ⟨X, v, F, rfl, hs⟩))
    have hc := hr _ _ hs.drop.drop
    rw [hlen] at hc
    have HL := Lib.hid hlen
    clear hlen hle
    go_wp2
    go_ret2
    exact ⟨rfl, hs.drop.drop.rgshut (by rw [HL.out]; decide) rfl rfl⟩
  · have h1 := he.out
    unfold rgE at h1
    rw [if_neg hd] at h1
    have HD : Hid (descE d = e) := h1
    have d0 : (e == 0) = false := by simpa using h0
    clear he hd h1
    go_enter Try.func11, Try.ntmps11
    go_wp2_with (first
      | (refine wpl_box_v (v := val3 d) rfl hs ?_; clear hs; intro g3 w hs)
      | (refine wpl_load3 (v := d) rfl (has3_slot (t := 28)) agg3D (size3Dn (v := V3.z)) hs ?_)
      | (go_at_call 15; refine (sl_new_no d HD h0).mono ?_; rintro r w ⟨rfl, hg⟩; replace hs := hs.grew hg; clear hg))
    go_ret2
    exact ⟨rfl, hs.drop.rgshut hle rfl rfl⟩
set_option maxHeartbeats 1000000 in
theorem rg_add {w0 w : World} {L : List As} {R : Nat} {l : List Cmp} (hs : St w0 (RgB R l :: L) w) (d : V3) (he : Hid (rgE l d = 0)) {n : Nat} (hn : Hid (l.length = n)) :
    Calls Try.prog 11 #[.pointer (some ⟨R, 0, none⟩), val3 d] w fun r w' => ∃ X v F, r = .returned (.tuple #[.int .i64 (n : Nat), .int .i64 0]) ∧ St w0 (RgB R (l ++ [(X, newSl d v F)]) :: L) w' := by
  obtain ⟨hle, A, cap, hs⟩ := hs.rgopen
  have h1 := he.out
  unfold rgE at h1
  have HD : Hid (descE d = 0) := by
    by_cases hd : descE d = 0
    · exact hd
    · rw [if_neg hd] at h1; exact absurd h1 hd
  rw [if_pos HD.out] at h1
  have h64 : l.length < 64 := by
    by_cases h : 64 ≤ l.length
    · rw [if_pos h] at h1; cases h1
    · omega
  rw [hn.out] at hs h64
  have hr := fun L => Rd.rg0 (w0 := w0) (R := R) (A := A) (n := n) (cap := cap) (t := 85) (L := L)
  clear h1 he hle
  go_enter Try.func11, Try.ntmps11
  go_upto_region 2 with (first
    | (refine wpl_box_v (v := val3 d) rfl hs ?_; clear hs; intro g3 w hs)
    | (refine wpl_load3 (v := d) rfl (has3_slot (t := 28)) agg3D (size3Dn (v := V3.z)) hs ?_)
    | (go_at_call 15; refine (sl_new hs d HD).mono ?_; clear hs; rintro r w ⟨X, v, F, rfl, hs⟩))
  replace hs : St w0 (blk R (rgC A n cap) 85 :: own A n cap 87 1 (rgP l) :: SlB X (newSl d v F) :: Sls l :: L) w := (hs.rot.drop).ent (by (repeat first | exact Ent.refl _ | refine Ent.step (by first | exact Ent.refl _ | exact Ent.skip (Ent.refl _) | exact Ent.skip (Ent.skip (Ent.refl _)) | exact Ent.skip (Ent.skip (Ent.skip (Ent.refl _))) | exact Ent.skip (Ent.skip (Ent.skip (Ent.skip (Ent.refl _)))) | exact Ent.skip (Ent.skip (Ent.skip (Ent.skip (Ent.skip (Ent.refl _))))) | exact Ent.skip (Ent.skip (Ent.skip (Ent.skip (Ent.skip (Ent.skip (Ent.refl _)))))) | exact Ent.skip (Ent.skip (Ent.skip (Ent.skip (Ent.skip (Ent.skip (Ent.skip (Ent.refl _))))))) | exact Ent.skip (Ent.skip (Ent.skip (Ent.skip (Ent.skip (Ent.skip (Ent.skip (Ent.skip (Ent.refl _)))))))) | exact Ent.skip (Ent.skip (Ent.skip (Ent.skip (Ent.skip (Ent.skip (Ent.skip (Ent.skip (Ent.skip (Ent.refl _)))))))))) ?_))
  have hc := hr _ _ hs
  go_upto_region 7 with (first
    | (refine wpl_buildS (build_row X) rfl ?_)
    | (refine wpl_build1 (v := .agg #[.pointer (some ⟨X, 0, none⟩)]) elemRow (by decide) rfl rfl hs ?_; clear hs hc; intro G w hs)
    | (refine wpl_append (A := A) (n := n) (cap := cap) (xs := rgP l) (m := 1) (news := [.pointer (some ⟨X, 0, none⟩)]) elemRow rfl rfl hs (L' := blk G (Value.agg #[.pointer (some ⟨X, 0, none⟩)]).cells 87 :: blk R (rgC A n cap) 85 :: SlB X (newSl d v F) :: Sls l :: L) (by (repeat first | exact Ent.refl _ | refine Ent.step (by first | exact Ent.refl _ | exact Ent.skip (Ent.refl _) | exact Ent.skip (Ent.skip (Ent.refl _)) | exact Ent.skip (Ent.skip (Ent.skip (Ent.refl _))) | exact Ent.skip (Ent.skip (Ent.skip (Ent.skip (Ent.refl _)))) | exact Ent.skip (Ent.skip (Ent.skip (Ent.skip (Ent.skip (Ent.refl _))))) | exact Ent.skip (Ent.skip (Ent.skip (Ent.skip (Ent.skip (Ent.skip (Ent.refl _)))))) | exact Ent.skip (Ent.skip (Ent.skip (Ent.skip (Ent.skip (Ent.skip (Ent.skip (Ent.refl _))))))) | exact Ent.skip (Ent.skip (Ent.skip (Ent.skip (Ent.skip (Ent.skip (Ent.skip (Ent.skip (Ent.refl _)))))))) | exact Ent.skip (Ent.skip (Ent.skip (Ent.skip (Ent.skip (Ent.skip (Ent.skip (Ent.skip (Ent.skip (Ent.refl _)))))))))) ?_)) RdS.blk rfl (by simp; rfl) (by unfold maxLen; omega) (by omega) ?_; clear hs; intro B3 cap3 w hs; replace hs : St w0 (blk R (rgC A n cap) 85 :: own B3 (n + 1) cap3 87 1 (rgP l ++ [.pointer (some ⟨X, 0, none⟩)]) :: SlB X (newSl d v F) :: Sls l :: L) w := (hs.rot.drop).ent (by (repeat first | exact Ent.refl _ | refine Ent.step (by first | exact Ent.refl _ | exact Ent.skip (Ent.refl _) | exact Ent.skip (Ent.skip (Ent.refl _)) | exact Ent.skip (Ent.skip (Ent.skip (Ent.refl _))) | exact Ent.skip (Ent.skip (Ent.skip (Ent.skip (Ent.refl _)))) | exact Ent.skip (Ent.skip (Ent.skip (Ent.skip (Ent.skip (Ent.refl _))))) | exact Ent.skip (Ent.skip (Ent.skip (Ent.skip (Ent.skip (Ent.skip (Ent.refl _)))))) | exact Ent.skip (Ent.skip (Ent.skip (Ent.skip (Ent.skip (Ent.skip (Ent.skip (Ent.refl _))))))) | exact Ent.skip (Ent.skip (Ent.skip (Ent.skip (Ent.skip (Ent.skip (Ent.skip (Ent.skip (Ent.refl _)))))))) | exact Ent.skip (Ent.skip (Ent.skip (Ent.skip (Ent.skip (Ent.skip (Ent.skip (Ent.skip (Ent.skip (Ent.refl _)))))))))) ?_)))
    | (refine wpl_store rfl rfl rfl sizeRows hs (Wr.rg0 (A' := B3) (n' := n + 1) (cap' := cap3)) ?_; clear hs; intro w hs))
  have hc := Rd.rg0 _ hs
  go_wp2
  go_ret2
  refine ⟨X, v, F, by go_num, ?_⟩
  have h1 : (l ++ [(X, newSl d v F)]).length = n + 1 := by rw [List.length_append, hn.out]; rfl
  have h2 : rgP (l ++ [(X, newSl d v F)]) = rgP l ++ [.pointer (some ⟨X, 0, none⟩)] := rgP_append _ _
  exact St.rgshut (l := l ++ [(X, newSl d v F)]) (by rw [h1]; exact h64) h1.symm h2.symm (hs.ent (Ent.cons _ (Ent.cons _ Ent.slsAdd)))
theorem intsN_append (a b : List Nat) : (a ++ b).map (fun c : Nat => Value.int .i64 (c : Nat)) = a.map (fun c : Nat => Value.int .i64 (c : Nat)) ++ b.map (fun c : Nat => Value.int .i64 (c : Nat)) := List.map_append
def nsV (l : List Nat) : List Value := l.map fun c => .int .i64 (c : Nat)
theorem nsV_len (l : List Nat) : (nsV l).length = l.length := by simp [nsV]
theorem elemN : ElemOk Try.prog 46 3 1 8 := ElemOk.of Try.underlying46 (z := .int .i64 0) (by kernel_rfl) rfl (by decide)
theorem zeroRow : (Try.prog.info? 87).bind (·.zero) = some (.agg #[.pointer none]) := by kernel_rfl
theorem aggRow : aggB Try.prog 87 = true := by kernel_rfl
theorem sizeRowV (X : Nat) : (Try.prog.info? 87).map (·.size) = some (Value.agg #[.pointer (some ⟨X, 0, none⟩)]).cells.size := by kernel_rfl
theorem sizeRow1 (X : Nat) : (Try.prog.info? 87).map (·.size) = some [Value.pointer (some ⟨X, 0, none⟩)].length := by kernel_rfl
theorem WrA.row {w0 : World} {g X : Nat} {t : TypeId} {L : List As} {u : Value} : WrA w0 (Ytmdjpeblbnbjmaa.blk g #[u] t :: L) ⟨g, 0, none⟩ (Value.agg #[.pointer (some ⟨X, 0, none⟩)]).cells.toList (Ytmdjpeblbnbjmaa.blk g #[.pointer (some ⟨X, 0, none⟩)] t :: L) := by
  have := WrA.blk (w0 := w0) (g := g) (o := 0) (cs := [u]) (t := t) (vs := [.pointer (some ⟨X, 0, none⟩)]) (L := L) (by simp) (by simp; rfl)
  exact this
set_option maxHeartbeats 2000000 in
theorem rg_of {w0 w : World} {L : List As} {R : Nat} {l : List Cmp} (hs : St w0 (RgB R l :: L) w) {i : Int} (hi : (Lit.int .i64 i).wf = true) {o : List Nat} (ho : Hid (ofN l i l.length = o)) :
    Calls Try.prog 28 #[.pointer (some ⟨R, 0, none⟩), .int .i64 i] w fun e w' => ∃ B m cap, Hid (o.length = m) ∧ e = .returned (.slice B m cap) ∧ St w0 (own B m cap 3 1 (nsV o) :: RgB R l :: L) w' := by
  obtain ⟨hle, A, cap, hs⟩ := hs.rgopen
  obtain ⟨n, hn⟩ : ∃ n, Hid (l.length = n) := ⟨_, rfl⟩
  rw [hn.out] at hs hle ho
  have hr := Rd.rg0 _ hs
  go_enter Try.func28, Try.ntmps28
  go_wp2
  clear hr
  go_loopw [5, 15] (fun bv cv wr => ∃ (k m cB : Nat) (B : Option Addr), k ≤ n ∧ Hid ((ofN l i k).length = m) ∧ bv = .slice B m cB ∧ cv = .int .i64 (k : Nat) ∧ St w0 (own B m cB 3 1 (nsV (ofN l i k)) :: blk R (rgC A n cap) 85 :: own A n cap 87 1 (rgP l) :: Sls l :: L) wr) (fun _ cv _ => n - (intOf cv).toNat)
  case atStart => exact ⟨0, 0, 0, none, Nat.zero_le _, rfl, rfl, rfl, hs.own_nil _ _⟩
  case round =>
    clear hs
    obtain ⟨k, m, cB, B, hk, hm, rfl, rfl, hs⟩ := hrel
    have hmk : m ≤ k := by rw [← hm.out]; exact ofN_le _ _ _
    by_cases hlt : k < n
    · obtain ⟨x, hx⟩ : ∃ x, l[k]? = some x := ⟨_, List.getElem?_eq_getElem (by rw [hn.out]; exact hlt)⟩
      obtain ⟨X, s⟩ := x
      obtain ⟨gA, rfl⟩ := (hs.up2).own_at (by omega)
      have hrx := ((Rd.own (w0 := w0) (g := gA) (n := n) (cap := cap) (e := 87) (size := 1) (L := Sls l :: L) (rgP_get hx)).tail (p := blk R (rgC (some ⟨gA, 0, none⟩) n cap) 85)).tail (p := own B m cB 3 1 (nsV (ofN l i k)))
      have HX := Lib.hid hx
      obtain ⟨u, hu⟩ : ∃ u, Hid (s.get i = u) := ⟨_, rfl⟩
      obtain ⟨b, hb⟩ : ∃ u, Hid (s.has i = u) := ⟨_, rfl⟩
      obtain ⟨v, hv⟩ : ∃ u, Hid (s.pv = u) := ⟨_, rfl⟩
      have hha : Hid (hasAt l i k = b) := by rw [Hid]; unfold hasAt; rw [hx]; exact hb.out
      have hcx := hrx _ hs
      clear hx
      go_upto_region 5 with (first
        | (refine wpl_alloc zeroRow hs ?_; clear hs; intro g7 w hs)
        | (refine wpl_store_agg (v := .agg #[.pointer (some ⟨X, 0, none⟩)]) rfl rfl (sizeRowV X) hs WrA.row ?_; clear hs; intro w hs))
      replace hs : St w0 (SlB X s :: SlsBut l k :: blk g7 #[.pointer (some ⟨X, 0, none⟩)] 87 :: own B m cB 3 1 (nsV (ofN l i k)) :: blk R (rgC (some ⟨gA, 0, none⟩) n cap) 85 :: own (some ⟨gA, 0, none⟩) n cap 87 1 (rgP l) :: L) w :=
        (St.slsOut HX.out (hs.ent (M := Sls l :: blk g7 #[.pointer (some ⟨X, 0, none⟩)] 87 :: own B m cB 3 1 (nsV (ofN l i k)) :: blk R (rgC (some ⟨gA, 0, none⟩) n cap) 85 :: own (some ⟨gA, 0, none⟩) n cap 87 1 (rgP l) :: L) (by (repeat first | exact Ent.refl _ | refine Ent.step (by first | exact Ent.refl _ | exact Ent.skip (Ent.refl _) | exact Ent.skip (Ent.skip (Ent.refl _)) | exact Ent.skip (Ent.skip (Ent.skip (Ent.refl _))) | exact Ent.skip (Ent.skip (Ent.skip (Ent.skip (Ent.refl _)))) | exact Ent.skip (Ent.skip (Ent.skip (Ent.skip (Ent.skip (Ent.refl _))))) | exact Ent.skip (Ent.skip (Ent.skip (Ent.skip (Ent.skip (Ent.skip (Ent.refl _)))))) | exact Ent.skip (Ent.skip (Ent.skip (Ent.skip (Ent.skip (Ent.skip (Ent.skip (Ent.refl _))))))) | exact Ent.skip (Ent.skip (Ent.skip (Ent.skip (Ent.skip (Ent.skip (Ent.skip (Ent.skip (Ent.refl _)))))))) | exact Ent.skip (Ent.skip (Ent.skip (Ent.skip (Ent.skip (Ent.skip (Ent.skip (Ent.skip (Ent.skip (Ent.refl _)))))))))) ?_))))
      have hc7 := (Rd.blk (w0 := w0) (g := g7) (k := 0) (cs := #[.pointer (some ⟨X, 0, none⟩)]) (t := 87) (L := own B m cB 3 1 (nsV (ofN l i k)) :: blk R (rgC (some ⟨gA, 0, none⟩) n cap) 85 :: own (some ⟨gA, 0, none⟩) n cap 87 1 (rgP l) :: L) (v := .pointer (some ⟨X, 0, none⟩)) rfl) _ hs.drop.drop
      go_upto_region 6 with (first
        | (refine wpl_load (v := v) rfl one_pl hs (Rd.slp_v hv) ?_)
        | (refine wpl_inv1 (v := v) (v1 := .int .i64 i) rfl rfl (sl_get hs hv hi hu hb) ?_; rintro r w ⟨rfl, hg⟩; replace hs := hs.grew hg; clear hg)
        | (refine wpl_alloc zero3 hs ?_; clear hs; intro g8 w hs)
        | (refine wpl_store_agg (v := val3 u) rfl rfl (size3 _) hs WrA.slot3 ?_; clear hs; intro w hs; replace hs := hs.drop))
      replace hs : St w0 (own B m cB 3 1 (nsV (ofN l i k)) :: blk R (rgC (some ⟨gA, 0, none⟩) n cap) 85 :: own (some ⟨gA, 0, none⟩) n cap 87 1 (rgP l) :: Sls l :: L) w := (St.slsBack HX.out hs).rot.drop.ent (by (repeat first | exact Ent.refl _ | refine Ent.step (by first | exact Ent.refl _ | exact Ent.skip (Ent.refl _) | exact Ent.skip (Ent.skip (Ent.refl _)) | exact Ent.skip (Ent.skip (Ent.skip (Ent.refl _))) | exact Ent.skip (Ent.skip (Ent.skip (Ent.skip (Ent.refl _)))) | exact Ent.skip (Ent.skip (Ent.skip (Ent.skip (Ent.skip (Ent.refl _))))) | exact Ent.skip (Ent.skip (Ent.skip (Ent.skip (Ent.skip (Ent.skip (Ent.refl _)))))) | exact Ent.skip (Ent.skip (Ent.skip (Ent.skip (Ent.skip (Ent.skip (Ent.skip (Ent.refl _))))))) | exact Ent.skip (Ent.skip (Ent.skip (Ent.skip (Ent.skip (Ent.skip (Ent.skip (Ent.skip (Ent.refl _)))))))) | exact Ent.skip (Ent.skip (Ent.skip (Ent.skip (Ent.skip (Ent.skip (Ent.skip (Ent.skip (Ent.skip (Ent.refl _)))))))))) ?_))
      cases b
      · have ho2 : ofN l i (k + 1) = ofN l i k := by rw [ofN_succ, hha.out]; rfl
        have hm2 : Hid ((ofN l i (k + 1)).length = m) := by rw [Hid, ho2]; exact hm.out
        rw [← ho2] at hs
        clear hrx hcx hc7 hm ho2
        go_wp2
        go_roundw
        case rel => exact ⟨k + 1, m, cB, B, by omega, hm2, rfl, by go_num, hs⟩
        case measure => simp [intOf] <;> omega
      · have ho2 : ofN l i (k + 1) = ofN l i k ++ [k] := by rw [ofN_succ, hha.out]; rfl
        have hm2 : Hid ((ofN l i (k + 1)).length = m + 1) := by rw [Hid, ho2, List.length_append, hm.out]; rfl
        have hv2 : Hid (nsV (ofN l i (k + 1)) = nsV (ofN l i k) ++ [.int .i64 (k : Nat)]) := by rw [Hid, ho2]; unfold nsV; rw [List.map_append]; rfl
        clear hrx hcx hc7 ho2
        go_wp2_with (first
          | (refine wpl_build1 (v := .int .i64 (k : Nat)) elemN (by decide) rfl rfl hs ?_; clear hs; intro G w hs)
          | (refine wpl_append (A := B) (n := m) (cap := cB) (xs := nsV (ofN l i k)) (m := 1) (news := [.int .i64 (k : Nat)]) elemN rfl rfl hs (L' := blk G (Value.int .i64 (k : Nat)).cells 3 :: blk R (rgC (some ⟨gA, 0, none⟩) n cap) 85 :: own (some ⟨gA, 0, none⟩) n cap 87 1 (rgP l) :: Sls l :: L) (by (repeat first | exact Ent.refl _ | refine Ent.step (by first | exact Ent.refl _ | exact Ent.skip (Ent.refl _) | exact Ent.skip (Ent.skip (Ent.refl _)) | exact Ent.skip (Ent.skip (Ent.skip (Ent.refl _))) | exact Ent.skip (Ent.skip (Ent.skip (Ent.skip (Ent.refl _)))) | exact Ent.skip (Ent.skip (Ent.skip (Ent.skip (Ent.skip (Ent.refl _))))) | exact Ent.skip (Ent.skip (Ent.skip (Ent.skip (Ent.skip (Ent.skip (Ent.refl _)))))) | exact Ent.skip (Ent.skip (Ent.skip (Ent.skip (Ent.skip (Ent.skip (Ent.skip (Ent.refl _))))))) | exact Ent.skip (Ent.skip (Ent.skip (Ent.skip (Ent.skip (Ent.skip (Ent.skip (Ent.skip (Ent.refl _)))))))) | exact Ent.skip (Ent.skip (Ent.skip (Ent.skip (Ent.skip (Ent.skip (Ent.skip (Ent.skip (Ent.skip (Ent.refl _)))))))))) ?_)) RdS.blk rfl (by simp; rfl) (by unfold maxLen; omega) (by omega) ?_; clear hs; intro B3 cap3 w hs; replace hs := hs.rot.drop.rot))
        rw [← hv2.out] at hs
        go_roundw
        case rel => exact ⟨k + 1, m + 1, cap3, B3, by omega, hm2, rfl, by go_num, hs.rot⟩
        case measure => simp [intOf] <;> omega
    · obtain rfl : k = n := by omega
      go_wp2
      go_ret
      refine ⟨B, m, cB, by rw [Hid, ← ho.out]; exact hm.out, rfl, ?_⟩
      rw [ho.out] at hs
      exact (hs.dn3.rgshut (by rw [hn.out]; exact hle) hn.out.symm rfl).rot
end Go.Proofs.Ytmdjpeblbnbjmaa
