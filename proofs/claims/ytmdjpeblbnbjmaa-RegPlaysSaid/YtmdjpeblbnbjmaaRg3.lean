/-
  Components (reg.Reg), 3: Strip, Descs.
-/
import Derived.Test.YtmdjpeblbnbjmaaRg2
set_option maxRecDepth 100000
namespace Go.Proofs.Ytmdjpeblbnbjmaa
open Go Go.RowKit
attribute [local irreducible] wpList Calls Code.wp okI okN pS tS memS getG pG insS delS getV pV tV okVal newSl SlS.put SlS.err SlS.putU SlS.putB descE SlS.take

theorem nsV_get {l : List Nat} {j c : Nat} (h : l[j]? = some c) : (nsV l)[j]? = some (.int .i64 (c : Nat)) := by simp [nsV, h]
theorem one_slp : one1 Try.prog 29 = true := by kernel_rfl
set_option maxHeartbeats 2000000 in
theorem rg_strip {w0 w : World} {L : List As} {R : Nat} {l : List Cmp} (hs : St w0 (RgB R l :: L) w) {i : Int} (hi : (Lit.int .i64 i).wf = true) (hev : ∀ x ∈ l, x.2.evs.length < 4611686018427387904) {m : Nat} (hm : Hid ((ofN l i l.length).length = m)) {l' : List Cmp} (hl' : Hid (strL l i = l')) :
    Calls Try.prog 29 #[.pointer (some ⟨R, 0, none⟩), .int .i64 i] w fun e w' => e = .returned (.int .i64 (m : Nat)) ∧ St w0 (RgB R l' :: L) w' := by
  have HO := Lib.hid (fun (w : World) (hs : St w0 (RgB R l :: L) w) => rg_of hs hi (o := ofN l i l.length) rfl)
  have hnd := ofN_nodup l i l.length
  have hml := ofN_le l i l.length
  have hmem : ∀ c ∈ ofN l i l.length, c < l.length := fun c h => (mem_ofN.1 h).1
  have hall := strF_all l i
  obtain ⟨o, ho⟩ : ∃ o, Hid (ofN l i l.length = o) := ⟨_, rfl⟩
  rw [ho.out] at HO hnd hm hml hmem hall
  rw [hm.out] at hml
  have HND := Lib.hid hnd
  have HMEM := Lib.hid hmem
  have HALL := Lib.hid hall
  have HEV := Lib.hid hev
  have h64 := (hs.rgopen).1
  clear hnd hmem hall hev ho
  go_enter Try.func29, Try.ntmps29
  go_wp2_with (first
    | (go_at_call 28; refine (HO.out _ hs).mono ?_; clear hs; rintro e w ⟨B, m', cB, hm', rfl, hs⟩; obtain rfl : m = m' := by (rw [← hm.out, ← hm'.out]))) 
  clear HO hm'
  obtain ⟨hle, A, cap, hs2⟩ := hs.rot.rgopen
  obtain ⟨n, hn⟩ : ∃ n, Hid (l.length = n) := ⟨_, rfl⟩
  rw [hn.out] at hs2 hle hml h64
  have hs3 : St w0 (own B m cB 3 1 (nsV o) :: blk R (rgC A n cap) 85 :: own A n cap 87 1 (rgP l) :: Sls (strF i l (o.take 0)) :: L) w := by
    rw [List.take_zero]; exact hs2.up3
  clear hs hs2
  go_loopw [13] (fun cv wr => ∃ k : Nat, k ≤ m ∧ cv = .int .i64 (k : Nat) ∧ St w0 (own B m cB 3 1 (nsV o) :: blk R (rgC A n cap) 85 :: own A n cap 87 1 (rgP l) :: Sls (strF i l (o.take k)) :: L) wr) (fun cv _ => m - (intOf cv).toNat)
  case atStart => exact ⟨0, Nat.zero_le _, rfl, hs3⟩
  case round =>
    clear hs3
    obtain ⟨k, hk, rfl, hs⟩ := hrel
    by_cases hlt : k < m
    · obtain ⟨c, hc⟩ : ∃ c, o[k]? = some c := ⟨_, List.getElem?_eq_getElem (by rw [hm.out]; exact hlt)⟩
      have hcn : c < n := by rw [← hn.out]; exact HMEM.out c (List.mem_of_getElem? hc)
      obtain ⟨x, hx⟩ : ∃ x, l[c]? = some x := ⟨_, List.getElem?_eq_getElem (by rw [hn.out]; exact hcn)⟩
      have hnot : c ∉ o.take k := by
        intro hmem
        obtain ⟨hkl, hke⟩ := List.getElem?_eq_some_iff.1 hc
        obtain ⟨j, hj, hje⟩ := List.getElem_of_mem hmem
        rw [List.length_take] at hj
        rw [List.getElem_take] at hje
        exact List.pairwise_iff_getElem.1 HND.out j k (by omega) hkl (by omega) (hje.trans hke.symm)
      have hcx : (strF i l (o.take k))[c]? = some x := by rw [strF_get i _ _ _ (HND.out.sublist (List.take_sublist _ _)), if_neg hnot, hx]
      have HNX : Hid (strF i l (o.take (k + 1)) = (strF i l (o.take k)).set c (x.1, x.2.take i)) := by
        obtain ⟨hkl, hke⟩ := List.getElem?_eq_some_iff.1 hc
        rw [Hid, List.take_succ_eq_append_getElem hkl, hke, strF_app, hcx]
      have hxe : x.2.evs.length < 4611686018427387904 := HEV.out x (List.mem_of_getElem? hx)
      obtain ⟨X, s⟩ := x
      obtain ⟨gB, rfl⟩ := hs.own_at (by omega)
      obtain ⟨gA, rfl⟩ := (hs.up2).own_at (by omega)
      have hrb := Rd.own (w0 := w0) (g := gB) (n := m) (cap := cB) (e := 3) (size := 1) (L := blk R (rgC (some ⟨gA, 0, none⟩) n cap) 85 :: own (some ⟨gA, 0, none⟩) n cap 87 1 (rgP l) :: Sls (strF i l (o.take k)) :: L) (nsV_get hc) _ hs
      have hrr := Rd.rg0 (t := 85) _ hs.drop
      have hrx := Rd.own (w0 := w0) (g := gA) (n := n) (cap := cap) (e := 87) (size := 1) (L := Sls (strF i l (o.take k)) :: L) (rgP_get hx) _ hs.drop.drop
      have HCX := Lib.hid hcx
      have HXE := Lib.hid hxe
      obtain ⟨u, hu⟩ : ∃ u, Hid (s.get i = u) := ⟨_, rfl⟩
      obtain ⟨b, hb⟩ : ∃ u, Hid (s.has i = u) := ⟨_, rfl⟩
      obtain ⟨s', hs'⟩ : ∃ u, Hid (s.take i = u) := ⟨_, rfl⟩
      clear hx hcx hxe hnot hc
      go_wp2_with (first
        | (go_at_call 31; refine (sl_take (X := X) (s := s) (St.slsOut HCX.out (hs.ent (M := Sls (strF i l (o.take k)) :: own (some ⟨gB, 0, none⟩) m cB 3 1 (nsV o) :: blk R (rgC (some ⟨gA, 0, none⟩) n cap) 85 :: own (some ⟨gA, 0, none⟩) n cap 87 1 (rgP l) :: L) (by (repeat first | exact Ent.refl _ | refine Ent.step (by first | exact Ent.refl _ | exact Ent.skip (Ent.refl _) | exact Ent.skip (Ent.skip (Ent.refl _)) | exact Ent.skip (Ent.skip (Ent.skip (Ent.refl _))) | exact Ent.skip (Ent.skip (Ent.skip (Ent.skip (Ent.refl _)))) | exact Ent.skip (Ent.skip (Ent.skip (Ent.skip (Ent.skip (Ent.refl _))))) | exact Ent.skip (Ent.skip (Ent.skip (Ent.skip (Ent.skip (Ent.skip (Ent.refl _)))))) | exact Ent.skip (Ent.skip (Ent.skip (Ent.skip (Ent.skip (Ent.skip (Ent.skip (Ent.refl _))))))) | exact Ent.skip (Ent.skip (Ent.skip (Ent.skip (Ent.skip (Ent.skip (Ent.skip (Ent.skip (Ent.refl _)))))))) | exact Ent.skip (Ent.skip (Ent.skip (Ent.skip (Ent.skip (Ent.skip (Ent.skip (Ent.skip (Ent.skip (Ent.refl _)))))))))) ?_)))) hi HXE.out hu hb hs').mono ?_; clear hs hrb hrr hrx; rintro r w ⟨rfl, hs⟩; replace hs := St.slsIn HCX.out hs; rw [← hs'.out] at hs))
      have hs4 : St w0 (own (some ⟨gB, 0, none⟩) m cB 3 1 (nsV o) :: blk R (rgC (some ⟨gA, 0, none⟩) n cap) 85 :: own (some ⟨gA, 0, none⟩) n cap 87 1 (rgP l) :: Sls (strF i l (o.take (k + 1))) :: L) w := by
        rw [HNX.out]
        exact hs.ent (by (repeat first | exact Ent.refl _ | refine Ent.step (by first | exact Ent.refl _ | exact Ent.skip (Ent.refl _) | exact Ent.skip (Ent.skip (Ent.refl _)) | exact Ent.skip (Ent.skip (Ent.skip (Ent.refl _))) | exact Ent.skip (Ent.skip (Ent.skip (Ent.skip (Ent.refl _)))) | exact Ent.skip (Ent.skip (Ent.skip (Ent.skip (Ent.skip (Ent.refl _))))) | exact Ent.skip (Ent.skip (Ent.skip (Ent.skip (Ent.skip (Ent.skip (Ent.refl _)))))) | exact Ent.skip (Ent.skip (Ent.skip (Ent.skip (Ent.skip (Ent.skip (Ent.skip (Ent.refl _))))))) | exact Ent.skip (Ent.skip (Ent.skip (Ent.skip (Ent.skip (Ent.skip (Ent.skip (Ent.skip (Ent.refl _)))))))) | exact Ent.skip (Ent.skip (Ent.skip (Ent.skip (Ent.skip (Ent.skip (Ent.skip (Ent.skip (Ent.skip (Ent.refl _)))))))))) ?_))
      go_roundw
      case rel => exact ⟨k + 1, by omega, by go_num, hs4⟩
      case measure => simp [intOf] <;> omega
    · obtain rfl : k = m := by omega
      have HT : Hid (o.take k = o) := List.take_of_length_le (by rw [hm.out]; exact Nat.le_refl _)
      rw [HT.out, HALL.out, hl'.out] at hs
      have hlen : l'.length = n := by rw [← hl'.out]; unfold strL; rw [List.length_map]; exact hn.out
      have hrp : rgP l' = rgP l := by rw [← hl'.out]; exact rgP_strL l i
      have HL := Lib.hid hlen
      have HR := Lib.hid hrp
      clear hlen hrp
      go_wp2
      go_ret
      exact ⟨rfl, (hs.drop).rgshut (by rw [HL.out]; exact hle) HL.out.symm HR.out.symm⟩
end Go.Proofs.Ytmdjpeblbnbjmaa
