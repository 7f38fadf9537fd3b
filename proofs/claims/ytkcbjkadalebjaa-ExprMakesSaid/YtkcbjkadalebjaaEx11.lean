/-
  Expressions (expr.Arena), 11: Nodes.
-/
import Derived.Test.YtkcbjkadalebjaaEx10
set_option maxRecDepth 100000
namespace Go.Proofs.Ytkcbjkadalebjaa
open Go Go.RowKit
attribute [local irreducible] wpList Calls Code.wp

def toR (e : NodeE) : RNode := ⟨(e.k : Int), kI e⟩
theorem toR_len (e : NodeE) : (toR e).kids.length = e.kids.length := by unfold toR; exact kI_len e
/-- A row of nodes of one's own. -/
def NdsB (A : Option Addr) (cap : Nat) (l : List NodeE) : As := fun h => ∃ rs : List KR, rs.map KR.e = l ∧ big (Ytkcbjkadalebjaa.own A l.length cap 38 2 (rs.flatMap krV) :: rs.map krA) h
theorem St.ndopen {w0 w : World} {A : Option Addr} {cap : Nat} {l : List NodeE} {L : List As} (hs : St w0 (NdsB A cap l :: L) w) : ∃ rs : List KR, rs.map KR.e = l ∧ St w0 (Ytkcbjkadalebjaa.own A l.length cap 38 2 (rs.flatMap krV) :: (rs.map krA ++ L)) w := by
  obtain ⟨hb, x, r, hd, hx, y, z, hyz, e, ⟨rs, hrs, hh⟩, hz⟩ := hs
  refine ⟨rs, hrs, ?_⟩
  have h1 : St w0 (big (Ytkcbjkadalebjaa.own A l.length cap 38 2 (rs.flatMap krV) :: rs.map krA) :: L) w := ⟨hb, x, r, hd, hx, y, z, hyz, e, hh, hz⟩
  exact h1.ent (Ent.flat _ L)
theorem Ent.ndshut {A : Option Addr} {n cap : Nat} {rs : List KR} {l : List NodeE} {L : List As} (hrs : rs.map KR.e = l) (hn : n = l.length) :
    Ent (Ytkcbjkadalebjaa.own A n cap 38 2 (rs.flatMap krV) :: (rs.map krA ++ L)) (NdsB A cap l :: L) := by
  subst hn
  exact (Ent.unflat (Ytkcbjkadalebjaa.own A l.length cap 38 2 (rs.flatMap krV) :: rs.map krA) L).trans (Ent.head fun _ h => ⟨rs, hrs, h⟩)
theorem Ent.ndgrow {A B : Option Addr} {n cap capB m k : Nat} {rs : List KR} {l : List NodeE} {e : NodeE} {L : List As} (hrs : rs.map KR.e = l) (hn : n = l.length + 1) (hk : e.k = k) (hm : e.kids.length = m) :
    Ent (Ytkcbjkadalebjaa.own A n cap 38 2 (rs.flatMap krV ++ [.int .i64 (k : Nat), .slice B m capB]) :: Ytkcbjkadalebjaa.own B m capB 3 1 (ints (kI e)) :: (rs.map krA ++ L)) (NdsB A cap (l ++ [e]) :: L) := by
  subst hk hm hn
  have e1 : Ytkcbjkadalebjaa.own B e.kids.length capB 3 1 (ints (kI e)) = krA ⟨e, B, capB⟩ := rfl
  have e2 : rs.flatMap krV ++ [.int .i64 (e.k : Nat), .slice B e.kids.length capB] = (rs ++ [(⟨e, B, capB⟩ : KR)]).flatMap krV := by simp [krV]
  rw [e1, e2]
  have h3 := Ent.ndshut (A := A) (n := l.length + 1) (cap := cap) (rs := rs ++ [⟨e, B, capB⟩]) (l := l ++ [e]) (L := L) (by simp [hrs]) (by simp)
  refine Ent.trans (Ent.cons _ (Ent.push (krA ⟨e, B, capB⟩) (rs.map krA) L)) ?_
  simpa using h3
theorem St.ndview {w0 w : World} {A : Option Addr} {cap : Nat} {l : List NodeE} {L : List As} (hs : St w0 (NdsB A cap l :: L) w) (h64 : ∀ e ∈ l, e.kids.length ≤ 64) : NdV w A (l.map toR) := by
  obtain ⟨rs, hrs, hs⟩ := hs.ndopen
  refine ⟨fun i x hx => ?_⟩
  obtain ⟨r, hr, rfl⟩ : ∃ r, rs[i]? = some r ∧ toR r.e = x := by
    subst hrs
    rw [List.map_map, List.getElem?_map] at hx
    cases h : rs[i]? with
    | none => rw [h] at hx; cases hx
    | some r => rw [h] at hx; exact ⟨r, rfl, by simpa using hx⟩
  have hpos : 0 < l.length := by have := (List.getElem?_eq_some_iff.1 hx).1; rw [List.length_map] at this; omega
  obtain ⟨g, rfl⟩ := hs.own_at hpos
  have hk : (rs.map krA)[i]? = some (krA r) := by rw [List.getElem?_map, hr]; rfl
  obtain ⟨M', hp⟩ := Ent.pick (L := L) hk
  have h3 := hs.drop.ent hp
  have he : r.e ∈ l := by rw [← hrs]; exact List.mem_map.2 ⟨r, List.mem_of_getElem? hr, rfl⟩
  have hl := h64 r.e he
  refine ⟨g, 0, r.B, r.cap, rfl, ?_, ?_, fun j y hy => ?_, by rw [toR_len]; omega, fun hB => ?_⟩
  · rw [Nat.zero_add]; exact Rd.own (krs_get hr 0 _ rfl) _ hs
  · rw [Nat.zero_add, toR_len]; exact Rd.own (krs_get hr 1 _ rfl) _ hs
  · have hpos2 : 0 < r.e.kids.length := by have := (List.getElem?_eq_some_iff.1 hy).1; rw [toR_len] at this; omega
    obtain ⟨b, hb⟩ := St.own_at h3 hpos2
    refine ⟨b, 0, hb, ?_⟩
    unfold krA at h3
    rw [hb] at h3
    rw [Nat.zero_add]
    exact Rd.own (ints_get hy) _ h3
  · unfold krA at h3
    rw [hB] at h3
    obtain ⟨a, ⟨_, h⟩, _⟩ := St.heap h3
    rcases h with ⟨_, h1, h2, _⟩ | ⟨g, cur, h0, _⟩
    · exact ⟨by rw [toR_len]; exact h1, h2⟩
    · cases h0
theorem Ent.comm : ∀ (M L : List As), Ent (M ++ L) (L ++ M)
  | [], L => by rw [List.nil_append, List.append_nil]; exact Ent.refl _
  | p :: M, L => (Ent.cons p (Ent.comm M L)).trans (Ent.push p L M)
theorem St.ndopen2 {w0 w : World} {A : Option Addr} {cap : Nat} {l : List NodeE} {L : List As} (hs : St w0 (NdsB A cap l :: L) w) : ∃ rs : List KR, rs.map KR.e = l ∧ St w0 (Ytkcbjkadalebjaa.own A l.length cap 38 2 (rs.flatMap krV) :: (L ++ rs.map krA)) w := by
  obtain ⟨rs, h1, h2⟩ := hs.ndopen
  exact ⟨rs, h1, h2.ent (Ent.cons _ (Ent.comm _ _))⟩
theorem size_nodeE : (Try.prog.info? 38).map (·.size) = some 2 := by kernel_rfl
theorem RdS.kids {w : World} {B : Option Addr} {kids : List Int} {L : List As} (h : KidsR w B kids) : RdS w L B (ints kids) := fun k u hu => by
  unfold ints at hu
  rw [List.getElem?_map] at hu
  cases hk : kids[k]? with
  | none => rw [hk] at hu; cases hu
  | some y =>
    rw [hk] at hu
    obtain ⟨b, o, rfl, hc⟩ := h k y hk
    simp at hu
    subst hu
    exact ⟨_, rfl, rfl, Rd.old hc⟩
theorem St.exnd {w0 w : World} {D : Nat} {l : List NodeE} {ss : List Value} {L : List As} (hs : St w0 (ExB D l ss :: L) w) (h64 : ∀ e ∈ l, e.kids.length ≤ 64) : ∃ N cap, w.cell? ⟨D, 0, none⟩ = some (.slice N l.length cap) ∧ NdV w N (l.map toR) := by
  obtain ⟨rs, N, cap, P, cap2, hrs, hs⟩ := hs.exopen
  obtain ⟨d0, _⟩ := exRd hs
  exact ⟨N, cap, d0, (hs.drop.rot.drop.ent (Ent.ndshut hrs rfl)).ndview h64⟩
theorem ArOk.kids64 {l : List NodeE} {m : Nat} (h : ArOk l m) : ∀ e ∈ l, e.kids.length ≤ 64 := fun e he => by
  obtain ⟨i, hi⟩ := List.mem_iff_getElem?.1 he
  exact (h.kind i e hi).2.2
theorem toR_get {l : List NodeE} {i : Nat} {x : NodeE} (h : l[i]? = some x) : (l.map toR)[i]? = some (toR x) := by rw [List.getElem?_map, h]; rfl
theorem take_snocE {l : List NodeE} {i : Nat} {x : NodeE} (h : l[i]? = some x) : l.take (i + 1) = l.take i ++ [x] := by
  obtain ⟨hi, rfl⟩ := List.getElem?_eq_some_iff.1 h
  exact List.take_succ_eq_append_getElem hi
set_option maxHeartbeats 1000000 in
theorem nodes_c {w0 w : World} {L : List As} {D m : Nat} {l : List NodeE} {ss : List Value} (hs : St w0 (ExB D l ss :: L) w) (hok : ArOk l m) {n : Nat} (hn : Hid (l.length = n)) :
    Calls Try.prog 22 #[ptr D] w fun e w' => ∃ A cap, e = .returned (.slice A n cap) ∧ St w [NdsB A cap l] w' := by
  obtain ⟨N, capN, d0, hv⟩ := hs.exnd hok.kids64
  have hfew : n ≤ 1000 := by have := hok.few; rw [hn.out] at this; exact this
  have HV := Lib.hid hv
  have HO := Lib.hid hok
  rw [hn.out] at d0
  have hw : St w [NdsB none 0 (l.take 0)] w := ((St.start w).own_nil 38 2).ent (Ent.ndshut (rs := []) (L := []) rfl rfl)
  clear hs hv hok
  unfold ptr
  go_enter Try.func22, Try.ntmps22
  go_wp2
  go_loopw [3, 11] (fun ov cv wr => ∃ (i : Nat) (A : Option Addr) (c : Nat), i ≤ n ∧ ov = .slice A i c ∧ cv = .int .i64 (i : Nat) ∧ St w [NdsB A c (l.take i)] wr) (fun _ cv _ => n - (intOf cv).toNat)
  case atStart => exact ⟨0, none, 0, Nat.zero_le _, rfl, rfl, hw⟩
  case round =>
    clear hw
    obtain ⟨i, A, c, hi, rfl, rfl, hs⟩ := hrel
    by_cases hlt : i < n
    · obtain ⟨x, hx⟩ : ∃ x, l[i]? = some x := ⟨_, List.getElem?_eq_getElem (by rw [hn.out]; exact hlt)⟩
      obtain ⟨g, o, B, bc, rfl, x1, x2, x3, x4, x5⟩ := HV.out.row i _ (toR_get hx)
      have HT := Lib.hid (take_snocE hx)
      have hr2 : RdS w (blk 0 #[] 0 :: []) B (ints (kI x)) := RdS.kids x3
      have X3 := Lib.hid x3
      have HB := Lib.hid x5
      rw [toR_len] at x2
      have hxm := HO.out.kids64 x (List.mem_of_getElem? hx)
      have HXl : Hid ((kI x).length = x.kids.length) := kI_len x
      have HTl : Hid ((l.take i).length = i) := by rw [Hid, List.length_take, hn.out]; omega
      obtain ⟨mk, HMK⟩ : ∃ m, Hid (x.kids.length = m) := ⟨_, rfl⟩
      rw [HMK.out] at x2 hxm HXl
      obtain ⟨k, HK⟩ : ∃ k, Hid (x.k = k) := ⟨_, rfl⟩
      replace x1 : w.cell? ⟨g, o + i * 2, none⟩ = some (.int .i64 ((x.k : Nat) : Int)) := x1
      rw [HK.out] at x1
      replace x1 := hs.made_grew.cell x1
      replace x2 := hs.made_grew.cell x2
      clear hr2 x3 x5 x4 hx
      go_upto_region 5 with (fail)
      have hw := (St.start wr).alloc #[.int .i64 (k : Nat), .slice B mk bc] 38
      generalize wr.heap.size = g5 at hw ⊢
      refine wp_gen hw ?_
      clear hw x1 x2 d0
      intro w1 hw
      have hs2 := hs.made hw
      clear hw hs
      have hsN := hs2.only
      refine wp_region_plain [false, false, false, false, false, true, true, true, true, true] hsN (by kernel_rfl) (by kernel_rfl) fun hne => ?_
      have e0 := (Rd.blk (w0 := w) (g := g5) (k := 0) (cs := #[.int .i64 (k : Nat), .slice B mk bc]) (v := .int .i64 (k : Nat)) (t := 38) (L := []) (by rfl)).alln
      have e1 := (Rd.blk (w0 := w) (g := g5) (k := 1) (cs := #[.int .i64 (k : Nat), .slice B mk bc]) (v := .slice B mk bc) (t := 38) (L := []) (by rfl)).alln
      simp only [pickOps]
      repeat (go_big_quiet_step (fail))
      refine wpQuiet_nil ?_
      clear hne e0 e1
      simp only [chainIx]
      replace hs2 := hs2.drew
      clear hsN
      refine wpChainP_next rfl ?_
      go_wp2_with (first
        | (go_at_call 41; refine (clone_c (fun h => ⟨by have := (HB.out h).1; rw [toR_len, HMK.out] at this; exact this, (HB.out h).2⟩) HXl.out (by omega) hs2 (RdS.kids X3.out)).mono ?_; clear hs2; rintro e w' ⟨Bn, capB, rfl, hs2⟩))
      refine ⟨hs2.rot.only, ?_⟩
      refine wpChainP_next rfl ?_
      refine wpl_buildS (build_nodeE _ _ _ _) rfl ?_
      refine wpList_nil ⟨rfl, hs2.rot.only, ?_⟩
      refine wpChainP_next rfl ?_
      refine wpl_build1 (v := .agg #[.int .i64 (k : Nat), .slice Bn mk capB]) elemN (by decide) rfl rfl hs2 ?_
      clear hs2
      intro gb w2 hs2
      replace hs2 : St w (Ytkcbjkadalebjaa.blk gb #[.int .i64 (k : Nat), .slice Bn mk capB] 38 :: _) w2 := hs2
      refine wpList_nil ⟨rfl, hs2.up2.only, ?_⟩
      refine wpChainP_next rfl ?_
      obtain ⟨rs, hrs, hs2⟩ := hs2.up3.ndopen2
      rw [HTl.out] at hs2
      have HRs := Lib.hid hrs
      clear hrs
      refine wpl_append (A := A) (B := some ⟨gb, 0, none⟩) (n := i) (m := 1) (news := [.int .i64 (k : Nat), .slice Bn mk capB]) elemN rfl rfl hs2 (Ent.refl _) RdS.blk.tail rfl (by intro u hu; simp at hu; rcases hu with rfl | rfl <;> rfl) (by unfold maxLen; omega) (by omega) ?_
      clear hs2
      intro A2 c2 w3 hs2
      refine wpList_nil ⟨rfl, (hs2.up3).only, ?_⟩
      refine wpChain_last rfl ?_
      go_wp2
      replace hs2 := hs2.rot.drop.up2.drop
      have hs3 : St w [NdsB A2 c2 (l.take i ++ [x])] w3 := (show St w (own A2 (i + 1) c2 38 2 (rs.flatMap krV ++ [.int .i64 (k : Nat), .slice Bn mk capB]) :: own Bn mk capB 3 1 (ints (kI x)) :: (rs.map krA ++ [])) w3 by rw [List.append_nil]; exact hs2).ent (Ent.ndgrow HRs.out (by rw [HTl.out]) HK.out HMK.out)
      rw [← HT.out] at hs3
      go_roundw
      case rel => exact ⟨i + 1, A2, c2, by omega, rfl, by go_num, hs3⟩
      case measure => simp [intOf] <;> omega
    · have hin : i = n := by omega
      subst hin
      have hT : l.take i = l := List.take_of_length_le (by rw [hn.out]; exact Nat.le_refl _)
      rw [hT] at hs
      clear hT
      go_wp2
      go_ret
      exact ⟨A, c, rfl, hs⟩
end Go.Proofs.Ytkcbjkadalebjaa
