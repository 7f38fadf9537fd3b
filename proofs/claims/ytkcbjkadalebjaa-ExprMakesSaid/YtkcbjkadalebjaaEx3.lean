/-
  Expressions (expr.Arena), 3: the memory of an Arena; add.
-/
import Derived.Test.YtkcbjkadalebjaaEx2
set_option maxRecDepth 100000
namespace Go.Proofs.Ytkcbjkadalebjaa
open Go Go.RowKit
attribute [local irreducible] wpList Calls Code.wp

/-- A node as it lies in memory: with the place of its kids. -/
structure KR where
  e : NodeE
  B : Option Addr
  cap : Nat
def kI (e : NodeE) : List Int := e.kids.map Int.ofNat
theorem kI_len (e : NodeE) : (kI e).length = e.kids.length := by simp [kI]
def krV (r : KR) : List Value := [.int .i64 (r.e.k : Nat), .slice r.B r.e.kids.length r.cap]
theorem krV_len (r : KR) : (krV r).length = 2 := rfl
def krA (r : KR) : As := own r.B r.e.kids.length r.cap 3 1 (ints (kI r.e))
def exC (N P : Option Addr) (n cap m cap2 : Nat) : List Value := [.slice N n cap, .slice P m cap2]
def ExB (D : Nat) (l : List NodeE) (ss : List Value) : As := fun h => ∃ (rs : List KR) (N : Option Addr) (cap : Nat) (P : Option Addr) (cap2 : Nat), rs.map KR.e = l ∧
  big (Ytkcbjkadalebjaa.blk D (exC N P l.length cap ss.length cap2).toArray 62 :: Ytkcbjkadalebjaa.own N l.length cap 38 2 (rs.flatMap krV) :: Ytkcbjkadalebjaa.own P ss.length cap2 27 1 ss :: rs.map krA) h
theorem St.exopen {w0 w : World} {D : Nat} {l : List NodeE} {ss : List Value} {L : List As} (hs : St w0 (ExB D l ss :: L) w) : ∃ (rs : List KR) (N : Option Addr) (cap : Nat) (P : Option Addr) (cap2 : Nat), rs.map KR.e = l ∧
    St w0 (Ytkcbjkadalebjaa.blk D (exC N P l.length cap ss.length cap2).toArray 62 :: Ytkcbjkadalebjaa.own N l.length cap 38 2 (rs.flatMap krV) :: Ytkcbjkadalebjaa.own P ss.length cap2 27 1 ss :: (rs.map krA ++ L)) w := by
  obtain ⟨hb, x, r, hd, hx, y, z, hyz, e, ⟨rs, N, cap, P, cap2, hrs, hh⟩, hz⟩ := hs
  refine ⟨rs, N, cap, P, cap2, hrs, ?_⟩
  have h1 : St w0 (big (Ytkcbjkadalebjaa.blk D (exC N P l.length cap ss.length cap2).toArray 62 :: Ytkcbjkadalebjaa.own N l.length cap 38 2 (rs.flatMap krV) :: Ytkcbjkadalebjaa.own P ss.length cap2 27 1 ss :: rs.map krA) :: L) w := ⟨hb, x, r, hd, hx, y, z, hyz, e, hh, hz⟩
  exact h1.ent (Ent.flat _ L)
theorem Ent.exshut {D n m cap cap2 : Nat} {N P : Option Addr} {rs : List KR} {l : List NodeE} {ss : List Value} {L : List As} (hrs : rs.map KR.e = l) (hn : n = l.length) (hm : m = ss.length) :
    Ent (Ytkcbjkadalebjaa.blk D (exC N P n cap m cap2).toArray 62 :: Ytkcbjkadalebjaa.own N n cap 38 2 (rs.flatMap krV) :: Ytkcbjkadalebjaa.own P m cap2 27 1 ss :: (rs.map krA ++ L)) (ExB D l ss :: L) := by
  subst hn hm
  exact (Ent.unflat (Ytkcbjkadalebjaa.blk D (exC N P l.length cap ss.length cap2).toArray 62 :: Ytkcbjkadalebjaa.own N l.length cap 38 2 (rs.flatMap krV) :: Ytkcbjkadalebjaa.own P ss.length cap2 27 1 ss :: rs.map krA) L).trans (Ent.head fun _ h => ⟨rs, N, cap, P, cap2, hrs, h⟩)
theorem exRd {w0 w : World} {D n m cap cap2 : Nat} {N P : Option Addr} {t : TypeId} {L : List As} (hs : St w0 (Ytkcbjkadalebjaa.blk D (exC N P n cap m cap2).toArray t :: L) w) : w.cell? ⟨D, 0, none⟩ = some (.slice N n cap) ∧ w.cell? ⟨D, 1, none⟩ = some (.slice P m cap2) := ⟨Rd.blk (by rfl) w hs, Rd.blk (by rfl) w hs⟩
theorem elemN : ElemOk Try.prog 36 38 2 32 := ElemOk.of Try.underlying36 (z := .agg #[.int .i64 0, .slice none 0 0]) (by kernel_rfl) rfl (by decide)
theorem elemP : ElemOk Try.prog 50 27 1 8 := ElemOk.of Try.underlying50 (z := .pointer none) (by kernel_rfl) rfl (by decide)
theorem build_nodeE (k : Int) (B : Option Addr) (n cap : Nat) (w : World) : (Instr.build 38 #[(0, .int .i64 k), (1, .slice B n cap)]).run Try.prog w = .ok (.agg #[.int .i64 k, .slice B n cap]) w := by kernel_rfl
/-- What add answers. -/
def addOk (l : List NodeE) (k : Nat) (kids : List Int) : Bool := decide (l.length < 1000) && decide (kids.length ≤ 64) && (decide (k = 1) || !kids.any (bad l.length))
def addN (l : List NodeE) (k : Nat) (kids : List Int) : List NodeE := if addOk l k kids then l ++ [⟨k, kids.map Int.toNat⟩] else l
def addV (l : List NodeE) (k : Nat) (kids : List Int) : Int := if addOk l k kids then (l.length : Int) else -1
theorem nat_ints {kids : List Int} (h : ∀ x ∈ kids, 0 ≤ x) : (kids.map Int.toNat).map Int.ofNat = kids := by
  rw [List.map_map]
  conv => rhs; rw [← List.map_id kids]
  exact List.map_congr_left fun x hx => Int.toNat_of_nonneg (h x hx)
theorem size_slN : (Try.prog.info? 36).map (·.size) = some 1 := by kernel_rfl
theorem ints_get {l : List Int} {k : Nat} {x : Int} (h : l[k]? = some x) : (ints l)[k]? = some (.int .i64 x) := by unfold ints; rw [List.getElem?_map, h]; rfl
theorem ex_grown {w0 w : World} {D capN capP capB m k : Nat} {N P B : Option Addr} {rs : List KR} {l : List NodeE} {ss : List Value} {kids : List Int} {L : List As} (hrs : rs.map KR.e = l) (hnat : (kids.map Int.toNat).map Int.ofNat = kids) (hm : Hid (kids.length = m))
    (hs : St w0 (Ytkcbjkadalebjaa.blk D (exC N P (l.length + 1) capN ss.length capP).toArray 62 :: Ytkcbjkadalebjaa.own B m capB 3 1 (ints kids) :: Ytkcbjkadalebjaa.own N (l.length + 1) capN 38 2 (rs.flatMap krV ++ [.int .i64 (k : Nat), .slice B m capB]) :: Ytkcbjkadalebjaa.own P ss.length capP 27 1 ss :: (rs.map krA ++ L)) w) :
    St w0 (ExB D (l ++ [⟨k, kids.map Int.toNat⟩]) ss :: L) w := by
  have e1 : Ytkcbjkadalebjaa.own B m capB 3 1 (ints kids) = krA ⟨⟨k, kids.map Int.toNat⟩, B, capB⟩ := by
    unfold krA kI
    simp only [hnat, List.length_map, hm.out]
  have e2 : rs.flatMap krV ++ [.int .i64 (k : Nat), .slice B m capB] = (rs ++ [(⟨⟨k, kids.map Int.toNat⟩, B, capB⟩ : KR)]).flatMap krV := by
    simp [krV, hm.out]
  rw [e1, e2] at hs
  refine (hs.ent (Ent.cons _ (Ent.push _ (_ :: _ :: rs.map krA) L))).ent ?_
  have := Ent.exshut (D := D) (n := l.length + 1) (m := ss.length) (cap := capN) (cap2 := capP) (N := N) (P := P) (rs := rs ++ [⟨⟨k, kids.map Int.toNat⟩, B, capB⟩]) (l := l ++ [⟨k, kids.map Int.toNat⟩]) (ss := ss) (L := L) (by simp [hrs]) (by simp) rfl
  simpa using this
set_option maxHeartbeats 1000000 in
theorem add_c {w0 w : World} {L : List As} {D : Nat} {l : List NodeE} {ss : List Value} (hs : St w0 (ExB D l ss :: L) w) {A : Option Addr} {m cap : Nat} {kids : List Int} (hA : A = none → m = 0 ∧ cap = 0) (hm : Hid (kids.length = m)) (hm2 : m ≤ 4000000000) (hr : RdS w0 (ExB D l ss :: L) A (ints kids)) {k : Nat} (hk : k = 1 → ∀ x ∈ kids, 0 ≤ x)
    {v : Int} {l' : List NodeE} (hv1 : Hid (addV l k kids = v)) (hl' : Hid (addN l k kids = l')) :
    Calls Try.prog 33 #[ptr D, .int .i64 (k : Nat), .slice A m cap] w fun e w' => e = .returned (.int .i64 v) ∧ St w0 (ExB D l' ss :: L) w' := by
  obtain ⟨rs, N, capN, P, capP, hrs, hs1⟩ := hs.exopen
  have HRs := Lib.hid hrs
  have hr2 := hr.ent (Ent.exshut (N := N) (P := P) (cap := capN) (cap2 := capP) (L := L) hrs rfl rfl)
  have hrd : ∀ j x, kids[j]? = some x → ∃ b o, A = some ⟨b, o, none⟩ ∧ w.cell? ⟨b, o + j, none⟩ = some (.int .i64 x) := fun j x hx => by
    obtain ⟨b, o, h3, h4⟩ := hr.get (ints_get hx)
    exact ⟨b, o, h3, h4 w hs⟩
  obtain ⟨d0, d1⟩ := exRd hs1
  clear hs hr hrs
  go_enter Try.func33, Try.ntmps33
  unfold ptr
  go_upto_region 2 with (first
    | (refine wpl_box_v (v := .pointer (some ⟨D, 0, none⟩)) rfl (St.start _) ?_; intro g3 w hw))
  have hs2 : St w0 (blk g3 #[ptr D] 25 :: _) w := hs1.made hw
  replace hr2 := hr2.tail (p := blk g3 #[ptr D] 25)
  replace d0 := hw.made_grew.cell d0
  have hrd2 : ∀ j x, kids[j]? = some x → ∃ b o, A = some ⟨b, o, none⟩ ∧ w.cell? ⟨b, o + j, none⟩ = some (.int .i64 x) := fun j x hx => by
    obtain ⟨b, o, h3, h4⟩ := hrd j x hx
    exact ⟨b, o, h3, hw.made_grew.cell h4⟩
  have g0 : w.cell? ⟨g3, 0, none⟩ = some (.pointer (some ⟨D, 0, none⟩)) := Rd.blk (by rfl) w hs2
  clear hw hrd hs1 d1
  have hno : ∀ h : addOk l k kids = false, v = -1 ∧ l' = l := fun h => by
    rw [← hv1.out, ← hl'.out]
    unfold addV addN
    rw [h]
    exact ⟨rfl, rfl⟩
  have hy : ∀ h : addOk l k kids = true, v = (l.length : Int) ∧ l' = l ++ [⟨k, kids.map Int.toNat⟩] := fun h => by
    rw [← hv1.out, ← hl'.out]
    unfold addV addN
    rw [h]
    exact ⟨rfl, rfl⟩
  clear hv1 hl'
  by_cases h1 : 1000 ≤ l.length
  · obtain ⟨rfl, rfl⟩ := hno (by unfold addOk; rw [decide_eq_false (Nat.not_lt.2 h1)]; rfl)
    clear hno hy hr2
    go_wp2
    go_ret
    exact ⟨rfl, hs2.drop.ent (Ent.exshut HRs.out rfl rfl)⟩
  · by_cases h3 : 64 < m
    · obtain ⟨rfl, rfl⟩ := hno (by unfold addOk; rw [decide_eq_false (p := kids.length ≤ 64) (by rw [hm.out]; omega), Bool.and_false]; rfl)
      clear hno hy hr2
      go_wp2
      go_ret
      exact ⟨rfl, hs2.drop.ent (Ent.exshut HRs.out rfl rfl)⟩
    · by_cases h4 : k = 1
      · subst h4
        obtain ⟨rfl, rfl⟩ := hy (by unfold addOk; rw [decide_eq_true (Nat.lt_of_not_le h1), decide_eq_true (p := kids.length ≤ 64) (by rw [hm.out]; omega)]; rfl)
        have hnat := nat_ints (hk rfl)
        clear hno hy hk
        go_upto_region 4 with (fail)
        have hsN := hs2.only2
        refine wp_region_plain [false, false, false, false, false, false, false, true, true, true, true, false, false, true] hsN (by kernel_rfl) (by kernel_rfl) fun hne => ?_
        have e0 := (Rd.blk (w0 := w0) (g := g3) (k := 0) (cs := #[ptr D]) (v := .pointer (some ⟨D, 0, none⟩)) (t := 25) (L := [Ytkcbjkadalebjaa.blk D (exC N P l.length capN ss.length capP).toArray 62]) (by rfl)).alln
        have e1 := (Rd.blk (w0 := w0) (g := D) (k := 0) (cs := (exC N P l.length capN ss.length capP).toArray) (v := .slice N l.length capN) (t := 62) (L := []) (by rfl)).tail (p := Ytkcbjkadalebjaa.blk g3 #[ptr D] 25) |>.alln
        simp only [pickOps]
        repeat (go_big_quiet_step (fail))
        refine wpQuiet_nil ?_
        clear hne e0 e1
        simp only [chainIx]
        replace hs2 := hs2.drew
        clear hsN
        clear d0 hrd2 g0
        refine wpChainP_next rfl ?_
        go_wp2_with (first
          | (go_at_call 41; refine (clone_c hA hm.out (by omega) hs2 hr2).mono ?_; clear hs2 hr2; rintro e w' ⟨B, capB, rfl, hs2⟩))
        refine ⟨(hs2.ent (Ent.step (Ent.skip (Ent.refl _)) (Ent.step (Ent.skip (Ent.refl _)) (Ent.refl _)))).only2, ?_⟩
        refine wpChainP_next rfl ?_
        refine wpl_buildS (build_nodeE _ _ _ _) rfl ?_
        refine wpList_nil ⟨rfl, (hs2.ent (Ent.step (Ent.skip (Ent.refl _)) (Ent.step (Ent.skip (Ent.refl _)) (Ent.refl _)))).only2, ?_⟩
        refine wpChainP_next rfl ?_
        refine wpl_build1 (v := .agg #[.int .i64 (1 : Nat), .slice B m capB]) elemN (by decide) rfl rfl hs2 ?_
        clear hs2
        intro gb w hs2
        replace hs2 : St w0 (Ytkcbjkadalebjaa.blk gb #[.int .i64 (1 : Nat), .slice B m capB] 38 :: _) w := hs2
        refine wpList_nil ⟨rfl, (hs2.ent (Ent.step (Ent.skip (Ent.skip (Ent.refl _))) (Ent.step (Ent.skip (Ent.skip (Ent.refl _))) (Ent.refl _)))).only2, ?_⟩
        refine wpChainP_next rfl ?_
        refine wpl_append (A := N) (B := some ⟨gb, 0, none⟩) (n := l.length) (m := 1) (news := [.int .i64 (1 : Nat), .slice B m capB]) elemN rfl rfl hs2 (Ent.skip (Ent.skip (Ent.skip (Ent.skip (Ent.refl _))))) RdS.blk rfl (by intro u hu; simp at hu; rcases hu with rfl | rfl <;> rfl) (by unfold maxLen; omega) (by omega) ?_
        clear hs2
        intro N2 capN2 w hs2
        refine wpList_nil ⟨rfl, (hs2.ent (Ent.step (Ent.skip (Ent.skip (Ent.skip (Ent.refl _)))) (Ent.step (Ent.skip (Ent.skip (Ent.skip (Ent.refl _)))) (Ent.refl _)))).only2, ?_⟩
        refine wpChain_last rfl ?_
        replace hs2 := hs2.up4
        refine wpl_store (v := .slice N2 (l.length + 1) capN2) rfl rfl rfl size_slN hs2 (Wr.blk (by simp [exC])) ?_
        clear hs2
        intro w hs2
        replace hs2 : St w0 (Ytkcbjkadalebjaa.blk D (exC N2 P (l.length + 1) capN2 ss.length capP).toArray 62 :: _) w := hs2
        refine wpList_nil ⟨rfl, ?_⟩
        simp only [Act.put, List.setIfInBounds_toArray, List.set_cons_succ, List.set_cons_zero]
        have f0 : w.cell? ⟨g3, 0, none⟩ = some (.pointer (some ⟨D, 0, none⟩)) := Rd.blk (by rfl) w hs2.up4
        obtain ⟨f1, _⟩ := exRd hs2
        go_wp2
        go_ret
        refine ⟨by first | rfl | (congr 2; omega), ?_⟩
        exact ex_grown HRs.out hnat hm hs2.up2.drop.up2.rot.up3.drop
      · go_upto_region 4 with (first
          | (go_at_call 49; refine (containsf_c hm (by omega) hrd2 g0 d0).mono ?_; rintro e w' ⟨rfl, rfl⟩))
        · rename_i hq
          have hany : kids.any (bad l.length) = true := by
            rcases hq with (h | h) | h
            · omega
            · omega
            · exact h.2
          obtain ⟨rfl, rfl⟩ := hno (by unfold addOk; rw [hany, decide_eq_false h4]; simp)
          go_ret
          exact ⟨rfl, hs2.drop.ent (Ent.exshut HRs.out rfl rfl)⟩
        · have hq := ‹(_ ∧ _) ∧ (((k : Int) != 1) = false ∨ kids.any (bad l.length) = false)›
          have hany : kids.any (bad l.length) = false := by
            rcases hq.2 with h | h
            · simp at h; omega
            · exact h
          obtain ⟨rfl, rfl⟩ := hy (by unfold addOk; rw [hany, decide_eq_true (Nat.lt_of_not_le h1), decide_eq_true (p := kids.length ≤ 64) (by rw [hm.out]; omega)]; simp)
          have hnat := nat_ints (kids := kids) fun x hx => by
            have := List.any_eq_false.1 hany x hx
            simp [bad] at this
            omega
          clear hno hy hk hany hq
          go_upto_region 4 with (fail)
          have hsN := hs2.only2
          refine wp_region_plain [false, false, false, false, false, false, false, true, true, true, true, false, false, true] hsN (by kernel_rfl) (by kernel_rfl) fun hne => ?_
          have e0 := (Rd.blk (w0 := w0) (g := g3) (k := 0) (cs := #[ptr D]) (v := .pointer (some ⟨D, 0, none⟩)) (t := 25) (L := [Ytkcbjkadalebjaa.blk D (exC N P l.length capN ss.length capP).toArray 62]) (by rfl)).alln
          have e1 := (Rd.blk (w0 := w0) (g := D) (k := 0) (cs := (exC N P l.length capN ss.length capP).toArray) (v := .slice N l.length capN) (t := 62) (L := []) (by rfl)).tail (p := Ytkcbjkadalebjaa.blk g3 #[ptr D] 25) |>.alln
          simp only [pickOps]
          repeat (go_big_quiet_step (fail))
          refine wpQuiet_nil ?_
          clear hne e0 e1
          simp only [chainIx]
          replace hs2 := hs2.drew
          clear hsN
          clear d0 hrd2 g0
          refine wpChainP_next rfl ?_
          go_wp2_with (first
            | (go_at_call 41; refine (clone_c hA hm.out (by omega) hs2 hr2).mono ?_; clear hs2 hr2; rintro e w' ⟨B, capB, rfl, hs2⟩))
          refine ⟨(hs2.ent (Ent.step (Ent.skip (Ent.refl _)) (Ent.step (Ent.skip (Ent.refl _)) (Ent.refl _)))).only2, ?_⟩
          refine wpChainP_next rfl ?_
          refine wpl_buildS (build_nodeE _ _ _ _) rfl ?_
          refine wpList_nil ⟨rfl, (hs2.ent (Ent.step (Ent.skip (Ent.refl _)) (Ent.step (Ent.skip (Ent.refl _)) (Ent.refl _)))).only2, ?_⟩
          refine wpChainP_next rfl ?_
          refine wpl_build1 (v := .agg #[.int .i64 (k : Nat), .slice B m capB]) elemN (by decide) rfl rfl hs2 ?_
          clear hs2
          intro gb w hs2
          replace hs2 : St w0 (Ytkcbjkadalebjaa.blk gb #[.int .i64 (k : Nat), .slice B m capB] 38 :: _) w := hs2
          refine wpList_nil ⟨rfl, (hs2.ent (Ent.step (Ent.skip (Ent.skip (Ent.refl _))) (Ent.step (Ent.skip (Ent.skip (Ent.refl _))) (Ent.refl _)))).only2, ?_⟩
          refine wpChainP_next rfl ?_
          refine wpl_append (A := N) (B := some ⟨gb, 0, none⟩) (n := l.length) (m := 1) (news := [.int .i64 (k : Nat), .slice B m capB]) elemN rfl rfl hs2 (Ent.skip (Ent.skip (Ent.skip (Ent.skip (Ent.refl _))))) RdS.blk rfl (by intro u hu; simp at hu; rcases hu with rfl | rfl <;> rfl) (by unfold maxLen; omega) (by omega) ?_
          clear hs2
          intro N2 capN2 w hs2
          refine wpList_nil ⟨rfl, (hs2.ent (Ent.step (Ent.skip (Ent.skip (Ent.skip (Ent.refl _)))) (Ent.step (Ent.skip (Ent.skip (Ent.skip (Ent.refl _)))) (Ent.refl _)))).only2, ?_⟩
          refine wpChain_last rfl ?_
          replace hs2 := hs2.up4
          refine wpl_store (v := .slice N2 (l.length + 1) capN2) rfl rfl rfl size_slN hs2 (Wr.blk (by simp [exC])) ?_
          clear hs2
          intro w hs2
          replace hs2 : St w0 (Ytkcbjkadalebjaa.blk D (exC N2 P (l.length + 1) capN2 ss.length capP).toArray 62 :: _) w := hs2
          refine wpList_nil ⟨rfl, ?_⟩
          simp only [Act.put, List.setIfInBounds_toArray, List.set_cons_succ, List.set_cons_zero]
          have f0 : w.cell? ⟨g3, 0, none⟩ = some (.pointer (some ⟨D, 0, none⟩)) := Rd.blk (by rfl) w hs2.up4
          obtain ⟨f1, _⟩ := exRd hs2
          go_wp2
          go_ret
          refine ⟨by first | rfl | (congr 2; omega), ?_⟩
          exact ex_grown HRs.out hnat hm hs2.up2.drop.up2.rot.up3.drop
end Go.Proofs.Ytkcbjkadalebjaa
