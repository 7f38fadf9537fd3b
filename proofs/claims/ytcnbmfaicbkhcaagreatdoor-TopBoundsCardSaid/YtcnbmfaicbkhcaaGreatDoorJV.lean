/-
  XJV: joined of XRgLaw XRg XRg2 XRg3 XRg4.
-/
import Derived.Test.YtcnbmfaicbkhcaaGreatDoorJU
/-
  Components (reg.Reg): plain law; many slots as one assertion. No function of the program stands here.
-/
set_option maxRecDepth 100000
namespace Go.Proofs.YtcnbmfaicbkhcaaGreatDoor
open Go Go.RowKit

abbrev Cmp := Nat × SlS
theorem big_out : ∀ {M : List As} {k : Nat} {p : As} {h : Hl}, M[k]? = some p → big M h → star p (big (M.eraseIdx k)) h
  | [], k, p, h, e, _ => by simp at e
  | q :: M, 0, p, h, e, hb => by
    simp at e; subst e; exact hb
  | q :: M, k + 1, p, h, e, hb => by
    have hb' : star q (big M) h := hb
    exact star_left (star_mono (fun _ x => x) (fun _ x => big_out (by simpa using e) x) hb')
theorem big_in : ∀ {M : List As} {k : Nat} {p : As} {h : Hl}, k < M.length → star p (big (M.eraseIdx k)) h → big (M.set k p) h
  | [], k, p, h, e, _ => by simp at e
  | q :: M, 0, p, h, e, hb => hb
  | q :: M, k + 1, p, h, e, hb => by
    have hb' : star p (star q (big (M.eraseIdx k))) h := hb
    exact star_mono (fun _ x => x) (fun _ x => big_in (by simpa using e) x) (star_left hb')
/-- Some slots. -/
def Sls (l : List Cmp) : As := big (l.map fun (y : Cmp) => SlB y.1 y.2)
def SlsBut (l : List Cmp) (k : Nat) : As := big ((l.map fun (y : Cmp) => SlB y.1 y.2).eraseIdx k)
section
variable {w0 w : World} {L : List As} {l : List Cmp} {k : Nat} {x : Cmp}
theorem St.slsOut (hk : l[k]? = some x) (hs : St w0 (Sls l :: L) w) : St w0 (SlB x.1 x.2 :: SlsBut l k :: L) w :=
  hs.ent (Ent.open2 fun _ h => big_out (by simp [hk]) h)
theorem St.slsIn (hk : l[k]? = some x) {s' : SlS} (hs : St w0 (SlB x.1 s' :: SlsBut l k :: L) w) : St w0 (Sls (l.set k (x.1, s')) :: L) w := by
  refine hs.ent (Ent.shut2 fun _ h => ?_)
  have h2 := big_in (M := l.map fun (y : Cmp) => SlB y.1 y.2) (k := k) (p := SlB x.1 s') (by rw [List.length_map]; exact (List.getElem?_eq_some_iff.1 hk).1) h
  rwa [show (l.map fun (y : Cmp) => SlB y.1 y.2).set k (SlB x.1 s') = (l.set k (x.1, s')).map fun (y : Cmp) => SlB y.1 y.2 by rw [List.map_set]] at h2
theorem St.slsBack (hk : l[k]? = some x) (hs : St w0 (SlB x.1 x.2 :: SlsBut l k :: L) w) : St w0 (Sls l :: L) w := by
  have h := hs.slsIn hk
  have e : l.set k (x.1, x.2) = l := by
    obtain ⟨h1, h2⟩ := List.getElem?_eq_some_iff.1 hk
    rw [show (x.1, x.2) = x from rfl, ← h2, List.set_getElem_self]
  rwa [e] at h
theorem Ent.slsAdd {X : Nat} {s : SlS} : Ent (SlB X s :: Sls l :: L) (Sls (l ++ [(X, s)]) :: L) := by
  have h : ∀ (M : List As) (p : As) (h : Hl), star p (big M) h → big (M ++ [p]) h := by
    intro M
    induction M with
    | nil => exact fun p h hb => hb
    | cons q M ih => exact fun p h hb => star_mono (fun _ x => x) (fun _ x => ih p _ x) (star_left hb)
  refine Ent.shut2 fun x hx => ?_
  unfold Sls
  rw [List.map_append]
  exact h _ _ _ hx
theorem St.slsNil (hs : St w0 L w) : St w0 (Sls [] :: L) w := hs.ent fun _ h => emp_star h
end
/-- Which components an index has. -/
def hasAt (l : List Cmp) (i : Int) (c : Nat) : Bool := match l[c]? with
  | some x => x.2.has i
  | none => false
def ofN (l : List Cmp) (i : Int) (k : Nat) : List Nat := (List.range k).filter (hasAt l i)
theorem ofN_succ (l : List Cmp) (i : Int) (k : Nat) : ofN l i (k + 1) = if hasAt l i k then ofN l i k ++ [k] else ofN l i k := by
  unfold ofN
  rw [List.range_succ, List.filter_append]
  cases h : hasAt l i k <;> simp [h]
theorem ofN_le (l : List Cmp) (i : Int) (k : Nat) : (ofN l i k).length ≤ k := by
  unfold ofN
  exact Nat.le_trans (List.length_filter_le _ _) (by simp)
theorem mem_ofN {l : List Cmp} {i : Int} {k c : Nat} : c ∈ ofN l i k ↔ c < k ∧ hasAt l i c = true := by simp [ofN]
theorem ofN_nodup (l : List Cmp) (i : Int) (k : Nat) : (ofN l i k).Nodup := List.Pairwise.filter _ List.nodup_range
/-- Some components stripped of an index. -/
def strF (i : Int) : List Cmp → List Nat → List Cmp
  | l, [] => l
  | l, c :: o => strF i (match l[c]? with | some x => l.set c (x.1, x.2.take i) | none => l) o
theorem strF_get (i : Int) : ∀ (o : List Nat) (l : List Cmp) (c : Nat), o.Nodup → (strF i l o)[c]? = if c ∈ o then l[c]?.map (fun x => (x.1, x.2.take i)) else l[c]?
  | [], l, c, _ => by simp [strF]
  | a :: o, l, c, h => by
    obtain ⟨h1, h2⟩ := List.nodup_cons.1 h
    unfold strF
    rw [strF_get i o _ c h2]
    cases ha : l[a]? with
    | none =>
      simp only
      by_cases hc : c ∈ o
      · rw [if_pos hc, if_pos (List.mem_cons_of_mem _ hc)]
      · rw [if_neg hc]
        by_cases e : c = a
        · subst e; rw [if_pos List.mem_cons_self, ha]; rfl
        · rw [if_neg (by simp [e, hc])]
    | some x =>
      simp only
      by_cases hc : c ∈ o
      · have e : c ≠ a := fun e => h1 (e ▸ hc)
        rw [if_pos hc, if_pos (List.mem_cons_of_mem _ hc), List.getElem?_set, if_neg (fun h => e h.symm)]
      · rw [if_neg hc]
        by_cases e : c = a
        · subst e
          rw [if_pos List.mem_cons_self, List.getElem?_set, if_pos rfl, ha]
          have := (List.getElem?_eq_some_iff.1 ha).1
          simp [this]
        · rw [if_neg (by simp [e, hc]), List.getElem?_set, if_neg (fun h => e h.symm)]
theorem strF_app (i : Int) : ∀ (o : List Nat) (l : List Cmp) (c : Nat), strF i l (o ++ [c]) = (match (strF i l o)[c]? with | some x => (strF i l o).set c (x.1, x.2.take i) | none => strF i l o)
  | [], l, c => rfl
  | a :: o, l, c => by
    rw [List.cons_append]
    unfold strF
    exact strF_app i o _ c
def strL (l : List Cmp) (i : Int) : List Cmp := l.map fun x => (x.1, x.2.take i)
theorem strF_all (l : List Cmp) (i : Int) : strF i l (ofN l i l.length) = strL l i := by
  apply List.ext_getElem?
  intro c
  rw [strF_get _ _ _ _ (ofN_nodup _ _ _), strL, List.getElem?_map]
  by_cases hc : c ∈ ofN l i l.length
  · rw [if_pos hc]
  · rw [if_neg hc]
    cases hl : l[c]? with
    | none => rfl
    | some x =>
      have hlt := (List.getElem?_eq_some_iff.1 hl).1
      have hh : x.2.has i = false := by
        cases hx : x.2.has i with
        | false => rfl
        | true => exact absurd (mem_ofN.2 ⟨hlt, by unfold hasAt; rw [hl]; exact hx⟩) hc
      rw [Option.map_some, SlS.take_no hh]
def rgP (l : List Cmp) : List Value := l.map fun x => .pointer (some ⟨x.1, 0, none⟩)
theorem rgP_get {l : List Cmp} {k : Nat} {x : Cmp} (h : l[k]? = some x) : (rgP l)[k]? = some (.pointer (some ⟨x.1, 0, none⟩)) := by simp [rgP, h]
theorem rgP_set {l : List Cmp} {k : Nat} {x : Cmp} (h : l[k]? = some x) (s : SlS) : rgP (l.set k (x.1, s)) = rgP l := by
  unfold rgP
  rw [List.map_set]
  apply List.ext_getElem?
  intro j
  rw [List.getElem?_set]
  split
  · rename_i e
    subst e
    rw [List.getElem?_map, h]
    have := (List.getElem?_eq_some_iff.1 h).1
    simp [this]
  · rfl
theorem rgP_strL (l : List Cmp) (i : Int) : rgP (strL l i) = rgP l := by simp [rgP, strL]
theorem rgP_append (a b : List Cmp) : rgP (a ++ b) = rgP a ++ rgP b := by simp [rgP]
/-- The error of adding. -/
def rgE (l : List Cmp) (d : V3) : Int := if descE d = 0 then (if 64 ≤ l.length then 2 else 0) else descE d
end Go.Proofs.YtcnbmfaicbkhcaaGreatDoor

/-
  Components (reg.Reg): the memory; New, Len, Slot, Add, Of, Strip.
-/
set_option maxRecDepth 100000
namespace Go.Proofs.YtcnbmfaicbkhcaaGreatDoor
open Go Go.RowKit
attribute [local irreducible] wpList Calls Code.wp okI okN pS tS memS getG pG insS delS getV pV tV okVal newSl SlS.put SlS.err SlS.putU SlS.putB descE SlS.take

def rgC (A : Option Addr) (n cap : Nat) : Array Value := #[.slice A n cap]
def RgB (R : Nat) (l : List Cmp) : As := fun h => l.length ≤ 64 ∧ ∃ A cap, star (blk R (rgC A l.length cap) 358) (star (own A l.length cap 360 1 (rgP l)) (Sls l)) h
theorem St.rgopen {w0 w : World} {R : Nat} {l : List Cmp} {L : List As} (hs : St w0 (RgB R l :: L) w) :
    l.length ≤ 64 ∧ ∃ A cap, St w0 (YtcnbmfaicbkhcaaGreatDoor.blk R (rgC A l.length cap) 358 :: own A l.length cap 360 1 (rgP l) :: Sls l :: L) w := by
  obtain ⟨hb, h, r, hd, hu, a, b, hab, rfl, ⟨hok, A, cap, ht⟩, hl⟩ := hs
  have h1 : St w0 (star (YtcnbmfaicbkhcaaGreatDoor.blk R (rgC A l.length cap) 358) (star (own A l.length cap 360 1 (rgP l)) (Sls l)) :: L) w := ⟨hb, _, r, hd, hu, a, b, hab, rfl, ht, hl⟩
  exact ⟨hok, A, cap, (h1.ent (Ent.open2 fun _ h => h)).ent (Ent.cons _ (Ent.open2 fun _ h => h))⟩
theorem St.rgshut {w0 w : World} {R n : Nat} {l : List Cmp} {L : List As} {A : Option Addr} {cap : Nat} {ps : List Value} (hok : l.length ≤ 64) (hn : n = l.length) (hp : ps = rgP l)
    (hs : St w0 (YtcnbmfaicbkhcaaGreatDoor.blk R (rgC A n cap) 358 :: own A n cap 360 1 ps :: Sls l :: L) w) : St w0 (RgB R l :: L) w := by
  subst hn hp
  exact ((hs.ent (Ent.cons _ (Ent.shut2 fun _ h => h))).ent (Ent.shut2 fun _ h => h)).conv fun _ h => ⟨hok, A, cap, h⟩
theorem Rd.rg0 {w0 : World} {R n cap : Nat} {A : Option Addr} {L : List As} {t : TypeId} : Rd w0 (YtcnbmfaicbkhcaaGreatDoor.blk R (rgC A n cap) t :: L) ⟨R, 0, none⟩ (.slice A n cap) := Rd.blk rfl
theorem Wr.rg0 {w0 : World} {R n cap n' cap' : Nat} {A A' : Option Addr} {L : List As} {t : TypeId} : Wr w0 (YtcnbmfaicbkhcaaGreatDoor.blk R (rgC A n cap) t :: L) ⟨R, 0, none⟩ (.slice A' n' cap') (YtcnbmfaicbkhcaaGreatDoor.blk R (rgC A' n' cap') t :: L) := Wr.blk (by simp [rgC])
theorem elemRow : ElemOk Tryz.prog 356 360 1 8 := ElemOk.of Tryz.underlying356 (z := .agg #[.pointer none]) (by kernel_rfl) rfl (by decide)
theorem sizeRows : (Tryz.prog.info? 356).map (·.size) = some 1 := by kernel_rfl
theorem build_rg (w : World) : (Instr.build 358 #[]).run Tryz.prog w = .ok (.agg (rgC none 0 0)) w := by kernel_rfl
theorem build_row (X : Nat) (w : World) : (Instr.build 360 #[(0, .pointer (some ⟨X, 0, none⟩))]).run Tryz.prog w = .ok (.agg #[.pointer (some ⟨X, 0, none⟩)]) w := by kernel_rfl
theorem rg_new {w0 w : World} {L : List As} (hs : St w0 L w) : Calls Tryz.prog 177 #[] w fun e w' => ∃ R, e = .returned (.pointer (some ⟨R, 0, none⟩)) ∧ St w0 (RgB R [] :: L) w' := by
  go_enter Tryz.func177, Tryz.ntmps177
  go_wp2_with (first
    | (refine wpl_buildS (vs := []) build_rg rfl ?_)
    | (refine wpl_box_v (v := .agg (rgC none 0 0)) rfl hs ?_; clear hs; intro R w hs))
  go_ret
  have h3 := ((hs.slsNil).own_nil 360 1)
  have h4 : St w0 (YtcnbmfaicbkhcaaGreatDoor.blk R (rgC none 0 0) 358 :: own none 0 0 360 1 [] :: Sls [] :: L) w := h3.ent (by (repeat first | exact Ent.refl _ | refine Ent.step (by repeat first | exact Ent.refl _ | apply Ent.skip) ?_))
  exact ⟨R, rfl, St.rgshut (by decide) rfl rfl h4⟩
theorem rg_slot_no {w0 w : World} {L : List As} {R : Nat} {l : List Cmp} (hs : St w0 (RgB R l :: L) w) {c : Int} (hc : c < 0 ∨ (l.length : Int) ≤ c) :
    Calls Tryz.prog 180 #[.pointer (some ⟨R, 0, none⟩), .int .i64 c] w fun e w' => e = .returned (.tuple #[.pointer none, .int .i64 11]) ∧ w = w' := by
  obtain ⟨hle, A, cap, hs⟩ := hs.rgopen
  have hr := Rd.rg0 _ hs
  generalize l.length = n at *
  clear hle
  rcases hc with hc | hc
  · go_enter Tryz.func180, Tryz.ntmps180
    go_wp2
    go_ret2
    exact ⟨rfl, rfl⟩
  · have h0 : ¬ c < 0 := by omega
    go_enter Tryz.func180, Tryz.ntmps180
    go_wp2
    go_ret2
    exact ⟨rfl, rfl⟩
theorem rg_slot {w0 w : World} {L : List As} {R : Nat} {l : List Cmp} (hs : St w0 (RgB R l :: L) w) {c : Nat} {x : Cmp} (hc : l[c]? = some x) {X : Nat} (hX : Hid (x.1 = X)) :
    Calls Tryz.prog 180 #[.pointer (some ⟨R, 0, none⟩), .int .i64 (c : Nat)] w fun e w' => e = .returned (.tuple #[.pointer (some ⟨X, 0, none⟩), .int .i64 0]) ∧ w = w' := by
  obtain ⟨hle, A, cap, hs⟩ := hs.rgopen
  have hlt := (List.getElem?_eq_some_iff.1 hc).1
  have hg := rgP_get hc
  rw [hX.out] at hg
  have hr := Rd.rg0 _ hs
  obtain ⟨gA, rfl⟩ := hs.rot.own_at (by omega)
  have hp := Rd.own (w0 := w0) (g := gA) (n := l.length) (cap := cap) (e := 360) (size := 1) (L := blk R (rgC (some ⟨gA, 0, none⟩) l.length cap) 358 :: Sls l :: L) hg _ hs.rot
  clear hg hc
  generalize l.length = n at *
  go_enter Tryz.func180, Tryz.ntmps180
  go_wp2
  go_ret2
  exact ⟨rfl, rfl⟩
end Go.Proofs.YtcnbmfaicbkhcaaGreatDoor

/-
  Components (reg.Reg), 2: Add, Of.
-/
set_option maxRecDepth 100000
namespace Go.Proofs.YtcnbmfaicbkhcaaGreatDoor
open Go Go.RowKit
attribute [local irreducible] wpList Calls Code.wp okI okN pS tS memS getG pG insS delS getV pV tV okVal newSl SlS.put SlS.err SlS.putU SlS.putB descE SlS.take

theorem rg_add_no {w0 w : World} {L : List As} {R : Nat} {l : List Cmp} (hs : St w0 (RgB R l :: L) w) (d : V3) {e : Int} (he : Hid (rgE l d = e)) (h0 : e ≠ 0) :
    Calls Tryz.prog 178 #[.pointer (some ⟨R, 0, none⟩), val3 d] w fun r w' => r = .returned (.tuple #[.int .i64 0, .int .i64 e]) ∧ St w0 (RgB R l :: L) w' := by
  obtain ⟨hle, A, cap, hs⟩ := hs.rgopen
  have hr := fun L => Rd.rg0 (w0 := w0) (R := R) (A := A) (n := l.length) (cap := cap) (t := 358) (L := L)
  by_cases hd : descE d = 0
  · have h1 := he.out
    unfold rgE at h1
    rw [if_pos hd] at h1
    have h64 : 64 ≤ l.length := by
      by_cases h : 64 ≤ l.length
      · exact h
      · rw [if_neg h] at h1; exact absurd h1.symm h0
    rw [if_pos h64] at h1
    subst h1
    have HD := Lib.hid hd
    have hlen : l.length = 64 := by omega
    clear hd he h0 h64
    go_enter Tryz.func178, Tryz.ntmps178
    go_upto_region 2 with (first
      | (refine wpl_box_v (v := val3 d) rfl hs ?_; clear hs; intro g3 w hs)
      | (refine wpl_load3 (v := d) rfl (has3_slot (t := 120)) agg3D (size3Dn (v := V3.z)) hs ?_)
      | (go_at_call 244; refine (sl_new hs d HD).mono ?_; clear hs; rintro r w ⟨X, v, F, rfl, hs⟩))
    have hc := hr _ _ hs.drop.drop
    rw [hlen] at hc
    have HL := Lib.hid hlen
    clear hlen hle
    go_wp2
    go_ret2
    exact ⟨rfl, hs.drop.drop.rgshut (by rw [HL.out]; decide) rfl rfl⟩
  · have h1 := he.out
    unfold rgE at h1
    rw [if_neg hd] at h1
    have HD : Hid (descE d = e) := h1
    have d0 : (e == 0) = false := by simpa using h0
    clear he hd h1
    go_enter Tryz.func178, Tryz.ntmps178
    go_wp2_with (first
      | (refine wpl_box_v (v := val3 d) rfl hs ?_; clear hs; intro g3 w hs)
      | (refine wpl_load3 (v := d) rfl (has3_slot (t := 120)) agg3D (size3Dn (v := V3.z)) hs ?_)
      | (go_at_call 244; refine (sl_new_no d HD h0).mono ?_; rintro r w ⟨rfl, hg⟩; replace hs := hs.grew hg; clear hg))
    go_ret2
    exact ⟨rfl, hs.drop.rgshut hle rfl rfl⟩
set_option maxHeartbeats 1000000 in
theorem rg_add {w0 w : World} {L : List As} {R : Nat} {l : List Cmp} (hs : St w0 (RgB R l :: L) w) (d : V3) (he : Hid (rgE l d = 0)) {n : Nat} (hn : Hid (l.length = n)) :
    Calls Tryz.prog 178 #[.pointer (some ⟨R, 0, none⟩), val3 d] w fun r w' => ∃ X v F, r = .returned (.tuple #[.int .i64 (n : Nat), .int .i64 0]) ∧ St w0 (RgB R (l ++ [(X, newSl d v F)]) :: L) w' := by
  obtain ⟨hle, A, cap, hs⟩ := hs.rgopen
  have h1 := he.out
  unfold rgE at h1
  have HD : Hid (descE d = 0) := by
    by_cases hd : descE d = 0
    · exact hd
    · rw [if_neg hd] at h1; exact absurd h1 hd
  rw [if_pos HD.out] at h1
  have h64 : l.length < 64 := by
    by_cases h : 64 ≤ l.length
    · rw [if_pos h] at h1; cases h1
    · omega
  rw [hn.out] at hs h64
  have hr := fun L => Rd.rg0 (w0 := w0) (R := R) (A := A) (n := n) (cap := cap) (t := 358) (L := L)
  clear h1 he hle
  go_enter Tryz.func178, Tryz.ntmps178
  go_upto_region 2 with (first
    | (refine wpl_box_v (v := val3 d) rfl hs ?_; clear hs; intro g3 w hs)
    | (refine wpl_load3 (v := d) rfl (has3_slot (t := 120)) agg3D (size3Dn (v := V3.z)) hs ?_)
    | (go_at_call 244; refine (sl_new hs d HD).mono ?_; clear hs; rintro r w ⟨X, v, F, rfl, hs⟩))
  replace hs : St w0 (blk R (rgC A n cap) 358 :: own A n cap 360 1 (rgP l) :: SlB X (newSl d v F) :: Sls l :: L) w := (hs.rot.drop).ent (by (repeat first | exact Ent.refl _ | refine Ent.step (by repeat first | exact Ent.refl _ | apply Ent.skip) ?_))
  have hc := hr _ _ hs
  go_upto_region 7 with (first
    | (refine wpl_buildS (build_row X) rfl ?_)
    | (refine wpl_build1 (v := .agg #[.pointer (some ⟨X, 0, none⟩)]) elemRow (by decide) rfl rfl hs ?_; clear hs hc; intro G w hs)
    | (refine wpl_append (A := A) (n := n) (cap := cap) (xs := rgP l) (m := 1) (news := [.pointer (some ⟨X, 0, none⟩)]) elemRow rfl rfl hs (L' := blk G (Value.agg #[.pointer (some ⟨X, 0, none⟩)]).cells 360 :: blk R (rgC A n cap) 358 :: SlB X (newSl d v F) :: Sls l :: L) (by (repeat first | exact Ent.refl _ | refine Ent.step (by repeat first | exact Ent.refl _ | apply Ent.skip) ?_)) RdS.blk rfl (by simp; rfl) (by unfold maxLen; omega) (by omega) ?_; clear hs; intro B3 cap3 w hs; replace hs : St w0 (blk R (rgC A n cap) 358 :: own B3 (n + 1) cap3 360 1 (rgP l ++ [.pointer (some ⟨X, 0, none⟩)]) :: SlB X (newSl d v F) :: Sls l :: L) w := (hs.rot.drop).ent (by (repeat first | exact Ent.refl _ | refine Ent.step (by repeat first | exact Ent.refl _ | apply Ent.skip) ?_)))
    | (refine wpl_store rfl rfl rfl sizeRows hs (Wr.rg0 (A' := B3) (n' := n + 1) (cap' := cap3)) ?_; clear hs; intro w hs))
  have hc := Rd.rg0 _ hs
  go_wp2
  go_ret2
  refine ⟨X, v, F, by go_num, ?_⟩
  have h1 : (l ++ [(X, newSl d v F)]).length = n + 1 := by rw [List.length_append, hn.out]; rfl
  have h2 : rgP (l ++ [(X, newSl d v F)]) = rgP l ++ [.pointer (some ⟨X, 0, none⟩)] := rgP_append _ _
  exact St.rgshut (l := l ++ [(X, newSl d v F)]) (by rw [h1]; exact h64) h1.symm h2.symm (hs.ent (Ent.cons _ (Ent.cons _ Ent.slsAdd)))
def nsV (l : List Nat) : List Value := l.map fun c => .int .i64 (c : Nat)
theorem elemN : ElemOk Tryz.prog 22 3 1 8 := ElemOk.of Tryz.underlying22 (z := .int .i64 0) (by kernel_rfl) rfl (by decide)
theorem zeroRow : (Tryz.prog.info? 360).bind (·.zero) = some (.agg #[.pointer none]) := by kernel_rfl
theorem sizeRowV (X : Nat) : (Tryz.prog.info? 360).map (·.size) = some (Value.agg #[.pointer (some ⟨X, 0, none⟩)]).cells.size := by kernel_rfl
theorem WrA.row {w0 : World} {g X : Nat} {t : TypeId} {L : List As} {u : Value} : WrA w0 (YtcnbmfaicbkhcaaGreatDoor.blk g #[u] t :: L) ⟨g, 0, none⟩ (Value.agg #[.pointer (some ⟨X, 0, none⟩)]).cells.toList (YtcnbmfaicbkhcaaGreatDoor.blk g #[.pointer (some ⟨X, 0, none⟩)] t :: L) := by
  have := WrA.blk (w0 := w0) (g := g) (o := 0) (cs := [u]) (t := t) (vs := [.pointer (some ⟨X, 0, none⟩)]) (L := L) (by simp) (by simp; rfl)
  exact this
set_option maxHeartbeats 2000000 in
theorem rg_of {w0 w : World} {L : List As} {R : Nat} {l : List Cmp} (hs : St w0 (RgB R l :: L) w) {i : Int} (hi : (Lit.int .i64 i).wf = true) {o : List Nat} (ho : Hid (ofN l i l.length = o)) :
    Calls Tryz.prog 174 #[.pointer (some ⟨R, 0, none⟩), .int .i64 i] w fun e w' => ∃ B m cap, Hid (o.length = m) ∧ e = .returned (.slice B m cap) ∧ St w0 (own B m cap 3 1 (nsV o) :: RgB R l :: L) w' := by
  obtain ⟨hle, A, cap, hs⟩ := hs.rgopen
  obtain ⟨n, hn⟩ : ∃ n, Hid (l.length = n) := ⟨_, rfl⟩
  rw [hn.out] at hs hle ho
  have hr := Rd.rg0 _ hs
  go_enter Tryz.func174, Tryz.ntmps174
  go_wp2
  clear hr
  go_loopw [5, 15] (fun bv cv wr => ∃ (k m cB : Nat) (B : Option Addr), k ≤ n ∧ Hid ((ofN l i k).length = m) ∧ bv = .slice B m cB ∧ cv = .int .i64 (k : Nat) ∧ St w0 (own B m cB 3 1 (nsV (ofN l i k)) :: blk R (rgC A n cap) 358 :: own A n cap 360 1 (rgP l) :: Sls l :: L) wr) (fun _ cv _ => n - (intOf cv).toNat)
  case atStart => exact ⟨0, 0, 0, none, Nat.zero_le _, rfl, rfl, rfl, hs.own_nil _ _⟩
  case round =>
    clear hs
    obtain ⟨k, m, cB, B, hk, hm, rfl, rfl, hs⟩ := hrel
    have hmk : m ≤ k := by rw [← hm.out]; exact ofN_le _ _ _
    by_cases hlt : k < n
    · obtain ⟨x, hx⟩ : ∃ x, l[k]? = some x := ⟨_, List.getElem?_eq_getElem (by rw [hn.out]; exact hlt)⟩
      obtain ⟨X, s⟩ := x
      obtain ⟨gA, rfl⟩ := (hs.up2).own_at (by omega)
      have hrx := ((Rd.own (w0 := w0) (g := gA) (n := n) (cap := cap) (e := 360) (size := 1) (L := Sls l :: L) (rgP_get hx)).tail (p := blk R (rgC (some ⟨gA, 0, none⟩) n cap) 358)).tail (p := own B m cB 3 1 (nsV (ofN l i k)))
      have HX := Lib.hid hx
      obtain ⟨u, hu⟩ : ∃ u, Hid (s.get i = u) := ⟨_, rfl⟩
      obtain ⟨b, hb⟩ : ∃ u, Hid (s.has i = u) := ⟨_, rfl⟩
      obtain ⟨v, hv⟩ : ∃ u, Hid (s.pv = u) := ⟨_, rfl⟩
      have hha : Hid (hasAt l i k = b) := by rw [Hid]; unfold hasAt; rw [hx]; exact hb.out
      have hcx := hrx _ hs
      clear hx
      go_upto_region 5 with (first
        | (refine wpl_alloc zeroRow hs ?_; clear hs; intro g7 w hs)
        | (refine wpl_store_agg (v := .agg #[.pointer (some ⟨X, 0, none⟩)]) rfl rfl (sizeRowV X) hs WrA.row ?_; clear hs; intro w hs))
      replace hs : St w0 (SlB X s :: SlsBut l k :: blk g7 #[.pointer (some ⟨X, 0, none⟩)] 360 :: own B m cB 3 1 (nsV (ofN l i k)) :: blk R (rgC (some ⟨gA, 0, none⟩) n cap) 358 :: own (some ⟨gA, 0, none⟩) n cap 360 1 (rgP l) :: L) w :=
        (St.slsOut HX.out (hs.ent (M := Sls l :: blk g7 #[.pointer (some ⟨X, 0, none⟩)] 360 :: own B m cB 3 1 (nsV (ofN l i k)) :: blk R (rgC (some ⟨gA, 0, none⟩) n cap) 358 :: own (some ⟨gA, 0, none⟩) n cap 360 1 (rgP l) :: L) (by (repeat first | exact Ent.refl _ | refine Ent.step (by repeat first | exact Ent.refl _ | apply Ent.skip) ?_))))
      have hc7 := (Rd.blk (w0 := w0) (g := g7) (k := 0) (cs := #[.pointer (some ⟨X, 0, none⟩)]) (t := 360) (L := own B m cB 3 1 (nsV (ofN l i k)) :: blk R (rgC (some ⟨gA, 0, none⟩) n cap) 358 :: own (some ⟨gA, 0, none⟩) n cap 360 1 (rgP l) :: L) (v := .pointer (some ⟨X, 0, none⟩)) rfl) _ hs.drop.drop
      go_upto_region 6 with (first
        | (refine wpl_load (v := v) rfl one_pl hs (Rd.slp_v hv) ?_)
        | (refine wpl_inv1 (v := v) (v1 := .int .i64 i) rfl rfl (sl_get hs hv hi hu hb) ?_; rintro r w ⟨rfl, hg⟩; replace hs := hs.grew hg; clear hg)
        | (refine wpl_alloc zero3 hs ?_; clear hs; intro g8 w hs)
        | (refine wpl_store_agg (v := val3 u) rfl rfl (size3 _) hs WrA.slot3 ?_; clear hs; intro w hs; replace hs := hs.drop))
      replace hs : St w0 (own B m cB 3 1 (nsV (ofN l i k)) :: blk R (rgC (some ⟨gA, 0, none⟩) n cap) 358 :: own (some ⟨gA, 0, none⟩) n cap 360 1 (rgP l) :: Sls l :: L) w := (St.slsBack HX.out hs).rot.drop.ent (by (repeat first | exact Ent.refl _ | refine Ent.step (by repeat first | exact Ent.refl _ | apply Ent.skip) ?_))
      cases b
      · have ho2 : ofN l i (k + 1) = ofN l i k := by rw [ofN_succ, hha.out]; rfl
        have hm2 : Hid ((ofN l i (k + 1)).length = m) := by rw [Hid, ho2]; exact hm.out
        rw [← ho2] at hs
        clear hrx hcx hc7 hm ho2
        go_wp2
        go_roundw
        case rel => exact ⟨k + 1, m, cB, B, by omega, hm2, rfl, by go_num, hs⟩
        case measure => simp [intOf] <;> omega
      · have ho2 : ofN l i (k + 1) = ofN l i k ++ [k] := by rw [ofN_succ, hha.out]; rfl
        have hm2 : Hid ((ofN l i (k + 1)).length = m + 1) := by rw [Hid, ho2, List.length_append, hm.out]; rfl
        have hv2 : Hid (nsV (ofN l i (k + 1)) = nsV (ofN l i k) ++ [.int .i64 (k : Nat)]) := by rw [Hid, ho2]; unfold nsV; rw [List.map_append]; rfl
        clear hrx hcx hc7 ho2
        go_wp2_with (first
          | (refine wpl_build1 (v := .int .i64 (k : Nat)) elemN (by decide) rfl rfl hs ?_; clear hs; intro G w hs)
          | (refine wpl_append (A := B) (n := m) (cap := cB) (xs := nsV (ofN l i k)) (m := 1) (news := [.int .i64 (k : Nat)]) elemN rfl rfl hs (L' := blk G (Value.int .i64 (k : Nat)).cells 3 :: blk R (rgC (some ⟨gA, 0, none⟩) n cap) 358 :: own (some ⟨gA, 0, none⟩) n cap 360 1 (rgP l) :: Sls l :: L) (by (repeat first | exact Ent.refl _ | refine Ent.step (by repeat first | exact Ent.refl _ | apply Ent.skip) ?_)) RdS.blk rfl (by simp; rfl) (by unfold maxLen; omega) (by omega) ?_; clear hs; intro B3 cap3 w hs; replace hs := hs.rot.drop.rot))
        rw [← hv2.out] at hs
        go_roundw
        case rel => exact ⟨k + 1, m + 1, cap3, B3, by omega, hm2, rfl, by go_num, hs.rot⟩
        case measure => simp [intOf] <;> omega
    · obtain rfl : k = n := by omega
      go_wp2
      go_ret
      refine ⟨B, m, cB, by rw [Hid, ← ho.out]; exact hm.out, rfl, ?_⟩
      rw [ho.out] at hs
      exact (hs.dn3.rgshut (by rw [hn.out]; exact hle) hn.out.symm rfl).rot
end Go.Proofs.YtcnbmfaicbkhcaaGreatDoor

/-
  Components (reg.Reg), 3: Strip, Descs.
-/
set_option maxRecDepth 100000
namespace Go.Proofs.YtcnbmfaicbkhcaaGreatDoor
open Go Go.RowKit
attribute [local irreducible] wpList Calls Code.wp okI okN pS tS memS getG pG insS delS getV pV tV okVal newSl SlS.put SlS.err SlS.putU SlS.putB descE SlS.take

theorem nsV_get {l : List Nat} {j c : Nat} (h : l[j]? = some c) : (nsV l)[j]? = some (.int .i64 (c : Nat)) := by simp [nsV, h]
set_option maxHeartbeats 2000000 in
theorem rg_strip {w0 w : World} {L : List As} {R : Nat} {l : List Cmp} (hs : St w0 (RgB R l :: L) w) {i : Int} (hi : (Lit.int .i64 i).wf = true) (hev : ∀ x ∈ l, x.2.evs.length < 4611686018427387904) {m : Nat} (hm : Hid ((ofN l i l.length).length = m)) {l' : List Cmp} (hl' : Hid (strL l i = l')) :
    Calls Tryz.prog 197 #[.pointer (some ⟨R, 0, none⟩), .int .i64 i] w fun e w' => e = .returned (.int .i64 (m : Nat)) ∧ St w0 (RgB R l' :: L) w' := by
  have HO := Lib.hid (fun (w : World) (hs : St w0 (RgB R l :: L) w) => rg_of hs hi (o := ofN l i l.length) rfl)
  have hnd := ofN_nodup l i l.length
  have hml := ofN_le l i l.length
  have hmem : ∀ c ∈ ofN l i l.length, c < l.length := fun c h => (mem_ofN.1 h).1
  have hall := strF_all l i
  obtain ⟨o, ho⟩ : ∃ o, Hid (ofN l i l.length = o) := ⟨_, rfl⟩
  rw [ho.out] at HO hnd hm hml hmem hall
  rw [hm.out] at hml
  have HND := Lib.hid hnd
  have HMEM := Lib.hid hmem
  have HALL := Lib.hid hall
  have HEV := Lib.hid hev
  have h64 := (hs.rgopen).1
  clear hnd hmem hall hev ho
  go_enter Tryz.func197, Tryz.ntmps197
  go_wp2_with (first
    | (go_at_call 174; refine (HO.out _ hs).mono ?_; clear hs; rintro e w ⟨B, m', cB, hm', rfl, hs⟩; obtain rfl : m = m' := by (rw [← hm.out, ← hm'.out]))) 
  clear HO hm'
  obtain ⟨hle, A, cap, hs2⟩ := hs.rot.rgopen
  obtain ⟨n, hn⟩ : ∃ n, Hid (l.length = n) := ⟨_, rfl⟩
  rw [hn.out] at hs2 hle hml h64
  have hs3 : St w0 (own B m cB 3 1 (nsV o) :: blk R (rgC A n cap) 358 :: own A n cap 360 1 (rgP l) :: Sls (strF i l (o.take 0)) :: L) w := by
    rw [List.take_zero]; exact hs2.up3
  clear hs hs2
  go_loopw [13] (fun cv wr => ∃ k : Nat, k ≤ m ∧ cv = .int .i64 (k : Nat) ∧ St w0 (own B m cB 3 1 (nsV o) :: blk R (rgC A n cap) 358 :: own A n cap 360 1 (rgP l) :: Sls (strF i l (o.take k)) :: L) wr) (fun cv _ => m - (intOf cv).toNat)
  case atStart => exact ⟨0, Nat.zero_le _, rfl, hs3⟩
  case round =>
    clear hs3
    obtain ⟨k, hk, rfl, hs⟩ := hrel
    by_cases hlt : k < m
    · obtain ⟨c, hc⟩ : ∃ c, o[k]? = some c := ⟨_, List.getElem?_eq_getElem (by rw [hm.out]; exact hlt)⟩
      have hcn : c < n := by rw [← hn.out]; exact HMEM.out c (List.mem_of_getElem? hc)
      obtain ⟨x, hx⟩ : ∃ x, l[c]? = some x := ⟨_, List.getElem?_eq_getElem (by rw [hn.out]; exact hcn)⟩
      have hnot : c ∉ o.take k := by
        intro hmem
        obtain ⟨hkl, hke⟩ := List.getElem?_eq_some_iff.1 hc
        obtain ⟨j, hj, hje⟩ := List.getElem_of_mem hmem
        rw [List.length_take] at hj
        rw [List.getElem_take] at hje
        exact List.pairwise_iff_getElem.1 HND.out j k (by omega) hkl (by omega) (hje.trans hke.symm)
      have hcx : (strF i l (o.take k))[c]? = some x := by rw [strF_get i _ _ _ (HND.out.sublist (List.take_sublist _ _)), if_neg hnot, hx]
      have HNX : Hid (strF i l (o.take (k + 1)) = (strF i l (o.take k)).set c (x.1, x.2.take i)) := by
        obtain ⟨hkl, hke⟩ := List.getElem?_eq_some_iff.1 hc
        rw [Hid, List.take_succ_eq_append_getElem hkl, hke, strF_app, hcx]
      have hxe : x.2.evs.length < 4611686018427387904 := HEV.out x (List.mem_of_getElem? hx)
      obtain ⟨X, s⟩ := x
      obtain ⟨gB, rfl⟩ := hs.own_at (by omega)
      obtain ⟨gA, rfl⟩ := (hs.up2).own_at (by omega)
      have hrb := Rd.own (w0 := w0) (g := gB) (n := m) (cap := cB) (e := 3) (size := 1) (L := blk R (rgC (some ⟨gA, 0, none⟩) n cap) 358 :: own (some ⟨gA, 0, none⟩) n cap 360 1 (rgP l) :: Sls (strF i l (o.take k)) :: L) (nsV_get hc) _ hs
      have hrr := Rd.rg0 (t := 358) _ hs.drop
      have hrx := Rd.own (w0 := w0) (g := gA) (n := n) (cap := cap) (e := 360) (size := 1) (L := Sls (strF i l (o.take k)) :: L) (rgP_get hx) _ hs.drop.drop
      have HCX := Lib.hid hcx
      have HXE := Lib.hid hxe
      obtain ⟨u, hu⟩ : ∃ u, Hid (s.get i = u) := ⟨_, rfl⟩
      obtain ⟨b, hb⟩ : ∃ u, Hid (s.has i = u) := ⟨_, rfl⟩
      obtain ⟨s', hs'⟩ : ∃ u, Hid (s.take i = u) := ⟨_, rfl⟩
      clear hx hcx hxe hnot hc
      go_wp2_with (first
        | (go_at_call 261; refine (sl_take (X := X) (s := s) (St.slsOut HCX.out (hs.ent (M := Sls (strF i l (o.take k)) :: own (some ⟨gB, 0, none⟩) m cB 3 1 (nsV o) :: blk R (rgC (some ⟨gA, 0, none⟩) n cap) 358 :: own (some ⟨gA, 0, none⟩) n cap 360 1 (rgP l) :: L) (by (repeat first | exact Ent.refl _ | refine Ent.step (by repeat first | exact Ent.refl _ | apply Ent.skip) ?_)))) hi HXE.out hu hb hs').mono ?_; clear hs hrb hrr hrx; rintro r w ⟨rfl, hs⟩; replace hs := St.slsIn HCX.out hs; rw [← hs'.out] at hs))
      have hs4 : St w0 (own (some ⟨gB, 0, none⟩) m cB 3 1 (nsV o) :: blk R (rgC (some ⟨gA, 0, none⟩) n cap) 358 :: own (some ⟨gA, 0, none⟩) n cap 360 1 (rgP l) :: Sls (strF i l (o.take (k + 1))) :: L) w := by
        rw [HNX.out]
        exact hs.ent (by (repeat first | exact Ent.refl _ | refine Ent.step (by repeat first | exact Ent.refl _ | apply Ent.skip) ?_))
      go_roundw
      case rel => exact ⟨k + 1, by omega, by go_num, hs4⟩
      case measure => simp [intOf] <;> omega
    · obtain rfl : k = m := by omega
      have HT : Hid (o.take k = o) := List.take_of_length_le (by rw [hm.out]; exact Nat.le_refl _)
      rw [HT.out, HALL.out, hl'.out] at hs
      have hlen : l'.length = n := by rw [← hl'.out]; unfold strL; rw [List.length_map]; exact hn.out
      have hrp : rgP l' = rgP l := by rw [← hl'.out]; exact rgP_strL l i
      have HL := Lib.hid hlen
      have HR := Lib.hid hrp
      clear hlen hrp
      go_wp2
      go_ret
      exact ⟨rfl, (hs.drop).rgshut (by rw [HL.out]; exact hle) HL.out.symm HR.out.symm⟩
end Go.Proofs.YtcnbmfaicbkhcaaGreatDoor

/-
  Components (reg.Reg), 4: the calls of one of its slots, over the whole.
-/
set_option maxRecDepth 100000
namespace Go.Proofs.YtcnbmfaicbkhcaaGreatDoor
open Go Go.RowKit
attribute [local irreducible] wpList Calls Code.wp okI okN pS tS memS getG pG insS delS getV pV tV okVal newSl SlS.put SlS.err SlS.putU SlS.putB descE SlS.take

theorem St.rgAt {w0 w : World} {R : Nat} {l : List Cmp} {L : List As} (hs : St w0 (RgB R l :: L) w) {c : Nat} {x : Cmp} (hc : l[c]? = some x) :
    ∃ T : As, St w0 (SlB x.1 x.2 :: T :: L) w ∧ ∀ (s' : SlS) (L' : List As) (w' : World), St w0 (SlB x.1 s' :: T :: L') w' → St w0 (RgB R (l.set c (x.1, s')) :: L') w' := by
  obtain ⟨hle, A, cap, hs⟩ := hs.rgopen
  refine ⟨star (YtcnbmfaicbkhcaaGreatDoor.blk R (rgC A l.length cap) 358) (star (own A l.length cap 360 1 (rgP l)) (SlsBut l c)), ?_, ?_⟩
  · have h1 := St.slsOut hc hs.up2
    have h2 : St w0 (SlB x.1 x.2 :: YtcnbmfaicbkhcaaGreatDoor.blk R (rgC A l.length cap) 358 :: own A l.length cap 360 1 (rgP l) :: SlsBut l c :: L) w := h1.ent (Ent.cons _ (Ent.push _ [_, _] _))
    exact h2.ent (Ent.cons _ ((Ent.cons _ (Ent.shut2 fun _ h => h)).trans (Ent.shut2 fun _ h => h)))
  · intro s' L' w' h
    have h2 := h.ent (Ent.cons _ ((Ent.open2 fun _ h => h).trans (Ent.cons _ (Ent.open2 fun _ h => h))))
    have h3 := St.slsIn hc (h2.ent (Ent.cons _ (Ent.pull _ [_, _] _)))
    refine St.rgshut (l := l.set c (x.1, s')) (by rw [List.length_set]; exact hle) (by rw [List.length_set]) (rgP_set hc s').symm h3.dn2
section
variable {w0 w : World} {L : List As} {R : Nat} {l : List Cmp} {c : Nat} {X : Nat} {s : SlS}
theorem rg_put (hs : St w0 (RgB R l :: L) w) (hc : Hid (l[c]? = some (X, s))) {i : Int} {v : V3} (hl : s.evs.length < 4611686018427387904)
    {u : V3} {b : Bool} {e : Int} {l' : List Cmp} (hu : Hid (s.putU i v = u)) (hb : Hid (s.putB i v = b)) (he : Hid (s.err i v = e)) (hl' : Hid (l.set c (X, s.put i v) = l')) :
    Calls Tryz.prog 181 #[.pointer (some ⟨X, 0, none⟩), .int .i64 i, val3 v] w fun r w' => r = .returned (.tuple #[val3 u, .bool b, .int .i64 e]) ∧ St w0 (RgB R l' :: L) w' := by
  obtain ⟨T, h, hb2⟩ := hs.rgAt hc.out
  rw [← hl'.out]
  exact (sl_put h hl hu hb he rfl).mono fun r w' ⟨h1, h2⟩ => ⟨h1, hb2 _ _ _ h2⟩
end
end Go.Proofs.YtcnbmfaicbkhcaaGreatDoor
