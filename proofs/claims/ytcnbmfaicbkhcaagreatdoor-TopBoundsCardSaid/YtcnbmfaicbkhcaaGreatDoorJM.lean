/-
  XJM: joined of XRwLaw XRw XRw2 XRw3 XRw4 XRw5.
-/
import Derived.Test.YtcnbmfaicbkhcaaGreatDoorJL
import Derived.Test.YtcnbmfaicbkhcaaGreatDoorWoLaw
import Derived.Test.YtcnbmfaicbkhcaaGreatDoorJE
import Derived.Test.YtcnbmfaicbkhcaaGreatDoorJH
import Derived.Test.YtcnbmfaicbkhcaaGreatDoorWo12
/-
  Rows of a plan: plain law. No function of the program is walked here.
-/
set_option maxRecDepth 100000
namespace Go.Proofs.YtcnbmfaicbkhcaaGreatDoor
open Go Go.RowKit
/-- The numbers of a component. -/
def WoS.S (s : WoS) (c : Nat) : List Nat := match s.e.l[c]? with
  | some x => x.2.S
  | none => []
/-- The sets of a plan's rows: what is live, what must be, what must not be. -/
def WoS.with_ (s : WoS) (l : List ColP) : List Nat := compsN s.e.l.length l [1, 2]
def WoS.wout (s : WoS) (l : List ColP) : List Nat := compsN s.e.l.length l [4]
def WoS.sets (s : WoS) (l : List ColP) : List (List Nat) := idxS 1 s.e.cs :: ((s.with_ l).map s.S ++ (s.wout l).map s.S)
def WoS.match_ (s : WoS) (l : List ColP) (i : Nat) : Bool := (stA s.e.cs i == 1) && ((s.with_ l).all fun c => memS (s.S c) i) && !((s.wout l).any fun c => memS (s.S c) i)
/-- The rows of a plan. -/
def WoS.rows (s : WoS) (l : List ColP) : List Nat := (List.range s.e.cs.length).filter (s.match_ l)
theorem memS_dec {S : List Nat} {i : Nat} : memS S (i : Int) = decide (i ∈ S) := by
  rw [Bool.eq_iff_iff, memS_iff, decide_eq_true_iff]
theorem setsR_at {a : List Nat} {b c : List (List Nat)} : ((a :: (b ++ c)).getD 0 [] = a) ∧ (∀ i, i < b.length → (a :: (b ++ c)).getD (1 + i) [] = b.getD i []) ∧ (∀ j, (a :: (b ++ c)).getD (1 + b.length + j) [] = c.getD j []) := by
  refine ⟨rfl, fun i hi => ?_, fun j => ?_⟩
  · rw [Nat.add_comm 1 i, List.getD_cons_succ, List.getD_eq_getElem?_getD, List.getD_eq_getElem?_getD, List.getElem?_append_left hi]
  · rw [show 1 + b.length + j = b.length + j + 1 by omega, List.getD_cons_succ, List.getD_eq_getElem?_getD, List.getD_eq_getElem?_getD, List.getElem?_append_right (by omega), show b.length + j - b.length = j by omega]
theorem all_range_get {β : Type} {l : List β} (d : β) (p : β → Bool) : ((List.range l.length).all fun i => p (l.getD i d)) = l.all p := by
  rw [Bool.eq_iff_iff, List.all_eq_true, List.all_eq_true]
  constructor
  · intro h x hx
    obtain ⟨i, hi, rfl⟩ := List.getElem_of_mem hx
    have := h i (List.mem_range.2 hi)
    rwa [List.getD_eq_getElem?_getD, List.getElem?_eq_getElem hi] at this
  · intro h i hi
    have hi2 := List.mem_range.1 hi
    rw [List.getD_eq_getElem?_getD, List.getElem?_eq_getElem hi2]
    exact h _ (List.getElem_mem hi2)
theorem any_range_get {β : Type} {l : List β} (d : β) (p : β → Bool) : ((List.range l.length).any fun i => p (l.getD i d)) = l.any p := by
  rw [Bool.eq_iff_iff, List.any_eq_true, List.any_eq_true]
  constructor
  · rintro ⟨i, hi, h⟩
    have hi2 := List.mem_range.1 hi
    rw [List.getD_eq_getElem?_getD, List.getElem?_eq_getElem hi2] at h
    exact ⟨_, List.getElem_mem hi2, h⟩
  · rintro ⟨x, hx, h⟩
    obtain ⟨i, hi, rfl⟩ := List.getElem_of_mem hx
    exact ⟨i, List.mem_range.2 hi, by rw [List.getD_eq_getElem?_getD, List.getElem?_eq_getElem hi]; exact h⟩
theorem all_range_succ (m : Nat) (p : Nat → Bool) : (List.range (1 + m)).all p = (p 0 && (List.range m).all fun i => p (1 + i)) := by
  rw [Nat.add_comm, List.range_succ_eq_map, List.all_cons, List.all_map]
  congr 1
  refine all_mem_congr fun i _ => ?_
  show p (Nat.succ i) = _
  rw [Nat.succ_eq_add_one, Nat.add_comm]
theorem rows_tel {s : WoS} {l : List ColP} {i : Nat} (hi : i < 16777216) : tel (arN (1 + (s.with_ l).length) (s.wout l).length) (fun k => (s.sets l).getD k []) ((1 + (s.with_ l).length + (s.wout l).length + 2 : Nat) : Int) i = (decide (i < s.e.cs.length) && s.match_ l i) := by
  have hlen : (arN (1 + (s.with_ l).length) (s.wout l).length).length = 1 + (s.with_ l).length + (s.wout l).length + 3 := by unfold arN; simp
  unfold tel exTell
  rw [decide_eq_true (by rw [hlen]; omega), Bool.true_and, Int.toNat_natCast, arN_tells]
  obtain ⟨h1, h2, h3⟩ := setsR_at (a := idxS 1 s.e.cs) (b := (s.with_ l).map s.S) (c := (s.wout l).map s.S)
  have e0 : memS ((s.sets l).getD 0 []) (i : Int) = (decide (i < s.e.cs.length) && (stA s.e.cs i == 1)) := by
    show memS (idxS 1 s.e.cs) (i : Int) = _
    rw [memS_dec, Bool.eq_iff_iff, decide_eq_true_iff, mem_idxS]
    simp
  have e1 : ((List.range (s.with_ l).length).all fun k => memS ((s.sets l).getD (1 + k) []) (i : Int)) = (s.with_ l).all fun c => memS (s.S c) (i : Int) := by
    rw [← all_range_get 0 (fun c => memS (s.S c) (i : Int))]
    refine all_mem_congr fun k hk => ?_
    have hk2 := List.mem_range.1 hk
    show memS ((idxS 1 s.e.cs :: ((s.with_ l).map s.S ++ (s.wout l).map s.S)).getD (1 + k) []) (i : Int) = _
    rw [h2 k (by simpa using hk2)]
    congr 1
    rw [List.getD_eq_getElem?_getD, List.getElem?_map, List.getElem?_eq_getElem hk2, List.getD_eq_getElem?_getD, List.getElem?_eq_getElem hk2]
    rfl
  have e2 : ((List.range (s.wout l).length).any fun k => memS ((s.sets l).getD (1 + (s.with_ l).length + k) []) (i : Int)) = (s.wout l).any fun c => memS (s.S c) (i : Int) := by
    rw [← any_range_get 0 (fun c => memS (s.S c) (i : Int))]
    refine any_mem_congr fun k hk => ?_
    have hk2 := List.mem_range.1 hk
    show memS ((idxS 1 s.e.cs :: ((s.with_ l).map s.S ++ (s.wout l).map s.S)).getD (1 + (s.with_ l).length + k) []) (i : Int) = _
    have := h3 k
    rw [List.length_map] at this
    rw [this]
    congr 1
    rw [List.getD_eq_getElem?_getD, List.getElem?_map, List.getElem?_eq_getElem hk2, List.getD_eq_getElem?_getD, List.getElem?_eq_getElem hk2]
    rfl
  rw [all_range_succ, e0, e1, e2]
  unfold WoS.match_
  cases decide (i < s.e.cs.length) <;> cases (stA s.e.cs i == 1) <;> simp
theorem rows_lst {s : WoS} {l : List ColP} (hc : s.e.cs.length ≤ 65536) : lst (tel (arN (1 + (s.with_ l).length) (s.wout l).length) (fun k => (s.sets l).getD k []) ((1 + (s.with_ l).length + (s.wout l).length + 2 : Nat) : Int)) (0 : Int).toNat 16777216 (min (65536 : Int) 100000).toNat = s.rows l := by
  have h1 : s.rows l = sel (tel (arN (1 + (s.with_ l).length) (s.wout l).length) (fun k => (s.sets l).getD k []) ((1 + (s.with_ l).length + (s.wout l).length + 2 : Nat) : Int)) 0 16777216 := by
    refine sel_eq (List.Pairwise.filter _ List.pairwise_lt_range) fun i => ?_
    unfold WoS.rows
    rw [List.mem_filter, List.mem_range]
    constructor
    · rintro ⟨h1, h2⟩
      exact ⟨Nat.zero_le _, by omega, by rw [rows_tel (by omega), h2, decide_eq_true h1]; rfl⟩
    · rintro ⟨_, h1, h2⟩
      rw [rows_tel h1] at h2
      simpa using h2
  have h2 : (s.rows l).length ≤ 65536 := by
    have := List.length_filter_le (s.match_ l) (List.range s.e.cs.length)
    unfold WoS.rows
    simp at this ⊢
    omega
  rw [show (min (65536 : Int) 100000).toNat = 65536 by decide, show (0 : Int).toNat = 0 by decide, lst_all (by rw [← h1]; exact h2), h1]
end Go.Proofs.YtcnbmfaicbkhcaaGreatDoor

/-
  Rows of a plan (rows.Build), 1: an arena of sets alone; the function that Build hands over.
-/
set_option maxRecDepth 100000
namespace Go.Proofs.YtcnbmfaicbkhcaaGreatDoor
open Go Go.RowKit
section
variable {w0 w : World} {L : List As} {W E A R X Q n : Nat} {s : WoS}
theorem St.worg (hs : St w0 (WoB W E A R X Q n s :: L) w) : ∃ T : As, St w0 (RgB R s.e.l :: T :: L) w ∧ ∀ (L' : List As) (w' : World), St w0 (RgB R s.e.l :: T :: L') w' → St w0 (WoB W E A R X Q n s :: L') w' := by
  refine ⟨star (AlB A s.e.top s.e.cs) (star (YtcnbmfaicbkhcaaGreatDoor.blk E (enC A R) 158) (star (YtcnbmfaicbkhcaaGreatDoor.blk W (woC E X Q s.held n s.e.top) 151) (star (ReB X s.r) (QuB Q s.q)))), ?_, fun L' w' h => ?_⟩
  · have h1 := hs.woopen.rot.enopen.rot
    exact h1.ent (Ent.cons _ ((Ent.cons _ ((Ent.cons _ ((Ent.cons _ (Ent.shut2 fun _ h => h)).trans (Ent.shut2 fun _ h => h))).trans (Ent.shut2 fun _ h => h))).trans (Ent.shut2 fun _ h => h)))
  · have h1 := h.ent (Ent.cons _ ((Ent.open2 fun _ h => h).trans (Ent.cons _ ((Ent.open2 fun _ h => h).trans (Ent.cons _ ((Ent.open2 fun _ h => h).trans (Ent.cons _ (Ent.open2 fun _ h => h))))))))
    exact (St.enshut h1.rot).rot.woshut
theorem St.woal (hs : St w0 (WoB W E A R X Q n s :: L) w) : ∃ T : As, St w0 (AlB A s.e.top s.e.cs :: T :: L) w :=
  ⟨star (RgB R s.e.l) (star (YtcnbmfaicbkhcaaGreatDoor.blk E (enC A R) 158) (star (YtcnbmfaicbkhcaaGreatDoor.blk W (woC E X Q s.held n s.e.top) 151) (star (ReB X s.r) (QuB Q s.q)))), hs.woopen.rot.enopen.ent (Ent.cons _ ((Ent.cons _ ((Ent.cons _ ((Ent.cons _ (Ent.shut2 fun _ h => h)).trans (Ent.shut2 fun _ h => h))).trans (Ent.shut2 fun _ h => h))).trans (Ent.shut2 fun _ h => h)))⟩
theorem Rd.woe1 : Rd w0 (WoB W E A R X Q n s :: L) ⟨E, 1, none⟩ (.pointer (some ⟨R, 0, none⟩)) := fun w hs => Rd.en1 w (wo_en hs)
theorem St.wofew (hs : St w0 (WoB W E A R X Q n s :: L) w) : s.e.cs.length ≤ 65536 := en_few (wo_en hs)
end
/-! ### An arena of sets -/
def arS (n : Nat) : List NodeE := (List.range n).map fun i => ⟨1, [i]⟩
theorem arS_succ (n : Nat) : arS (n + 1) = arS n ++ [⟨1, [n]⟩] := by unfold arS; rw [List.range_succ, List.map_append]; rfl
theorem arS_len (n : Nat) : (arS n).length = n := by simp [arS]
abbrev TS := Nat × List Nat
def ptrs (ts : List TS) : List Value := ts.map fun t => ptr t.1
def HsA (ts : List TS) : As := big (ts.map fun t => HSet t.1 t.2)
def ArB (D : Nat) (ts : List TS) : As := star (ExB D (arS ts.length) (ptrs ts)) (HsA ts)
theorem big_snoc (p : As) : ∀ (l : List As) (h : Hl), star p (big l) h → big (l ++ [p]) h
  | [], h, hh => hh
  | q :: l, h, hh => by
    have := star_left hh
    exact star_mono (fun _ x => x) (fun _ x => big_snoc p l _ x) this
section
variable {w0 w : World} {L : List As} {D : Nat} {ts : List TS}
theorem St.aropen (hs : St w0 (ArB D ts :: L) w) : St w0 (ExB D (arS ts.length) (ptrs ts) :: HsA ts :: L) w := hs.ent (Ent.open2 fun _ h => h)
theorem St.arshut {T : Nat} {S : List Nat} (hs : St w0 (ExB D (arS ts.length ++ [⟨1, [(ptrs ts).length]⟩]) (ptrs ts ++ [ptr T]) :: HSet T S :: HsA ts :: L) w) : St w0 (ArB D (ts ++ [(T, S)]) :: L) w := by
  have e1 : arS ts.length ++ [⟨1, [(ptrs ts).length]⟩] = arS (ts ++ [(T, S)]).length := by
    rw [List.length_append, List.length_singleton, arS_succ]
    unfold ptrs
    rw [List.length_map]
  have e2 : ptrs ts ++ [ptr T] = ptrs (ts ++ [(T, S)]) := by unfold ptrs; rw [List.map_append]; rfl
  rw [e1, e2] at hs
  refine (hs.ent (Ent.cons _ (Ent.shut2 (p := HsA (ts ++ [(T, S)])) fun h hh => ?_))).ent (Ent.shut2 fun _ h => h)
  have := big_snoc _ _ _ hh
  unfold HsA
  rw [List.map_append]
  exact this
theorem hsa_out : ∀ {ts : List TS} {L : List As} (w : World) (i : Nat) (t : TS), St w0 (HsA ts :: L) w → ts[i]? = some t → ∃ M, St w0 (HSet t.1 t.2 :: M) w
  | [], _, _, _, _, _, h => by simp at h
  | a :: ts, L, w, 0, t, hs, h => by
    simp at h; subst h
    exact ⟨_, hs.ent (Ent.open2 fun _ h => h)⟩
  | a :: ts, L, w, i + 1, t, hs, h => by
    have h1 : St w0 (HSet a.1 a.2 :: HsA ts :: L) w := hs.ent (Ent.open2 fun _ h => h)
    exact hsa_out w i t h1.drop (by simpa using h)
theorem hsa_ok (hs : St w0 (HsA ts :: L) w) : SetsOk w (ptrs ts) (fun k => (ts.map Prod.snd).getD k []) := fun k v hv => by
  unfold ptrs at hv
  rw [List.getElem?_map] at hv
  cases ht : ts[k]? with
  | none => rw [ht] at hv; cases hv
  | some t =>
    rw [ht] at hv
    cases hv
    obtain ⟨M, h⟩ := hsa_out w k t hs ht
    refine .inr ⟨t.1, w0, M, rfl, ?_⟩
    have : (ts.map Prod.snd).getD k [] = t.2 := by rw [List.getD_eq_getElem?_getD, List.getElem?_map, ht]; rfl
    show St w0 (HSet t.1 ((ts.map Prod.snd).getD k []) :: M) w
    rwa [this]
end
/-! ### The function that Build hands over -/
attribute [local irreducible] wpList Calls Code.wp stV EnS.live EnS.slot okI okN pS tS memS getG pG insS delS getV pV tV okVal newSl SlS.put SlS.err SlS.putU SlS.putB descE SlS.take SlS.set SlS.errSet SlS.get SlS.has
set_option maxHeartbeats 4000000 in
theorem rw1_c {w0 wb w : World} {L M : List As} {W E A R X Q n D g2 g8 : Nat} {s : WoS} {ts : List TS} (hb : St w0 (WoB W E A R X Q n s :: L) wb) (hs : St wb (ArB D ts :: blk g2 #[.pointer (some ⟨W, 0, none⟩)] 58 :: blk g8 #[.pointer (some ⟨D, 0, none⟩)] 232 :: M) w)
    {c : Nat} {x : Cmp} (hc : Hid (s.e.l[c]? = some x)) {k : Nat} (hk : Hid (ts.length = k)) (hkb : k ≤ 100) {S : List Nat} (hS : Hid (x.2.S = S)) :
    Calls Tryz.prog 186 #[.int .i64 (c : Nat), .pointer (some ⟨g2, 0, none⟩), .pointer (some ⟨g8, 0, none⟩)] w fun r w' => ∃ T, r = .returned (.int .i64 (k : Nat)) ∧
      St wb (ArB D (ts ++ [(T, S)]) :: blk g2 #[.pointer (some ⟨W, 0, none⟩)] 58 :: blk g8 #[.pointer (some ⟨D, 0, none⟩)] 232 :: M) w' := by
  obtain ⟨gX, sl⟩ := x
  have hs3 := hb.grew hs.made_grew
  have e0 : World.cell? _ ⟨g2, 0, none⟩ = some (.pointer (some ⟨W, 0, none⟩)) := Rd.blk (by rfl) _ hs.rot
  have e1 : World.cell? _ ⟨W, 0, none⟩ = some (.pointer (some ⟨E, 0, none⟩)) := Rd.wo0 _ hs3
  have e2 : World.cell? _ ⟨E, 1, none⟩ = some (.pointer (some ⟨R, 0, none⟩)) := Rd.woe1 _ hs3
  obtain ⟨T0, hr, _⟩ := hs3.worg
  have HSL := Lib.hid (rg_slot hr hc.out (Lib.hid rfl))
  have HB := Lib.hid hb
  clear hs3 hr hb
  go_enter Tryz.func186, Tryz.ntmps186
  go_upto_region 2 with (first
    | (go_at_call 180; refine HSL.out.mono ?_; rintro r w' ⟨rfl, rfl⟩))
  have hsN := (hs.up2).only
  refine wp_region_plain [false, false, true, true, true] hsN (by kernel_rfl) (by kernel_rfl) fun hne => ?_
  have q0 := (Rd.blk (w0 := wb) (g := g8) (k := 0) (cs := #[.pointer (some ⟨D, 0, none⟩)]) (v := .pointer (some ⟨D, 0, none⟩)) (t := 232) (L := []) (by rfl)).alln
  simp only [pickOps]
  repeat (go_big_quiet_step (fail))
  refine wpQuiet_nil ?_
  clear hne q0 e0 e1 e2
  simp only [chainIx]
  replace hs := hs.drew
  clear hsN HSL
  obtain ⟨T3, hr3, _⟩ := (HB.out.grew hs.made_grew).worg
  obtain ⟨T1, hr2, _⟩ := hr3.rgAt hc.out
  have HMK := Lib.hid (sl_mask hr2)
  rw [hS.out] at HMK
  clear hr3 hr2
  refine wpChainP_next rfl ?_
  go_wp2_with (first
    | (go_at_call 188; refine HMK.out.mono ?_; clear HMK; rintro r w' ⟨T', rfl, hm⟩; replace hs := hs.made hm; clear hm))
  refine ⟨(hs.up3).only, ?_⟩
  have hs2 := (hs.rot).aropen
  have hl9 : (arS ts.length).length < 1000 := by rw [arS_len, hk.out]; omega
  have hs9 : (ptrs ts).length ≤ 1000000 := by unfold ptrs; rw [List.length_map, hk.out]; omega
  have hv9 : Hid (((arS ts.length).length : Int) = (k : Nat)) := by rw [Hid, arS_len, hk.out]
  clear hs
  refine wpChainP_next rfl ?_
  go_wp2_with (first
    | (go_at_call 187; refine (exset_v hs2 (some ⟨T', 0, none⟩) hv9 (Lib.hid rfl) (Lib.hid rfl) hl9 hs9).mono ?_; clear hs2; rintro r w' ⟨rfl, hs⟩))
  have hs4 := (St.arshut (hs.ent (Ent.cons _ (Ent.swap _ _ _))))
  refine ⟨(hs4.up2).only, ?_⟩
  refine wpChain_last rfl ?_
  go_wp2
  go_ret
  exact ⟨T', rfl, hs4⟩
end Go.Proofs.YtcnbmfaicbkhcaaGreatDoor

/-
  Rows of a plan (rows.Build), 2: the Descs of a world that is not touched.
-/
set_option maxRecDepth 100000
namespace Go.Proofs.YtcnbmfaicbkhcaaGreatDoor
open Go Go.RowKit
attribute [local irreducible] wpList Calls Code.wp stV EnS.live EnS.slot okI okN pS tS memS getG pG insS delS getV pV tV okVal newSl SlS.put SlS.err SlS.putU SlS.putB descE SlS.take SlS.set SlS.errSet SlS.get SlS.has
theorem St.own_none {w0 w : World} {A : Option Addr} {n cap : Nat} {e : TypeId} {size : Nat} {xs : List Value} {L : List As} (hs : St w0 (own A n cap e size xs :: L) w) : A = none → n = 0 ∧ cap = 0 := fun hA => hs.fact fun _ h => by
  rcases h.2 with ⟨_, h0, h1, _⟩ | ⟨g, cur, h1, _⟩
  · exact ⟨h0, h1⟩
  · rw [hA] at h1; cases h1
set_option maxHeartbeats 2000000 in
/-- Descs of what lies below the base. -/
theorem rg_descs_m {w0 w : World} {L : List As} {R : Nat} {l : List Cmp} (hb : St w0 (RgB R l :: L) w) :
    Calls Tryz.prog 183 #[.pointer (some ⟨R, 0, none⟩)] w fun e w' => ∃ B cap, e = .returned (.slice B l.length cap) ∧ St w [own B l.length cap 120 3 (cs3 (dsOf l))] w' := by
  obtain ⟨hle, A, cap, hb⟩ := hb.rgopen
  obtain ⟨n, hn⟩ : ∃ n, Hid (l.length = n) := ⟨_, rfl⟩
  rw [hn.out] at hb hle ⊢
  have hr := Rd.rg0 _ hb
  have HB := Lib.hid hb
  have hs0 := St.start w
  clear hb
  go_enter Tryz.func183, Tryz.ntmps183
  go_wp2
  clear hr
  go_loopw [3, 11] (fun bv cv wr => ∃ (k cB : Nat) (B : Option Addr), k ≤ n ∧ bv = .slice B k cB ∧ cv = .int .i64 (k : Nat) ∧ St w [own B k cB 120 3 (cs3 ((dsOf l).take k))] wr) (fun _ cv _ => n - (intOf cv).toNat)
  case atStart => exact ⟨0, 0, none, Nat.zero_le _, rfl, rfl, hs0.own_nil _ _⟩
  case round =>
    clear hs0
    obtain ⟨k, cB, B, hk, rfl, rfl, hs⟩ := hrel
    by_cases hlt : k < n
    · obtain ⟨x, hx⟩ : ∃ x, l[k]? = some x := ⟨_, List.getElem?_eq_getElem (by rw [hn.out]; exact hlt)⟩
      obtain ⟨X, s⟩ := x
      obtain ⟨gA, rfl⟩ := (HB.out.rot).own_at (by omega)
      have hrx := (Rd.own (w0 := w0) (g := gA) (n := n) (cap := cap) (e := 360) (size := 1) (rgP_get hx)) _ (HB.out.rot)
      replace hrx := hs.made_grew.cell hrx
      have HX := Lib.hid hx
      obtain ⟨d, hd⟩ : ∃ u, Hid (s.d = u) := ⟨_, rfl⟩
      have HT : Hid (cs3 ((dsOf l).take (k + 1)) = cs3 ((dsOf l).take k) ++ c3 d) := by
        have h1 : (dsOf l)[k]? = some d := by unfold dsOf; rw [List.getElem?_map, hx, ← hd.out]; rfl
        obtain ⟨h2, h3⟩ := List.getElem?_eq_some_iff.1 h1
        rw [Hid, List.take_succ_eq_append_getElem h2, h3, cs3_append]
        congr 1
        all_goals simp [cs3]
      clear hx
      go_upto_region 5 with (first
        | (refine wpl_alloc zeroRow hs ?_; clear hs; intro g5 w1 hs)
        | (refine wpl_store_agg (v := .agg #[.pointer (some ⟨X, 0, none⟩)]) rfl rfl (sizeRowV X) hs WrA.row ?_; clear hs hrx; intro w1 hs))
      have hsl := St.slsOut HX.out (HB.out.grew hs.made_grew).up2
      have hc5 := (Rd.blk (w0 := w) (g := g5) (k := 0) (cs := #[.pointer (some ⟨X, 0, none⟩)]) (t := 360) (L := [own B k cB 120 3 (cs3 ((dsOf l).take k))]) (v := .pointer (some ⟨X, 0, none⟩)) rfl) _ hs
      have HD := Lib.hid (sl_desc hsl)
      rw [hd.out] at HD
      clear hsl
      go_wp2_with (first
        | (go_at_call 252; refine HD.out.mono ?_; rintro r w ⟨rfl, hg⟩; replace hs := (hs.grew hg).drop; clear hg hc5)
        | (refine wpl_build1 (v := val3 d) elemDs5 (by decide) rfl rfl hs ?_; clear hs; intro G w hs)
        | (refine wpl_append (A := B) (n := k) (cap := cB) (xs := cs3 ((dsOf l).take k)) (m := 1) (news := c3 d) elemDs5 rfl rfl hs (Ent.skip (Ent.refl _)) RdS.blk rfl (one3 _) (by unfold maxLen; omega) (by omega) ?_; clear hs; intro B3 cap3 w hs; rw [← HT.out] at hs; replace hs := hs.rot.drop))
      go_roundw
      case rel => exact ⟨k + 1, cap3, B3, by omega, by first | rfl | go_num, by first | rfl | go_num, hs⟩
      case measure => simp [intOf] <;> omega
    · obtain rfl : k = n := by omega
      have HT : Hid ((dsOf l).take k = dsOf l) := List.take_of_length_le (by unfold dsOf; rw [List.length_map, hn.out]; exact Nat.le_refl _)
      rw [HT.out] at hs
      go_wp2
      go_ret
      exact ⟨B, cB, rfl, hs⟩
end Go.Proofs.YtcnbmfaicbkhcaaGreatDoor

/-
  Rows of a plan (rows.Build), 3: Build.
-/
set_option maxRecDepth 100000
namespace Go.Proofs.YtcnbmfaicbkhcaaGreatDoor
open Go Go.RowKit
theorem add_op {l : List NodeE} {k : Nat} {kids : List Nat} (hl : l.length < 1000) (hk : kids.length ≤ 64) (hb : ∀ x ∈ kids, x < l.length) : addV l k (natI kids) = (l.length : Int) ∧ addN l k (natI kids) = l ++ [⟨k, kids⟩] := by
  have h1 : (natI kids).any (bad l.length) = false := by
    rw [List.any_eq_false]
    intro x hx
    obtain ⟨y, hy, rfl⟩ := List.mem_map.1 hx
    have := hb y hy
    unfold bad
    simp
    omega
  have h : addOk l k (natI kids) = true := by
    unfold addOk
    rw [decide_eq_true hl, decide_eq_true (p := (natI kids).length ≤ 64) (by unfold natI; rw [List.length_map]; exact hk), h1]
    simp
  unfold addV addN
  rw [h]
  refine ⟨rfl, ?_⟩
  show l ++ [(⟨k, (natI kids).map Int.toNat⟩ : NodeE)] = _
  have : (natI kids).map Int.toNat = kids := by
    unfold natI
    rw [List.map_map]
    exact (List.map_congr_left (g := id) fun x _ => by show Int.toNat (Int.ofNat x) = x; rfl).trans (List.map_id kids)
  rw [this]
def arM (m o : Nat) : List NodeE := arS (m + o) ++ [⟨3, (List.range o).map (m + ·)⟩]
theorem arM_len (m o : Nat) : (arM m o).length = m + o + 1 := by unfold arM; rw [List.length_append, arS_len]; rfl
theorem arN_eq (m o : Nat) : arN m o = (arM m o ++ [⟨5, [m + o]⟩]) ++ [⟨2, List.range m ++ [m + o + 1]⟩] := by unfold arN arM arS; simp
theorem arS_ok : ∀ n, n < 1000 → ArOk (arS n) n
  | 0, _ => ArOk.nil 0
  | n + 1, h => by
    rw [arS_succ]
    exact (arS_ok n (by omega)).addset (by rw [arS_len]; omega)
theorem ArOk.addnat {l : List NodeE} {m k : Nat} {kids : List Nat} (h : ArOk l m) (hk : 2 ≤ k ∧ k ≤ 5) (h5 : k = 5 → kids.length = 1) (hl : l.length < 1000) (hk2 : kids.length ≤ 64) (hb : ∀ x ∈ kids, x < l.length) : ArOk (l ++ [⟨k, kids⟩]) m := by
  have := h.addop (k := k) (kids := natI kids) hk (fun e => by unfold natI; rw [List.length_map]; exact h5 e)
  rwa [(add_op hl hk2 hb).2] at this
theorem arN_ok {m o : Nat} (hm : m ≤ 60) (ho : o ≤ 60) : ArOk (arN m o) (m + o) := by
  have h1 : ArOk (arM m o) (m + o) := (arS_ok (m + o) (by omega)).addnat (by omega) (fun e => absurd e (by decide)) (by rw [arS_len]; omega) (by simp; omega) fun x hx => by
    obtain ⟨i, hi, rfl⟩ := List.mem_map.1 hx
    have := List.mem_range.1 hi
    rw [arS_len]; omega
  have h2 : ArOk (arM m o ++ [⟨5, [m + o]⟩]) (m + o) := h1.addnat (by omega) (fun _ => rfl) (by rw [arM_len]; omega) (show 1 ≤ 64 by decide) fun x hx => by
    rw [List.mem_singleton.1 hx, arM_len]; omega
  rw [arN_eq]
  refine h2.addnat (by omega) (fun e => absurd e (by decide)) (by rw [List.length_append, arM_len]; simp; omega) (by simp; omega) fun x hx => ?_
  rw [List.length_append, arM_len]
  rcases List.mem_append.1 hx with h | h
  · have := List.mem_range.1 h; simp; omega
  · rw [List.mem_singleton.1 h]; simp
theorem natI_range_succ (m : Nat) : natI (List.range (m + 1)) = natI (List.range m) ++ [(m : Int)] := by unfold natI; rw [List.range_succ, List.map_append]; rfl
theorem ints_snoc (l : List Int) (x : Int) : ints (l ++ [x]) = ints l ++ [.int .i64 x] := by unfold ints; rw [List.map_append]; rfl
def noneI (m k : Nat) : List Nat := (List.range k).map (m + ·)
theorem noneI_succ (m k : Nat) : natI (noneI m (k + 1)) = natI (noneI m k) ++ [((m + k : Nat) : Int)] := by unfold noneI natI; rw [List.range_succ, List.map_append, List.map_append]; rfl
theorem exnew_v {w0 w : World} {L : List As} (hs : St w0 L w) : Calls Tryz.prog 184 #[] w fun e w' => ∃ D, e = .returned (ptr D) ∧ St w0 (ArB D [] :: L) w' := by
  refine (exnew_c hs).mono ?_
  rintro e w' ⟨D, rfl, h⟩
  refine ⟨D, rfl, ?_⟩
  have h2 : St w0 (emp :: ExB D [] [] :: L) w' := h.ent fun _ h => emp_star h
  exact (h2.rot).ent (Ent.shut2 (p := ArB D []) fun _ h => h)
theorem size_arP : (Tryz.prog.info? 232).map (·.size) = some 1 := by kernel_rfl
theorem zeroArP : (Tryz.prog.info? 232).bind (·.zero) = some (.pointer none) := by kernel_rfl
/-- What the rows of a plan are read from. -/
def RwV (w : World) (s : WoS) (l : List ColP) (D : Nat) : Prop := ∃ ss, ScV w D (arN (1 + (s.with_ l).length) (s.wout l).length) ss (fun k => (s.sets l).getD k [])
theorem comps_at {s : WoS} {l : List ColP} {ks : List Int} {k c : Nat} (h : (compsN s.e.l.length l ks)[k]? = some c) : ∃ x, s.e.l[c]? = some x ∧ s.S c = x.2.S := by
  have h1 := List.mem_of_getElem? h
  unfold compsN at h1
  have h2 := List.mem_range.1 (List.mem_filter.1 h1).1
  exact ⟨_, List.getElem?_eq_getElem h2, by unfold WoS.S; rw [List.getElem?_eq_getElem h2]⟩
end Go.Proofs.YtcnbmfaicbkhcaaGreatDoor

/-
  Rows of a plan, 4: rows.Build.
-/
set_option maxRecDepth 100000
namespace Go.Proofs.YtcnbmfaicbkhcaaGreatDoor
open Go Go.RowKit
attribute [local irreducible] wpList Calls Code.wp stV EnS.live EnS.slot okI okN pS tS memS getG pG insS delS getV pV tV okVal newSl SlS.put SlS.err SlS.putU SlS.putB descE SlS.take SlS.set SlS.errSet SlS.get SlS.has planE compsN arN WoS.with_ WoS.wout WoS.S WoS.sets idxS
set_option maxHeartbeats 4000000 in
theorem build_e {w0 w : World} {L : List As} {W E A R X Q n : Nat} {s : WoS} (hb : St w0 (WoB W E A R X Q n s :: L) w) {N : Nat} (hN : Hid (s.e.l.length = N)) {l : List ColP} {D : Option Addr} {m cap : Nat} (hm : Hid (l.length = m)) (hmb : m ≤ 4000000000) (hmc : m ≤ cap) (hr : RdS w [] D (l.flatMap c2c)) {e : Int} (he : Hid (planE N l = e)) (h0 : e ≠ 0) :
    Calls Tryz.prog 102 #[.pointer (some ⟨W, 0, none⟩), .slice D m cap] w fun r w' => r = .returned (.tuple #[.pointer none, .int .i64 0, .int .i64 e]) ∧ Grew w w' := by
  have d0 : (e != 0) = true := by simpa using h0
  have HB := Lib.hid hb
  have HR := Lib.hid hr
  have hs0 := St.start w
  clear hb hr
  go_enter Tryz.func102, Tryz.ntmps102
  go_upto_region 1 with (first
    | (refine wpl_box_v (v := .pointer (some ⟨W, 0, none⟩)) rfl hs0 ?_; clear hs0; intro g2 w1 hs; replace hs : St w [blk g2 #[.pointer (some ⟨W, 0, none⟩)] 58] w1 := hs))
  have e0 : World.cell? _ ⟨g2, 0, none⟩ = some (.pointer (some ⟨W, 0, none⟩)) := Rd.blk (by rfl) _ hs
  have e1 : World.cell? _ ⟨W, 0, none⟩ = some (.pointer (some ⟨E, 0, none⟩)) := Rd.wo0 _ (HB.out.grew hs.made_grew)
  have e2 : World.cell? _ ⟨E, 1, none⟩ = some (.pointer (some ⟨R, 0, none⟩)) := Rd.woe1 _ (HB.out.grew hs.made_grew)
  obtain ⟨T0, hr, _⟩ := (HB.out.grew hs.made_grew).worg
  have HDS := Lib.hid (rg_descs_m hr)
  rw [hN.out] at HDS
  clear hr
  go_upto_region 2 with (first
    | (go_at_call 183; refine HDS.out.mono ?_; clear HDS e0 e1 e2; rintro r w' ⟨DA, dc, rfl, hm⟩; replace hs := hs.made hm; clear hm)
    | (go_at_call 182; refine (plchk_c hm hmb hmc ((HR.out.any _).hereP hs) he).mono ?_; rintro r w' ⟨rfl, hg⟩; replace hs := hs.grew hg; clear hg))
  go_wp2
  go_ret3
  exact ⟨rfl, hs.made_grew⟩
theorem take_snd {ts : List TS} {p : List (List Nat)} {q : List Nat} {f : Nat → List Nat} {k c T : Nat} (h : ts.map Prod.snd = p ++ (q.take k).map f) (hc : q[k]? = some c) : Hid ((ts ++ [(T, f c)]).map Prod.snd = p ++ (q.take (k + 1)).map f) := by
  rw [Hid, List.map_append, h, List.take_add_one, hc, List.map_append, List.append_assoc]
  rfl
theorem RwV.grew {w w' : World} {s : WoS} {l : List ColP} {D : Nat} (h : RwV w s l D) (hg : Grew w w') : RwV w' s l D := let ⟨ss, hv⟩ := h; ⟨ss, hv.grew hg⟩
set_option maxHeartbeats 8000000 in
theorem build_c {w0 w : World} {L : List As} {W E A R X Q n : Nat} {s : WoS} (hT : Tab w) (hb : St w0 (WoB W E A R X Q n s :: L) w) {N : Nat} (hN : Hid (s.e.l.length = N)) (hN12 : N ≤ 12) {l : List ColP} {D : Option Addr} {m cap : Nat} (hm : Hid (l.length = m)) (hmb : m ≤ 4000000000) (hmc : m ≤ cap) (hr : RdS w [] D (l.flatMap c2c)) (he : Hid (planE N l = 0)) {z : Nat} (hz : Hid (1 + (s.with_ l).length + (s.wout l).length + 2 = z)) :
    Calls Tryz.prog 102 #[.pointer (some ⟨W, 0, none⟩), .slice D m cap] w fun r w' => ∃ a, r = .returned (.tuple #[.pointer (some ⟨a, 0, none⟩), .int .i64 (z : Nat), .int .i64 0]) ∧ RwV w' s l a ∧ Grew w w' := by
  have HP : Hid (PlOk s.e.l.length l) := by rw [Hid, hN.out]; exact planE_ok he.out
  have hm16 : m ≤ 16 := by have := HP.out.len; rw [hm.out] at this; exact this
  obtain ⟨x, HX⟩ : ∃ x, Hid ((s.with_ l).length = x) := ⟨_, rfl⟩
  obtain ⟨y, HY⟩ : ∃ y, Hid ((s.wout l).length = y) := ⟨_, rfl⟩
  have HX2 : Hid ((compsN s.e.l.length l [1, 2]).length = x) := by rw [Hid, ← HX.out]; unfold WoS.with_; rfl
  have HY2 : Hid ((compsN s.e.l.length l [4]).length = y) := by rw [Hid, ← HY.out]; unfold WoS.wout; rfl
  have hx12 : x ≤ 12 := by rw [← HX2.out]; have := compsN_le s.e.l.length l [1, 2]; rw [hN.out] at this ⊢; omega
  have hy12 : y ≤ 12 := by rw [← HY2.out]; have := compsN_le s.e.l.length l [4]; rw [hN.out] at this ⊢; omega
  obtain rfl : 1 + x + y + 2 = z := by rw [← hz.out, HX.out, HY.out]
  have HT := Lib.hid hT
  have tk : True := trivial
  clear hT hz
  have HB := Lib.hid hb
  have HR := Lib.hid hr
  have hs0 := St.start w
  clear hb hr
  go_enter Tryz.func102, Tryz.ntmps102
  go_upto_region 1 with (first
    | (refine wpl_box_v (v := .pointer (some ⟨W, 0, none⟩)) rfl hs0 ?_; clear hs0; intro g2 w1 hs; replace hs : St w [blk g2 #[.pointer (some ⟨W, 0, none⟩)] 58] w1 := hs))
  have e0 : World.cell? _ ⟨g2, 0, none⟩ = some (.pointer (some ⟨W, 0, none⟩)) := Rd.blk (by rfl) _ hs
  have e1 : World.cell? _ ⟨W, 0, none⟩ = some (.pointer (some ⟨E, 0, none⟩)) := Rd.wo0 _ (HB.out.grew hs.made_grew)
  have e2 : World.cell? _ ⟨E, 1, none⟩ = some (.pointer (some ⟨R, 0, none⟩)) := Rd.woe1 _ (HB.out.grew hs.made_grew)
  obtain ⟨T0, hr, _⟩ := (HB.out.grew hs.made_grew).worg
  have HDS := Lib.hid (rg_descs_m hr)
  rw [hN.out] at HDS
  clear hr
  go_upto_region 2 with (first
    | (go_at_call 183; refine HDS.out.mono ?_; clear HDS e0 e1 e2; rintro r w' ⟨DA, dc, rfl, hm⟩; replace hs := hs.made hm; clear hm)
    | (go_at_call 182; refine (plchk_c hm hmb hmc ((HR.out.any _).hereP hs) he).mono ?_; rintro r w' ⟨rfl, hg⟩; replace hs := hs.grew hg; clear hg))
  replace hs := hs.drop
  have hN13 : s.e.l.length ≤ 12 := by rw [hN.out]; exact hN12
  go_upto_region 7 with (first
    | (go_at_call 184; refine (exnew_v hs).mono ?_; clear hs; rintro r w' ⟨a, rfl, hs⟩)
    | (refine wpl_alloc zeroArP hs ?_; clear hs; intro g8 w2 hs; replace hs : St w [blk g8 #[.pointer none] 232, ArB a [], blk g2 #[.pointer (some ⟨W, 0, none⟩)] 58] w2 := hs)
    | (refine wpl_store (v := .pointer (some ⟨a, 0, none⟩)) rfl rfl rfl size_arP hs Wr.one ?_; clear hs; intro w3 hs)
    | (go_at_call 185; refine (parts_c hm hm16 ((HR.out.any _).hereP hs) HP hN13 HX2 HY2).mono ?_; rintro r w' ⟨A1, c1, A2, c2, b0, rfl, hm⟩; replace hs := hs.mades hm; clear hm))
  replace hs : St w [ArB a [], blk g2 #[.pointer (some ⟨W, 0, none⟩)] 58, blk g8 #[.pointer (some ⟨a, 0, none⟩)] 232, own A1 x c1 3 1 (ints (natI (compsN s.e.l.length l [1, 2]))), own A2 y c2 3 1 (ints (natI (compsN s.e.l.length l [4])))] w' := hs.ent (by (repeat first | exact Ent.refl _ | refine Ent.step (by repeat first | exact Ent.refl _ | apply Ent.skip) ?_))
  have hsN := (hs.rot.up2.ent (M := blk g2 #[.pointer (some ⟨W, 0, none⟩)] 58 :: blk g8 #[.pointer (some ⟨a, 0, none⟩)] 232 :: _) (Ent.swap _ _ _)).only2
  refine wp_region_plain [false, false, false, false, false, false, false, false, false, false, true, true, true, true] hsN (by kernel_rfl) (by kernel_rfl) fun hne => ?_
  have q0 := (Rd.blk (w0 := w) (g := g2) (k := 0) (cs := #[.pointer (some ⟨W, 0, none⟩)]) (v := .pointer (some ⟨W, 0, none⟩)) (t := 58) (L := [blk g8 #[.pointer (some ⟨a, 0, none⟩)] 232]) (by rfl)).alln
  have q1 := ((Rd.blk (w0 := w) (g := g8) (k := 0) (cs := #[.pointer (some ⟨a, 0, none⟩)]) (v := .pointer (some ⟨a, 0, none⟩)) (t := 232) (L := []) (by rfl)).tail (p := blk g2 #[.pointer (some ⟨W, 0, none⟩)] 58)).alln
  have q2 := (Rd.old (w0 := w) (L := [blk g2 #[.pointer (some ⟨W, 0, none⟩)] 58, blk g8 #[.pointer (some ⟨a, 0, none⟩)] 232]) (Rd.wo0 _ HB.out)).alln
  have q3 := (Rd.old (w0 := w) (L := [blk g2 #[.pointer (some ⟨W, 0, none⟩)] 58, blk g8 #[.pointer (some ⟨a, 0, none⟩)] 232]) (Rd.woe0 _ HB.out)).alln
  simp only [pickOps]
  repeat (go_big_quiet_step (fail))
  refine wpQuiet_nil ?_
  clear hne q0 q1 q2 q3 hsN
  simp only [chainIx]
  replace hs := hs.drew
  obtain ⟨T1, hal⟩ := (HB.out.grew hs.made_grew).woal
  refine wpChainP_next rfl ?_
  go_wp2_with (first
    | (go_at_call 189; refine (mask_c hal).mono ?_; clear hal; rintro r w' ⟨T', rfl, hm⟩; replace hs := hs.made hm; clear hm))
  refine ⟨(hs.ent (M := blk g2 #[.pointer (some ⟨W, 0, none⟩)] 58 :: blk g8 #[.pointer (some ⟨a, 0, none⟩)] 232 :: HSet T' (idxS 1 s.e.cs) :: ArB a [] :: [own A1 x c1 3 1 (ints (natI (compsN s.e.l.length l [1, 2]))), own A2 y c2 3 1 (ints (natI (compsN s.e.l.length l [4])))]) (by (repeat first | exact Ent.refl _ | refine Ent.step (by repeat first | exact Ent.refl _ | apply Ent.skip) ?_))).only2, ?_⟩
  have hs2 := (hs.rot).aropen
  clear hs
  refine wpChainP_next rfl ?_
  go_wp2_with (first
    | (go_at_call 187; refine (exset_v (v := 0) hs2 (some ⟨T', 0, none⟩) (Lib.hid rfl) (Lib.hid rfl) (Lib.hid rfl) (by decide) (show 0 ≤ 1000000 by decide)).mono ?_; clear hs2; rintro r w' ⟨rfl, hs⟩))
  replace hs := (St.arshut (hs.ent (Ent.cons _ (Ent.swap _ _ _))))
  refine ⟨(hs.ent (M := blk g2 #[.pointer (some ⟨W, 0, none⟩)] 58 :: blk g8 #[.pointer (some ⟨a, 0, none⟩)] 232 :: ArB a [(T', idxS 1 s.e.cs)] :: [own A1 x c1 3 1 (ints (natI (compsN s.e.l.length l [1, 2]))), own A2 y c2 3 1 (ints (natI (compsN s.e.l.length l [4])))]) (by (repeat first | exact Ent.refl _ | refine Ent.step (by repeat first | exact Ent.refl _ | apply Ent.skip) ?_))).only2, ?_⟩
  refine wpChainP_next rfl ?_
  refine wpl_build1 (v := .int .i64 0) elem24 (by decide) rfl rfl hs ?_
  clear hs
  intro gb w4 hs
  refine wpList_nil ⟨rfl, (hs.ent (M := blk g2 #[.pointer (some ⟨W, 0, none⟩)] 58 :: blk g8 #[.pointer (some ⟨a, 0, none⟩)] 232 :: blk gb #[.int .i64 0] 3 :: ArB a [(T', idxS 1 s.e.cs)] :: [own A1 x c1 3 1 (ints (natI (compsN s.e.l.length l [1, 2]))), own A2 y c2 3 1 (ints (natI (compsN s.e.l.length l [4])))]) (by (repeat first | exact Ent.refl _ | refine Ent.step (by repeat first | exact Ent.refl _ | apply Ent.skip) ?_))).only2, ?_⟩
  replace hs := hs.conv (own_of_blk (n := 1) (cs := [.int .i64 0]) rfl (by decide))
  have hs2 : St w [ArB a [(T', idxS 1 s.e.cs)], blk g2 #[.pointer (some ⟨W, 0, none⟩)] 58, blk g8 #[.pointer (some ⟨a, 0, none⟩)] 232, own (some ⟨gb, 0, none⟩) 1 1 3 1 [.int .i64 0], own A1 x c1 3 1 (ints (natI (compsN s.e.l.length l [1, 2]))), own A2 y c2 3 1 (ints (natI (compsN s.e.l.length l [4])))] w4 := hs.ent (by (repeat first | exact Ent.refl _ | refine Ent.step (by repeat first | exact Ent.refl _ | apply Ent.skip) ?_))
  clear hs
  have hx0 : x ≤ 9223372036854775807 := by omega
  have hy0 : y ≤ 9223372036854775807 := by omega
  refine wpChain_last rfl ?_
  go_wp2
  go_loopw [13, 57] (fun av cv wr => ∃ (k : Nat) (ts : List TS) (A : Option Addr) (cp : Nat), k ≤ x ∧ Hid (ts.map Prod.snd = idxS 1 s.e.cs :: ((s.with_ l).take k).map s.S) ∧ Hid (ts.length = 1 + k) ∧ av = .slice A (1 + k) cp ∧ cv = .int .i64 (k : Nat) ∧
    St w [ArB a ts, blk g2 #[.pointer (some ⟨W, 0, none⟩)] 58, blk g8 #[.pointer (some ⟨a, 0, none⟩)] 232, own A (1 + k) cp 3 1 (ints (natI (List.range (1 + k)))), own A1 x c1 3 1 (ints (natI (compsN s.e.l.length l [1, 2]))), own A2 y c2 3 1 (ints (natI (compsN s.e.l.length l [4])))] wr) (fun _ cv _ => x - (intOf cv).toNat)
  case atStart => exact ⟨0, _, _, _, Nat.zero_le _, by rw [Hid]; rfl, by rw [Hid]; rfl, rfl, rfl, hs2⟩
  case round =>
    clear hs2
    obtain ⟨k, ts, A, cp, hkx, HTS, HTL, rfl, rfl, hs⟩ := hrel
    by_cases hlt : k < x
    · obtain ⟨c, HC⟩ : ∃ c, Hid ((compsN s.e.l.length l [1, 2])[k]? = some c) := ⟨_, List.getElem?_eq_getElem (by rw [HX2.out]; exact hlt)⟩
      obtain ⟨xs, hxs, hSx⟩ := comps_at HC.out
      obtain ⟨gA, rfl⟩ := (hs.up4).own_at (by omega)
      have ca : World.cell? wr ⟨gA, k, none⟩ = some (.int .i64 (c : Nat)) := Rd.own (by unfold natI ints; rw [List.getElem?_map, List.getElem?_map, HC.out]; rfl) _ hs.up4
      have HXS := Lib.hid hxs
      have HSX := Lib.hid hSx.symm
      have hk9 : 1 + k ≤ 100 := by omega
      clear hxs hSx
      (go_wp2_with (first
        | (go_at_call 186; refine (rw1_c HB.out hs HXS HTL hk9 HSX).mono ?_; clear hs ca; rintro r w' ⟨T2, rfl, hs⟩)
        | (refine wpl_build1 (v := .int .i64 ((1 + k : Nat) : Int)) elem24 (by decide) rfl rfl hs ?_; clear hs; intro G w hs)
        | (refine wpl_append (A := A) (n := 1 + k) (cap := cp) (xs := ints (natI (List.range (1 + k)))) (B := some ⟨G, 0, none⟩) (m := 1) (news := [.int .i64 ((1 + k : Nat) : Int)]) elem24 rfl rfl hs (Ent.skip (Ent.skip (Ent.skip (Ent.skip (Ent.refl _))))) RdS.blk rfl (by intro u hu; simp at hu; subst hu; rfl) (by unfold maxLen; omega) (by omega) ?_; clear hs; intro A3 cp3 w hs)))
      have hs5 := hs.rot.drop
      rw [← ints_snoc, show natI (List.range (1 + k)) ++ [((1 + k : Nat) : Int)] = natI (List.range (1 + (k + 1))) by rw [show 1 + (k + 1) = 1 + k + 1 by omega, natI_range_succ]] at hs5
      go_roundw
      case rel => exact ⟨k + 1, ts ++ [(T2, s.S c)], A3, cp3, by omega, take_snd (p := [idxS 1 s.e.cs]) HTS.out (by unfold WoS.with_; exact HC.out), by rw [Hid, List.length_append, HTL.out]; simp; omega, rfl, by simp, hs5.dn3⟩
      case measure => simp [intOf]; omega
    · obtain rfl : k = x := by omega
      have HTS2 : Hid (ts.map Prod.snd = (idxS 1 s.e.cs :: (s.with_ l).map s.S) ++ ((s.wout l).take 0).map s.S) := by
        rw [Hid, HTS.out, List.take_of_length_le (by rw [HX.out]; exact Nat.le_refl _)]
        simp
      have hsx := (hs.up4.drop).own_nil 3 1
      have hs2 : St w [ArB a ts, blk g2 #[.pointer (some ⟨W, 0, none⟩)] 58, blk g8 #[.pointer (some ⟨a, 0, none⟩)] 232, own none 0 0 3 1 (ints (natI (noneI (1 + k) 0))), own A2 y c2 3 1 (ints (natI (compsN s.e.l.length l [4]))), own A (1 + k) cp 3 1 (ints (natI (List.range (1 + k))))] wr := hsx.ent (by (repeat first | exact Ent.refl _ | refine Ent.step (by repeat first | exact Ent.refl _ | apply Ent.skip) ?_))
      clear hs hsx HTS
      go_wp2
      go_loopw [16, 70] (fun av cv wr => ∃ (j : Nat) (ts : List TS) (B : Option Addr) (cq : Nat), j ≤ y ∧ Hid (ts.map Prod.snd = (idxS 1 s.e.cs :: (s.with_ l).map s.S) ++ ((s.wout l).take j).map s.S) ∧ Hid (ts.length = 1 + k + j) ∧ av = .slice B j cq ∧ cv = .int .i64 (j : Nat) ∧
        St w [ArB a ts, blk g2 #[.pointer (some ⟨W, 0, none⟩)] 58, blk g8 #[.pointer (some ⟨a, 0, none⟩)] 232, own B j cq 3 1 (ints (natI (noneI (1 + k) j))), own A2 y c2 3 1 (ints (natI (compsN s.e.l.length l [4]))), own A (1 + k) cp 3 1 (ints (natI (List.range (1 + k))))] wr) (fun _ cv _ => y - (intOf cv).toNat)
      case atStart => exact ⟨0, ts, none, 0, Nat.zero_le _, HTS2, HTL, rfl, rfl, hs2⟩
      case round =>
        clear hs2
        obtain ⟨j, ts, B, cq, hjy, HTS, HTL, rfl, rfl, hs⟩ := hrel
        by_cases hlt2 : j < y
        · obtain ⟨c, HC⟩ : ∃ c, Hid ((compsN s.e.l.length l [4])[j]? = some c) := ⟨_, List.getElem?_eq_getElem (by rw [HY2.out]; exact hlt2)⟩
          obtain ⟨xs, hxs, hSx⟩ := comps_at HC.out
          obtain ⟨gA, rfl⟩ := (hs.up4).own_at (by omega)
          have ca : World.cell? wr ⟨gA, j, none⟩ = some (.int .i64 (c : Nat)) := Rd.own (by unfold natI ints; rw [List.getElem?_map, List.getElem?_map, HC.out]; rfl) _ hs.up4
          have HXS := Lib.hid hxs
          have HSX := Lib.hid hSx.symm
          have hk9 : 1 + k + j ≤ 100 := by omega
          clear hxs hSx hlt
          (go_wp2_with (first
            | (go_at_call 186; refine (rw1_c HB.out hs HXS HTL hk9 HSX).mono ?_; clear hs ca; rintro r w' ⟨T2, rfl, hs⟩)
            | (refine wpl_build1 (v := .int .i64 ((1 + k + j : Nat) : Int)) elem24 (by decide) rfl rfl hs ?_; clear hs; intro G w hs)
            | (refine wpl_append (A := B) (n := j) (cap := cq) (xs := ints (natI (noneI (1 + k) j))) (B := some ⟨G, 0, none⟩) (m := 1) (news := [.int .i64 ((1 + k + j : Nat) : Int)]) elem24 rfl rfl hs (Ent.skip (Ent.skip (Ent.skip (Ent.skip (Ent.refl _))))) RdS.blk rfl (by intro u hu; simp at hu; subst hu; rfl) (by unfold maxLen; omega) (by omega) ?_; clear hs; intro B3 cq3 w hs)))
          have hs5 := hs.rot.drop
          rw [← ints_snoc, ← noneI_succ] at hs5
          go_roundw
          case rel => exact ⟨j + 1, ts ++ [(T2, s.S c)], B3, cq3, by omega, take_snd HTS.out (by unfold WoS.wout; exact HC.out), by rw [Hid, List.length_append, HTL.out]; simp; omega, rfl, by simp, hs5.dn3⟩
          case measure => simp [intOf]; omega
        · obtain rfl : j = y := by omega
          have HSS : Hid ((fun i => (s.sets l).getD i []) = fun i => (ts.map Prod.snd).getD i []) := by
            rw [Hid, HTS.out, List.take_of_length_le (by rw [HY.out]; exact Nat.le_refl _)]
            unfold WoS.sets
            rfl
          have HPL : Hid ((ptrs ts).length = 1 + k + j) := by rw [Hid]; unfold ptrs; rw [List.length_map]; exact HTL.out
          have HOK : Hid (ArOk (arN (1 + k) j) (1 + k + j)) := arN_ok (by omega) (by omega)
          obtain ⟨hv1, hl1⟩ := add_op (l := arS (1 + k + j)) (k := 3) (kids := noneI (1 + k) j) (by rw [arS_len]; omega) (by unfold noneI; simp; omega) (fun x hx => by
            obtain ⟨i, hi, rfl⟩ := List.mem_map.1 hx
            have := List.mem_range.1 hi
            rw [arS_len]; omega)
          obtain ⟨hv2, hl2⟩ := add_op (l := arM (1 + k) j) (k := 5) (kids := [1 + k + j]) (by rw [arM_len]; omega) (show 1 ≤ 64 by decide) (fun x hx => by rw [List.mem_singleton.1 hx, arM_len]; omega)
          obtain ⟨hv3, hl3⟩ := add_op (l := arM (1 + k) j ++ [⟨5, [1 + k + j]⟩]) (k := 2) (kids := List.range (1 + k) ++ [1 + k + j + 1]) (by rw [List.length_append, arM_len]; simp; omega) (by simp; omega) (fun x hx => by
            rw [List.length_append, arM_len]
            rcases List.mem_append.1 hx with h | h
            · have := List.mem_range.1 h; simp; omega
            · rw [List.mem_singleton.1 h]; simp)
          rw [arS_len] at hv1
          rw [arM_len] at hv2
          rw [List.length_append, arM_len] at hv3
          rw [← arN_eq] at hl3
          have HV1 := Lib.hid hv1
          have HV2 := Lib.hid hv2
          have HV3 := Lib.hid hv3
          have HL1 := Lib.hid hl1
          have HL2 := Lib.hid hl2
          have HL3 := Lib.hid hl3
          have HK1 : Hid ((natI (noneI (1 + k) j)).length = j) := by rw [Hid]; unfold noneI natI; simp
          have HK3 : Hid ((natI (List.range (1 + k) ++ [1 + k + j + 1])).length = 1 + k + 1) := by rw [Hid]; unfold natI; simp
          have HB0 := hs.up3.own_none
          have hs2 : St w (ExB a (arS (1 + k + j)) (ptrs ts) :: HsA ts :: blk g2 #[.pointer (some ⟨W, 0, none⟩)] 58 :: blk g8 #[.pointer (some ⟨a, 0, none⟩)] 232 :: own B j cq 3 1 (ints (natI (noneI (1 + k) j))) :: own A2 j c2 3 1 (ints (natI (compsN s.e.l.length l [4]))) :: [own A (1 + k) cp 3 1 (ints (natI (List.range (1 + k))))]) wr := by
            have := hs.aropen
            rwa [HTL.out] at this
          clear hv1 hv2 hv3 hl1 hl2 hl3 HTS hs hlt hlt2
          have hrB : RdS w (ExB a (arS (1 + k + j)) (ptrs ts) :: HsA ts :: blk g2 #[.pointer (some ⟨W, 0, none⟩)] 58 :: blk g8 #[.pointer (some ⟨a, 0, none⟩)] 232 :: own B j cq 3 1 (ints (natI (noneI (1 + k) j))) :: own A2 j c2 3 1 (ints (natI (compsN s.e.l.length l [4]))) :: [own A (1 + k) cp 3 1 (ints (natI (List.range (1 + k))))]) B (ints (natI (noneI (1 + k) j))) := (RdS.own hs2.up4).ent (Ent.pull _ [_, _, _, _] _)
          go_upto_region 19 with (fail)
          have hsN := (hs2.up3).only
          refine wp_region_plain [false, false, false, false, true, true, true, true, true] hsN (by kernel_rfl) (by kernel_rfl) fun hne => ?_
          have q0 := (Rd.blk (w0 := w) (g := g8) (k := 0) (cs := #[.pointer (some ⟨a, 0, none⟩)]) (v := .pointer (some ⟨a, 0, none⟩)) (t := 232) (L := []) (by rfl)).alln
          simp only [pickOps]
          repeat (go_big_quiet_step (fail))
          refine wpQuiet_nil ?_
          clear hne q0 hsN
          simp only [chainIx]
          replace hs2 := hs2.drew
          refine wpChainP_next rfl ?_
          go_wp2_with (first
            | (go_at_call 191; refine (or_c (kids := natI (noneI (1 + k) j)) hs2 HB0 HK1 (by omega) hrB HV1 HL1).mono ?_; clear hs2 hrB; rintro r w' ⟨rfl, hs2⟩))
          refine ⟨(hs2.up3).only, ?_⟩
          refine wpChainP_next rfl ?_
          go_wp2_with (first
            | (go_at_call 190; refine (not_c hs2 ((1 + k + j : Nat) : Int) HV2 HL2).mono ?_; clear hs2; rintro r w' ⟨rfl, hs2⟩))
          refine ⟨(hs2.up3).only, ?_⟩
          refine wpChainP_next rfl ?_
          refine wpl_build1 (v := .int .i64 ((1 + k + j + 1 : Nat) : Int)) elem24 (by decide) rfl rfl hs2 ?_
          clear hs2
          intro G w5 hs2
          replace hs2 := hs2.rot
          refine wpList_nil ⟨rfl, (hs2.up4).only, ?_⟩
          refine wpChainP_next rfl ?_
          refine wpl_append (A := A) (n := 1 + k) (cap := cp) (xs := ints (natI (List.range (1 + k)))) (B := some ⟨G, 0, none⟩) (m := 1) (news := [.int .i64 ((1 + k + j + 1 : Nat) : Int)]) elem24 rfl rfl hs2 (Ent.skip (Ent.skip (Ent.skip (Ent.skip (Ent.skip (Ent.skip (Ent.skip (Ent.refl _)))))))) RdS.blk.tail rfl (by intro u hu; simp at hu; subst hu; rfl) (by unfold maxLen; omega) (by omega) ?_
          clear hs2
          intro A3 cp3 w6 hs2
          rw [← ints_snoc, show natI (List.range (1 + k)) ++ [((1 + k + j + 1 : Nat) : Int)] = natI (List.range (1 + k) ++ [1 + k + j + 1]) by unfold natI; rw [List.map_append]; rfl] at hs2
          have hs3 : St w (ExB a (arM (1 + k) j ++ [⟨5, [1 + k + j]⟩]) (ptrs ts) :: HsA ts :: blk g8 #[.pointer (some ⟨a, 0, none⟩)] 232 :: [own A3 (1 + k + 1) cp3 3 1 (ints (natI (List.range (1 + k) ++ [1 + k + j + 1])))]) w6 := by
            exact (hs2.ent (M := ExB a (arM (1 + k) j ++ [⟨5, [1 + k + j]⟩]) (ptrs ts) :: HsA ts :: blk g8 #[.pointer (some ⟨a, 0, none⟩)] 232 :: own A3 (1 + k + 1) cp3 3 1 (ints (natI (List.range (1 + k) ++ [1 + k + j + 1]))) :: blk G #[.int .i64 ((1 + k + j + 1 : Nat) : Int)] 3 :: blk g2 #[.pointer (some ⟨W, 0, none⟩)] 58 :: own B j cq 3 1 (ints (natI (noneI (1 + k) j))) :: [own A2 j c2 3 1 (ints (natI (compsN s.e.l.length l [4])))]) (by (repeat first | exact Ent.refl _ | refine Ent.step (by repeat first | exact Ent.refl _ | apply Ent.skip) ?_))).only4
          clear hs2
          have HA0 := hs3.up3.own_none
          have hrA : RdS w (ExB a (arM (1 + k) j ++ [⟨5, [1 + k + j]⟩]) (ptrs ts) :: HsA ts :: blk g8 #[.pointer (some ⟨a, 0, none⟩)] 232 :: [own A3 (1 + k + 1) cp3 3 1 (ints (natI (List.range (1 + k) ++ [1 + k + j + 1])))]) A3 (ints (natI (List.range (1 + k) ++ [1 + k + j + 1]))) := (RdS.own hs3.up3).ent (Ent.pull _ [_, _, _] _)
          refine wpList_nil ⟨rfl, (hs3.up2).only, ?_⟩
          refine wpChain_last rfl ?_
          go_upto_region 20 with (fail)
          have hsN := (hs3.up2).only
          refine wp_region_plain [false, false, false, true, true, true, true] hsN (by kernel_rfl) (by kernel_rfl) fun hne => ?_
          have q0 := (Rd.blk (w0 := w) (g := g8) (k := 0) (cs := #[.pointer (some ⟨a, 0, none⟩)]) (v := .pointer (some ⟨a, 0, none⟩)) (t := 232) (L := []) (by rfl)).alln
          simp only [pickOps]
          repeat (go_big_quiet_step (fail))
          refine wpQuiet_nil ?_
          clear hne q0 hsN
          simp only [chainIx]
          replace hs3 := hs3.drew
          refine wpChainP_next rfl ?_
          go_wp2_with (first
            | (go_at_call 192; refine (and_c (kids := natI (List.range (1 + k) ++ [1 + k + j + 1])) hs3 HA0 HK3 (by omega) hrA HV3 HL3).mono ?_; clear hs3 hrA; rintro r w' ⟨rfl, hs3⟩))
          refine ⟨(hs3.up2).only, ?_⟩
          refine wpChainP_next rfl ?_
          go_wp2
          refine ⟨(hs3.up2).only, ?_⟩
          refine wpChainP_next rfl ?_
          go_wp2
          refine ⟨(hs3.up2).only, ?_⟩
          refine wpChain_last rfl ?_
          go_wp2
          go_ret3
          refine ⟨a, rfl, ⟨ptrs ts, ?_⟩, hs3.made_grew⟩
          rw [HX.out, HY.out, HSS.out]
          exact hs3.scv (by rw [HPL.out]; exact HOK.out) (hsa_ok hs3.rot) HT.out
end Go.Proofs.YtcnbmfaicbkhcaaGreatDoor

/-
  Rows of a plan, 5: rows.Of.
-/
set_option maxRecDepth 100000
namespace Go.Proofs.YtcnbmfaicbkhcaaGreatDoor
open Go Go.RowKit
attribute [local irreducible] wpList Calls Code.wp stV EnS.live EnS.slot planE compsN arN WoS.with_ WoS.wout WoS.S WoS.sets idxS lst WoS.rows
theorem rowsof_e {w0 w : World} {L : List As} {W E A R X Q n : Nat} {s : WoS} (hb : St w0 (WoB W E A R X Q n s :: L) w) {N : Nat} (hN : Hid (s.e.l.length = N)) {l : List ColP} {D : Option Addr} {m cap : Nat} (hm : Hid (l.length = m)) (hmb : m ≤ 4000000000) (hmc : m ≤ cap) (hr : RdS w [] D (l.flatMap c2c)) {e : Int} (he : Hid (planE N l = e)) (h0 : e ≠ 0) :
    Calls Tryz.prog 38 #[.pointer (some ⟨W, 0, none⟩), .slice D m cap] w fun r w' => r = .returned (.tuple #[.slice none 0 0, .int .i64 e]) ∧ Grew w w' := by
  have d0 : (e != 0) = true := by simpa using h0
  have HC := Lib.hid (build_e hb hN hm hmb hmc hr he h0)
  clear hb hr he
  go_enter Tryz.func38, Tryz.ntmps38
  go_wp2_with (first
    | (go_at_call 102; refine HC.out.mono ?_; rintro r w' ⟨rfl, hg⟩))
  go_ret2
  exact ⟨rfl, hg⟩
theorem rowsof_c {w0 w : World} {L : List As} {W E A R X Q n : Nat} {s : WoS} (hT : Tab w) (hb : St w0 (WoB W E A R X Q n s :: L) w) {N : Nat} (hN : Hid (s.e.l.length = N)) (hN12 : N ≤ 12) {l : List ColP} {D : Option Addr} {m cap : Nat} (hm : Hid (l.length = m)) (hmb : m ≤ 4000000000) (hmc : m ≤ cap) (hr : RdS w [] D (l.flatMap c2c)) (he : Hid (planE N l = 0)) {o : List Nat} (ho : Hid (s.rows l = o)) {z : Nat} (hz : Hid (o.length = z)) :
    Calls Tryz.prog 38 #[.pointer (some ⟨W, 0, none⟩), .slice D m cap] w fun r w' => ∃ A cp, r = .returned (.tuple #[.slice A z cp, .int .i64 0]) ∧ St w [own A z cp 3 1 (ints (natI o))] w' := by
  obtain ⟨y, HY⟩ : ∃ y, Hid (1 + (s.with_ l).length + (s.wout l).length + 2 = y) := ⟨_, rfl⟩
  have HC := Lib.hid (build_c hT hb hN hN12 hm hmb hmc hr he HY)
  have hlst := rows_lst (s := s) (l := l) hb.wofew
  rw [HY.out, ho.out] at hlst
  have HL := Lib.hid hlst
  clear hb hr he hlst hT
  go_enter Tryz.func38, Tryz.ntmps38
  go_wp2_with (first
    | (go_at_call 102; refine HC.out.mono ?_; rintro r w' ⟨a, rfl, ⟨ss, hv⟩, hg⟩)
    | (go_at_call 103; refine (sclist_c hv ((y : Nat) : Int) 0 65536 HL hz).mono ?_; rintro r w2 ⟨B, cp, rfl, hs⟩))
  go_ret2
  exact ⟨B, cp, rfl, ((St.start w).grew hg).mades hs⟩
end Go.Proofs.YtcnbmfaicbkhcaaGreatDoor
