/-
  What befell (flag.Flag): New, Reader, Note of one event.
-/
import Derived.Test.YtmdjpeblbnbjmaaFl
set_option maxRecDepth 100000
namespace Go.Proofs.Ytmdjpeblbnbjmaa
open Go Go.RowKit
attribute [local irreducible] wpList Calls Code.wp

def flC (bd : Nat) (nt : Nat) (A : Option Addr) (n cap : Nat) (B : Option Addr) (m cap2 : Nat) : Array Value := #[.int .i64 (bd : Nat), .int .i64 (nt : Nat), .slice A n cap, .slice B m cap2]
def lastE (bd : Nat) (evs : List Ev) : List Ev := evs.drop (evs.length - bd)
def i8s (l : List Nat) : List Value := l.map fun r => .int .i64 (r : Nat)
structure FlOk (bd : Nat) (evs : List Ev) (rds : List Nat) : Prop where
  b1 : 1 ≤ bd
  b2 : bd ≤ 1000
  few : rds.length ≤ 100
  back : ∀ r ∈ rds, r ≤ evs.length
def FlB (F bd : Nat) (evs : List Ev) (rds : List Nat) : As := fun h => FlOk bd evs rds ∧ ∃ A cap B cap2, star (blk F (flC bd evs.length A (lastE bd evs).length cap B rds.length cap2) 101) (star (own A (lastE bd evs).length cap 80 2 (es2 (lastE bd evs))) (own B rds.length cap2 2 1 (i8s rds))) h
theorem St.flopen {w0 w : World} {F bd : Nat} {evs : List Ev} {rds : List Nat} {L : List As} (hs : St w0 (FlB F bd evs rds :: L) w) :
    ∃ A cap B cap2, FlOk bd evs rds ∧ St w0 (Ytmdjpeblbnbjmaa.blk F (flC bd evs.length A (lastE bd evs).length cap B rds.length cap2) 101 :: own A (lastE bd evs).length cap 80 2 (es2 (lastE bd evs)) :: own B rds.length cap2 2 1 (i8s rds) :: L) w := by
  obtain ⟨hb, h, r, hd, hu, a, b, hab, rfl, ⟨hok, A, cap, B, cap2, ht⟩, hl⟩ := hs
  have h1 : St w0 (star (Ytmdjpeblbnbjmaa.blk F (flC bd evs.length A (lastE bd evs).length cap B rds.length cap2) 101) (star (own A (lastE bd evs).length cap 80 2 (es2 (lastE bd evs))) (own B rds.length cap2 2 1 (i8s rds))) :: L) w := ⟨hb, _, r, hd, hu, a, b, hab, rfl, ht, hl⟩
  exact ⟨A, cap, B, cap2, hok, (h1.ent (Ent.open2 fun _ h => h)).ent (Ent.cons _ (Ent.open2 fun _ h => h))⟩
theorem St.flshut {w0 w : World} {F bd n m nt : Nat} {evs : List Ev} {rds : List Nat} {L : List As} {A B : Option Addr} {cap cap2 : Nat} {cs ds : List Value} (hok : FlOk bd evs rds) (ht : nt = evs.length) (hn : n = (lastE bd evs).length) (hm : m = rds.length) (hcs : cs = es2 (lastE bd evs)) (hds : ds = i8s rds)
    (hs : St w0 (Ytmdjpeblbnbjmaa.blk F (flC bd nt A n cap B m cap2) 101 :: own A n cap 80 2 cs :: own B m cap2 2 1 ds :: L) w) : St w0 (FlB F bd evs rds :: L) w := by
  subst ht hn hm hcs hds
  exact ((hs.ent (Ent.cons _ (Ent.shut2 fun _ h => h))).ent (Ent.shut2 fun _ h => h)).conv fun _ h => ⟨hok, A, cap, B, cap2, h⟩
section
variable {w0 : World} {F bd nt n cap m cap2 : Nat} {A B : Option Addr} {L : List As} {t : TypeId}
theorem Rd.fl0 : Rd w0 (Ytmdjpeblbnbjmaa.blk F (flC bd nt A n cap B m cap2) t :: L) ⟨F, 0, none⟩ (.int .i64 (bd : Nat)) := Rd.blk rfl
theorem Rd.fl1 : Rd w0 (Ytmdjpeblbnbjmaa.blk F (flC bd nt A n cap B m cap2) t :: L) ⟨F, 1, none⟩ (.int .i64 (nt : Nat)) := Rd.blk rfl
theorem Rd.fl2 : Rd w0 (Ytmdjpeblbnbjmaa.blk F (flC bd nt A n cap B m cap2) t :: L) ⟨F, 2, none⟩ (.slice A n cap) := Rd.blk rfl
theorem Rd.fl3 : Rd w0 (Ytmdjpeblbnbjmaa.blk F (flC bd nt A n cap B m cap2) t :: L) ⟨F, 3, none⟩ (.slice B m cap2) := Rd.blk rfl
theorem Wr.fl1 {nt' : Nat} : Wr w0 (Ytmdjpeblbnbjmaa.blk F (flC bd nt A n cap B m cap2) t :: L) ⟨F, 1, none⟩ (.int .i64 (nt' : Nat)) (Ytmdjpeblbnbjmaa.blk F (flC bd nt' A n cap B m cap2) t :: L) := Wr.blk (by simp [flC])
theorem Wr.fl2 {A' : Option Addr} {n' cap' : Nat} : Wr w0 (Ytmdjpeblbnbjmaa.blk F (flC bd nt A n cap B m cap2) t :: L) ⟨F, 2, none⟩ (.slice A' n' cap') (Ytmdjpeblbnbjmaa.blk F (flC bd nt A' n' cap' B m cap2) t :: L) := Wr.blk (by simp [flC])
theorem Wr.fl3 {B' : Option Addr} {m' cap' : Nat} : Wr w0 (Ytmdjpeblbnbjmaa.blk F (flC bd nt A n cap B m cap2) t :: L) ⟨F, 3, none⟩ (.slice B' m' cap') (Ytmdjpeblbnbjmaa.blk F (flC bd nt A n cap B' m' cap') t :: L) := Wr.blk (by simp [flC])
end
theorem i8s_len (l : List Nat) : (i8s l).length = l.length := by simp [i8s]
theorem i8s_one (l : List Nat) : ∀ u ∈ i8s l, u.oneCell' = true := by
  intro u hu
  obtain ⟨i, _, rfl⟩ := List.mem_map.1 hu
  rfl
theorem elem8 : ElemOk Try.prog 99 2 1 8 := ElemOk.of Try.underlying99 (z := .int .i64 0) (by kernel_rfl) rfl (by decide)
theorem one8 : one1 Try.prog 2 = true := by kernel_rfl
theorem size8 : (Try.prog.info? 2).map (·.size) = some 1 := by kernel_rfl
theorem size8s : (Try.prog.info? 99).map (·.size) = some 1 := by kernel_rfl
theorem sizeEs : (Try.prog.info? 76).map (·.size) = some 1 := by kernel_rfl
theorem build_fl (bd : Nat) (w : World) : (Instr.build 101 #[(0, .int .i64 (bd : Nat))]).run Try.prog w = .ok (.agg (flC bd 0 none 0 0 none 0 0)) w := by kernel_rfl
theorem fl_new {w : World} {bd : Nat} (h1 : 1 ≤ bd) (h2 : bd ≤ 1000) :
    Calls Try.prog 37 #[.int .i64 (bd : Nat)] w fun e w' => ∃ F, e = .returned (.tuple #[.pointer (some ⟨F, 0, none⟩), .int .i64 0]) ∧ St w [FlB F bd [] []] w' := by
  have hs := St.start w
  have hb := build_fl bd
  go_enter Try.func37, Try.ntmps37
  go_wp2_with (first
    | (refine wpl_box_v (v := .agg (flC bd 0 none 0 0 none 0 0)) rfl hs ?_; clear hs; intro F w hs))
  go_ret2
  have h3 := ((hs.own_nil 2 1).own_nil 80 2)
  have h4 : St _ [Ytmdjpeblbnbjmaa.blk F (flC bd 0 none 0 0 none 0 0) 101, own none 0 0 80 2 [], own none 0 0 2 1 []] w := h3.ent (by (repeat first | exact Ent.refl _ | refine Ent.step (by first | exact Ent.refl _ | exact Ent.skip (Ent.refl _) | exact Ent.skip (Ent.skip (Ent.refl _)) | exact Ent.skip (Ent.skip (Ent.skip (Ent.refl _))) | exact Ent.skip (Ent.skip (Ent.skip (Ent.skip (Ent.refl _)))) | exact Ent.skip (Ent.skip (Ent.skip (Ent.skip (Ent.skip (Ent.refl _))))) | exact Ent.skip (Ent.skip (Ent.skip (Ent.skip (Ent.skip (Ent.skip (Ent.refl _)))))) | exact Ent.skip (Ent.skip (Ent.skip (Ent.skip (Ent.skip (Ent.skip (Ent.skip (Ent.refl _))))))) | exact Ent.skip (Ent.skip (Ent.skip (Ent.skip (Ent.skip (Ent.skip (Ent.skip (Ent.skip (Ent.refl _)))))))) | exact Ent.skip (Ent.skip (Ent.skip (Ent.skip (Ent.skip (Ent.skip (Ent.skip (Ent.skip (Ent.skip (Ent.refl _)))))))))) ?_))
  exact ⟨F, rfl, St.flshut (evs := []) (rds := []) (n := 0) (m := 0) (nt := 0) (cs := []) (ds := []) (A := none) (B := none) (cap := 0) (cap2 := 0) ⟨h1, h2, by decide, fun _ h => nomatch h⟩ rfl (by simp [lastE]) rfl (by simp [lastE, es2]) rfl h4⟩
theorem i8s_append (a b : List Nat) : i8s (a ++ b) = i8s a ++ i8s b := by simp [i8s]
theorem fl_reader {w0 w : World} {L : List As} {F bd : Nat} {evs : List Ev} {rds : List Nat} (hs : St w0 (FlB F bd evs rds :: L) w) (hr : rds.length < 100) :
    Calls Try.prog 32 #[.pointer (some ⟨F, 0, none⟩)] w fun e w' => e = .returned (.tuple #[.int .i64 (rds.length : Nat), .int .i64 0]) ∧ St w0 (FlB F bd evs (rds ++ [evs.length]) :: L) w' := by
  obtain ⟨A, cap, B, cap2, hok, hs⟩ := hs.flopen
  obtain ⟨m, hm⟩ : ∃ m, Hid (rds.length = m) := ⟨_, rfl⟩
  obtain ⟨nt, hnt⟩ : ∃ nt, Hid (evs.length = nt) := ⟨_, rfl⟩
  obtain ⟨n, hn⟩ : ∃ n, Hid ((lastE bd evs).length = n) := ⟨_, rfl⟩
  have hr2 : m < 100 := by rw [← hm.out]; exact hr
  rw [hm.out, hnt.out, hn.out] at hs
  rw [hm.out]
  have HOK := Lib.hid hok
  clear hok hr
  have hc3 := Rd.fl3 _ hs
  go_enter Try.func32, Try.ntmps32
  go_upto_region 3 with (fail)
  clear hc3
  have hr3 := fun L => Rd.fl3 (w0 := w0) (F := F) (bd := bd) (nt := nt) (A := A) (n := n) (cap := cap) (B := B) (m := m) (cap2 := cap2) (L := L) (t := 101)
  have hr1 := fun L => Rd.fl1 (w0 := w0) (F := F) (bd := bd) (nt := nt) (A := A) (n := n) (cap := cap) (B := B) (m := m) (cap2 := cap2) (L := L) (t := 101)
  refine wp_region_plain [false, false, false, false, false, false, false, false, false, true, true, false, false, true] hs.only (by kernel_rfl) (by kernel_rfl) fun hne => ?_
  have c3 := (hr3 []).alln
  have c1 := (hr1 []).alln
  simp only [pickOps]
  repeat (go_big_quiet_step (fail))
  refine wpQuiet_nil ?_
  clear hne c3 c1
  simp only [chainIx]
  refine wpChainP_next rfl ?_
  refine wpl_build1 (v := .int .i64 (nt : Nat)) elem8 (by decide) rfl rfl hs.drew ?_
  clear hs
  intro G w hs
  refine wpList_nil ⟨rfl, hs.drop.only, ?_⟩
  simp only [Act.put, List.setIfInBounds_toArray, List.set_cons_succ, List.set_cons_zero]
  refine wpChainP_next rfl ?_
  refine wpl_append (A := B) (n := m) (cap := cap2) (xs := i8s rds) (m := 1) (news := [.int .i64 (nt : Nat)]) elem8 rfl rfl hs (L' := blk G (Value.int .i64 (nt : Nat)).cells 2 :: blk F (flC bd nt A n cap B m cap2) 101 :: own A n cap 80 2 (es2 (lastE bd evs)) :: L) (by (repeat first | exact Ent.refl _ | refine Ent.step (by first | exact Ent.refl _ | exact Ent.skip (Ent.refl _) | exact Ent.skip (Ent.skip (Ent.refl _)) | exact Ent.skip (Ent.skip (Ent.skip (Ent.refl _))) | exact Ent.skip (Ent.skip (Ent.skip (Ent.skip (Ent.refl _)))) | exact Ent.skip (Ent.skip (Ent.skip (Ent.skip (Ent.skip (Ent.refl _))))) | exact Ent.skip (Ent.skip (Ent.skip (Ent.skip (Ent.skip (Ent.skip (Ent.refl _)))))) | exact Ent.skip (Ent.skip (Ent.skip (Ent.skip (Ent.skip (Ent.skip (Ent.skip (Ent.refl _))))))) | exact Ent.skip (Ent.skip (Ent.skip (Ent.skip (Ent.skip (Ent.skip (Ent.skip (Ent.skip (Ent.refl _)))))))) | exact Ent.skip (Ent.skip (Ent.skip (Ent.skip (Ent.skip (Ent.skip (Ent.skip (Ent.skip (Ent.skip (Ent.refl _)))))))))) ?_)) RdS.blk rfl (by simp; rfl) (by unfold maxLen; omega) (by omega) ?_
  clear hs
  intro B3 cap3 w hs
  refine wpList_nil ⟨rfl, hs.drop.drop.only, ?_⟩
  replace hs : St w0 (blk F (flC bd nt A n cap B m cap2) 101 :: own A n cap 80 2 (es2 (lastE bd evs)) :: own B3 (m + 1) cap3 2 1 (i8s rds ++ [.int .i64 (nt : Nat)]) :: L) w := (hs.rot.drop).ent (by (repeat first | exact Ent.refl _ | refine Ent.step (by first | exact Ent.refl _ | exact Ent.skip (Ent.refl _) | exact Ent.skip (Ent.skip (Ent.refl _)) | exact Ent.skip (Ent.skip (Ent.skip (Ent.refl _))) | exact Ent.skip (Ent.skip (Ent.skip (Ent.skip (Ent.refl _)))) | exact Ent.skip (Ent.skip (Ent.skip (Ent.skip (Ent.skip (Ent.refl _))))) | exact Ent.skip (Ent.skip (Ent.skip (Ent.skip (Ent.skip (Ent.skip (Ent.refl _)))))) | exact Ent.skip (Ent.skip (Ent.skip (Ent.skip (Ent.skip (Ent.skip (Ent.skip (Ent.refl _))))))) | exact Ent.skip (Ent.skip (Ent.skip (Ent.skip (Ent.skip (Ent.skip (Ent.skip (Ent.skip (Ent.refl _)))))))) | exact Ent.skip (Ent.skip (Ent.skip (Ent.skip (Ent.skip (Ent.skip (Ent.skip (Ent.skip (Ent.skip (Ent.refl _)))))))))) ?_))
  simp only [Act.put, List.setIfInBounds_toArray, List.set_cons_succ, List.set_cons_zero]
  refine wpChain_last rfl ?_
  refine wpl_store rfl rfl rfl size8s hs (Wr.fl3 (B' := B3) (m' := m + 1) (cap' := cap3)) ?_
  clear hs
  intro w hs
  refine wpList_nil ⟨rfl, ?_⟩
  have hc3 := Rd.fl3 _ hs
  go_wp2
  go_ret2
  refine ⟨by go_num, ?_⟩
  refine hs.flshut ⟨HOK.out.b1, HOK.out.b2, ?_, ?_⟩ hnt.out.symm hn.out.symm ?_ rfl ?_
  · rw [List.length_append, hm.out]; exact hr2
  · intro r hr
    rcases List.mem_append.1 hr with hr | hr
    · exact HOK.out.back r hr
    · rw [List.mem_singleton.1 hr]; exact Nat.le_refl _
  · rw [List.length_append, hm.out]; rfl
  · rw [i8s_append, hnt.out]; rfl
theorem lastE_len (bd : Nat) (evs : List Ev) : (lastE bd evs).length = min bd evs.length := by unfold lastE; rw [List.length_drop]; omega
theorem lastE_add (bd : Nat) (evs : List Ev) (e : Ev) : lastE bd (evs ++ [e]) = (lastE bd evs ++ [e]).drop ((lastE bd evs ++ [e]).length - bd) := by
  unfold lastE
  rw [← List.drop_append_of_le_length (by omega), List.drop_drop]
  congr 1
  simp only [List.length_append, List.length_drop, List.length_cons, List.length_nil]
  omega
theorem RdS.own_at {w0 : World} {g n cap o : Nat} {e : TypeId} {size : Nat} {xs : List Value} {L : List As} : RdS w0 (Ytmdjpeblbnbjmaa.own (some ⟨g, 0, none⟩) n cap e size xs :: L) (some ⟨g, o, none⟩) (xs.drop o) := fun k u hu => ⟨_, rfl, rfl, Rd.own (by rw [List.getElem?_drop] at hu; exact hu)⟩
theorem elemEE : ElemOk Try.prog 149 76 1 24 := ElemOk.of Try.underlying149 (z := .slice none 0 0) (by kernel_rfl) rfl (by decide)
theorem fl_note {w0 w : World} {L : List As} {F bd : Nat} {evs : List Ev} {rds : List Nat} (hs : St w0 (FlB F bd evs rds :: L) w) {e : Ev} (h1 : 1 ≤ e.1) (h2 : e.1 ≤ 3) (h3 : 0 ≤ e.2) (hl : evs.length < 4611686018427387904) {G cG : Nat} (hG : RdS w0 L (some ⟨G, 0, none⟩) (e2 e)) :
    Calls Try.prog 55 #[.pointer (some ⟨F, 0, none⟩), .slice (some ⟨G, 0, none⟩) 1 cG] w fun r w' => r = .returned (.int .i64 0) ∧ St w0 (FlB F bd (evs ++ [e]) rds :: L) w' := by
  obtain ⟨A, cap, B, cap2, hok, hs⟩ := hs.flopen
  have hll := lastE_len bd evs
  have hbd := hok.b2
  have hbd1 := hok.b1
  obtain ⟨m, hm⟩ : ∃ m, Hid (rds.length = m) := ⟨_, rfl⟩
  obtain ⟨nt, hnt⟩ : ∃ nt, Hid (evs.length = nt) := ⟨_, rfl⟩
  obtain ⟨n, hn⟩ : ∃ n, Hid ((lastE bd evs).length = n) := ⟨_, rfl⟩
  rw [hm.out, hnt.out, hn.out] at hs
  rw [hn.out] at hll
  rw [hnt.out] at hl hll
  have hn2 : n ≤ 1000 := by omega
  have HOK := Lib.hid hok
  have HLL := Lib.hid hll
  clear hok hll
  have hGs := Lib.hid hG
  have hc1 := Rd.fl1 _ hs
  have HC := Lib.hid (containsE1_c (cap := cG) h1 h2 h3 hs.drop.drop.drop hG)
  clear hG
  go_enter Try.func55, Try.ntmps55
  go_upto_region 3 with (first
    | (go_at_call 60; refine HC.out.mono ?_; rintro r w' ⟨rfl, hg⟩; replace hs := hs.grew hg; clear hg hc1; have hc1 := Rd.fl1 _ hs))
  go_upto_region 4 with (first
    | (refine wpl_store (v := .int .i64 ((nt + 1 : Nat) : Int)) rfl (by go_num) rfl size8 hs (Wr.fl1 (nt' := nt + 1)) ?_; clear hs hc1; intro w hs; have hc2 := Rd.fl2 _ hs))
  have hvv : ∀ v ∈ [Value.slice A n cap, .slice (some ⟨G, 0, none⟩) 1 cG], v.cells = #[v] := by
    intro v hv
    simp only [List.mem_cons, List.not_mem_nil, or_false] at hv
    rcases hv with rfl | rfl <;> rfl
  go_upto_region 5 with (first
    | (refine wpl_buildN (vs := [.slice A n cap, .slice (some ⟨G, 0, none⟩) 1 cG]) elemEE rfl rfl (show 2 ≤ 16777216 by decide) (show 0 < 2 by decide) hvv hs ?_; clear hs hc2; intro G2 w hs)
    | (go_at_call 62; refine (concatE_c (xs := lastE bd evs) (ys := [e]) (n := n) (m := 1) hs (Rd.blk rfl) (Rd.blk rfl) (RdS.own hs.drop.drop).tail.tail hGs.out.tail.tail.tail.tail hn.out rfl (by omega) (by omega)).mono ?_; clear hs; rintro r w ⟨C, cC, rfl, hs⟩; replace hs := hs.rot.drop.up2.drop.rot)
    | (refine wpl_store (v := .slice C (n + 1) cC) rfl rfl rfl sizeEs hs (Wr.fl2 (A' := C) (n' := n + 1) (cap' := cC)) ?_; clear hs; intro w hs))
  obtain ⟨gC, rfl⟩ := hs.rot.own_at (by omega)
  have hr0 := Rd.fl0 (w0 := w0) (F := F) (bd := bd) (nt := nt + 1) (A := some ⟨gC, 0, none⟩) (n := n + 1) (cap := cC) (B := B) (m := m) (cap2 := cap2) (L := []) (t := 101)
  have hr2 := Rd.fl2 (w0 := w0) (F := F) (bd := bd) (nt := nt + 1) (A := some ⟨gC, 0, none⟩) (n := n + 1) (cap := cC) (B := B) (m := m) (cap2 := cap2) (L := []) (t := 101)
  obtain ⟨k, hk⟩ : ∃ k : Nat, k = n + 1 - bd := ⟨_, rfl⟩
  have hmx : max ((n : Int) + 1 - (bd : Nat)) 0 = (k : Nat) := by omega
  have hkn : k ≤ n + 1 := by omega
  have hcl := (hs.rot.own_len).2.1
  have hck : ¬ cC = k := by omega
  have hnk : n + 1 - k ≤ 1000 := by omega
  have hkl : (lastE bd evs ++ [e]).length = n + 1 := by rw [List.length_append, hn.out]; rfl
  have HK : Hid ((lastE bd evs ++ [e]).drop k = lastE bd (evs ++ [e])) := by rw [Hid, lastE_add, hkl, hk]
  have HKL := Lib.hid hkl
  clear hk hkl hcl
  refine wp_region_plain [false, false, false, false, false, false, false, false, false, false, false, false, false, false, false, false, false, true, false, false, true] hs.only (by kernel_rfl) (by kernel_rfl) fun hne => ?_
  have c0 := hr0.alln
  have c2 := hr2.alln
  simp only [pickOps]
  repeat (go_big_quiet_step (fail))
  refine wpQuiet_nil ?_
  clear hne c0 c2
  simp only [chainIx]
  refine wpChainP_next rfl ?_
  replace hs := hs.drew
  go_wp2_with (first
    | (go_at_call 46; refine (cloneE_c (A := some ⟨gC, k * 2, none⟩) (l := (lastE bd evs ++ [e]).drop k) (fun h => nomatch h) (by rw [List.length_drop, HKL.out]) (by omega) hs (by rw [← es2_drop]; exact RdS.own_at.tail)).mono ?_; clear hs; rintro r w ⟨D, cD, rfl, hs⟩))
  refine ⟨hs.drop.only, ?_⟩
  replace hs := hs.rot.up2.drop.ent (M := blk F (flC bd (nt + 1) (some ⟨gC, 0, none⟩) (n + 1) cC B m cap2) 101 :: own D (n + 1 - k) cD 80 2 (es2 ((lastE bd evs ++ [e]).drop k)) :: own B m cap2 2 1 (i8s rds) :: L) (by (repeat first | exact Ent.refl _ | refine Ent.step (by first | exact Ent.refl _ | exact Ent.skip (Ent.refl _) | exact Ent.skip (Ent.skip (Ent.refl _)) | exact Ent.skip (Ent.skip (Ent.skip (Ent.refl _))) | exact Ent.skip (Ent.skip (Ent.skip (Ent.skip (Ent.refl _)))) | exact Ent.skip (Ent.skip (Ent.skip (Ent.skip (Ent.skip (Ent.refl _))))) | exact Ent.skip (Ent.skip (Ent.skip (Ent.skip (Ent.skip (Ent.skip (Ent.refl _)))))) | exact Ent.skip (Ent.skip (Ent.skip (Ent.skip (Ent.skip (Ent.skip (Ent.skip (Ent.refl _))))))) | exact Ent.skip (Ent.skip (Ent.skip (Ent.skip (Ent.skip (Ent.skip (Ent.skip (Ent.skip (Ent.refl _)))))))) | exact Ent.skip (Ent.skip (Ent.skip (Ent.skip (Ent.skip (Ent.skip (Ent.skip (Ent.skip (Ent.skip (Ent.refl _)))))))))) ?_))
  refine wpChain_last rfl ?_
  refine wpl_store rfl rfl rfl sizeEs hs (Wr.fl2 (A' := D) (n' := n + 1 - k) (cap' := cD)) ?_
  clear hs
  intro w hs
  refine wpList_nil ⟨rfl, ?_⟩
  go_wp2
  go_ret
  refine ⟨rfl, ?_⟩
  rw [HK.out] at hs
  refine hs.flshut ⟨HOK.out.b1, HOK.out.b2, HOK.out.few, fun r hr => ?_⟩ ?_ ?_ hm.out.symm rfl rfl
  · rw [List.length_append]; exact Nat.le_add_right_of_le (HOK.out.back r hr)
  · rw [List.length_append, hnt.out]; rfl
  · rw [← HK.out, List.length_drop, HKL.out]
end Go.Proofs.Ytmdjpeblbnbjmaa
