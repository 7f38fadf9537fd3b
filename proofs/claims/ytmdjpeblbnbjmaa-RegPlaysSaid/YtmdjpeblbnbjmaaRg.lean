/-
  Components (reg.Reg): the memory; New, Len, Slot, Add, Of, Strip.
-/
import Derived.Test.YtmdjpeblbnbjmaaRgLaw
set_option maxRecDepth 100000
namespace Go.Proofs.Ytmdjpeblbnbjmaa
open Go Go.RowKit
attribute [local irreducible] wpList Calls Code.wp okI okN pS tS memS getG pG insS delS getV pV tV okVal newSl SlS.put SlS.err SlS.putU SlS.putB descE SlS.take

def rgC (A : Option Addr) (n cap : Nat) : Array Value := #[.slice A n cap]
def RgB (R : Nat) (l : List Cmp) : As := fun h => l.length ≤ 64 ∧ ∃ A cap, star (blk R (rgC A l.length cap) 85) (star (own A l.length cap 87 1 (rgP l)) (Sls l)) h
theorem St.rgopen {w0 w : World} {R : Nat} {l : List Cmp} {L : List As} (hs : St w0 (RgB R l :: L) w) :
    l.length ≤ 64 ∧ ∃ A cap, St w0 (Ytmdjpeblbnbjmaa.blk R (rgC A l.length cap) 85 :: own A l.length cap 87 1 (rgP l) :: Sls l :: L) w := by
  obtain ⟨hb, h, r, hd, hu, a, b, hab, rfl, ⟨hok, A, cap, ht⟩, hl⟩ := hs
  have h1 : St w0 (star (Ytmdjpeblbnbjmaa.blk R (rgC A l.length cap) 85) (star (own A l.length cap 87 1 (rgP l)) (Sls l)) :: L) w := ⟨hb, _, r, hd, hu, a, b, hab, rfl, ht, hl⟩
  exact ⟨hok, A, cap, (h1.ent (Ent.open2 fun _ h => h)).ent (Ent.cons _ (Ent.open2 fun _ h => h))⟩
theorem St.rgshut {w0 w : World} {R n : Nat} {l : List Cmp} {L : List As} {A : Option Addr} {cap : Nat} {ps : List Value} (hok : l.length ≤ 64) (hn : n = l.length) (hp : ps = rgP l)
    (hs : St w0 (Ytmdjpeblbnbjmaa.blk R (rgC A n cap) 85 :: own A n cap 87 1 ps :: Sls l :: L) w) : St w0 (RgB R l :: L) w := by
  subst hn hp
  exact ((hs.ent (Ent.cons _ (Ent.shut2 fun _ h => h))).ent (Ent.shut2 fun _ h => h)).conv fun _ h => ⟨hok, A, cap, h⟩
theorem Rd.rg0 {w0 : World} {R n cap : Nat} {A : Option Addr} {L : List As} {t : TypeId} : Rd w0 (Ytmdjpeblbnbjmaa.blk R (rgC A n cap) t :: L) ⟨R, 0, none⟩ (.slice A n cap) := Rd.blk rfl
theorem Wr.rg0 {w0 : World} {R n cap n' cap' : Nat} {A A' : Option Addr} {L : List As} {t : TypeId} : Wr w0 (Ytmdjpeblbnbjmaa.blk R (rgC A n cap) t :: L) ⟨R, 0, none⟩ (.slice A' n' cap') (Ytmdjpeblbnbjmaa.blk R (rgC A' n' cap') t :: L) := Wr.blk (by simp [rgC])
theorem elemRow : ElemOk Try.prog 83 87 1 8 := ElemOk.of Try.underlying83 (z := .agg #[.pointer none]) (by kernel_rfl) rfl (by decide)
theorem sizeRows : (Try.prog.info? 83).map (·.size) = some 1 := by kernel_rfl
theorem build_rg (w : World) : (Instr.build 85 #[]).run Try.prog w = .ok (.agg (rgC none 0 0)) w := by kernel_rfl
theorem build_row (X : Nat) (w : World) : (Instr.build 87 #[(0, .pointer (some ⟨X, 0, none⟩))]).run Try.prog w = .ok (.agg #[.pointer (some ⟨X, 0, none⟩)]) w := by kernel_rfl
theorem rg_new {w0 w : World} {L : List As} (hs : St w0 L w) : Calls Try.prog 10 #[] w fun e w' => ∃ R, e = .returned (.pointer (some ⟨R, 0, none⟩)) ∧ St w0 (RgB R [] :: L) w' := by
  go_enter Try.func10, Try.ntmps10
  go_wp2_with (first
    | (refine wpl_buildS (vs := []) build_rg rfl ?_)
    | (refine wpl_box_v (v := .agg (rgC none 0 0)) rfl hs ?_; clear hs; intro R w hs))
  go_ret
  have h3 := ((hs.slsNil).own_nil 87 1)
  have h4 : St w0 (Ytmdjpeblbnbjmaa.blk R (rgC none 0 0) 85 :: own none 0 0 87 1 [] :: Sls [] :: L) w := h3.ent (by (repeat first | exact Ent.refl _ | refine Ent.step (by first | exact Ent.refl _ | exact Ent.skip (Ent.refl _) | exact Ent.skip (Ent.skip (Ent.refl _)) | exact Ent.skip (Ent.skip (Ent.skip (Ent.refl _))) | exact Ent.skip (Ent.skip (Ent.skip (Ent.skip (Ent.refl _)))) | exact Ent.skip (Ent.skip (Ent.skip (Ent.skip (Ent.skip (Ent.refl _))))) | exact Ent.skip (Ent.skip (Ent.skip (Ent.skip (Ent.skip (Ent.skip (Ent.refl _)))))) | exact Ent.skip (Ent.skip (Ent.skip (Ent.skip (Ent.skip (Ent.skip (Ent.skip (Ent.refl _))))))) | exact Ent.skip (Ent.skip (Ent.skip (Ent.skip (Ent.skip (Ent.skip (Ent.skip (Ent.skip (Ent.refl _)))))))) | exact Ent.skip (Ent.skip (Ent.skip (Ent.skip (Ent.skip (Ent.skip (Ent.skip (Ent.skip (Ent.skip (Ent.refl _)))))))))) ?_))
  exact ⟨R, rfl, St.rgshut (by decide) rfl rfl h4⟩
theorem rg_len {w0 w : World} {L : List As} {R : Nat} {l : List Cmp} (hs : St w0 (RgB R l :: L) w) {n : Nat} (hn : Hid (l.length = n)) :
    Calls Try.prog 13 #[.pointer (some ⟨R, 0, none⟩)] w fun e w' => e = .returned (.int .i64 (n : Nat)) ∧ w = w' := by
  obtain ⟨hle, A, cap, hs⟩ := hs.rgopen
  rw [hn.out] at hs
  have hc := Rd.rg0 _ hs
  clear hle
  go_enter Try.func13, Try.ntmps13
  go_wp2
  go_ret
  exact ⟨rfl, rfl⟩
theorem rg_slot_no {w0 w : World} {L : List As} {R : Nat} {l : List Cmp} (hs : St w0 (RgB R l :: L) w) {c : Int} (hc : c < 0 ∨ (l.length : Int) ≤ c) :
    Calls Try.prog 12 #[.pointer (some ⟨R, 0, none⟩), .int .i64 c] w fun e w' => e = .returned (.tuple #[.pointer none, .int .i64 11]) ∧ w = w' := by
  obtain ⟨hle, A, cap, hs⟩ := hs.rgopen
  have hr := Rd.rg0 _ hs
  generalize l.length = n at *
  clear hle
  rcases hc with hc | hc
  · go_enter Try.func12, Try.ntmps12
    go_wp2
    go_ret2
    exact ⟨rfl, rfl⟩
  · have h0 : ¬ c < 0 := by omega
    go_enter Try.func12, Try.ntmps12
    go_wp2
    go_ret2
    exact ⟨rfl, rfl⟩
theorem rg_slot {w0 w : World} {L : List As} {R : Nat} {l : List Cmp} (hs : St w0 (RgB R l :: L) w) {c : Nat} {x : Cmp} (hc : l[c]? = some x) {X : Nat} (hX : Hid (x.1 = X)) :
    Calls Try.prog 12 #[.pointer (some ⟨R, 0, none⟩), .int .i64 (c : Nat)] w fun e w' => e = .returned (.tuple #[.pointer (some ⟨X, 0, none⟩), .int .i64 0]) ∧ w = w' := by
  obtain ⟨hle, A, cap, hs⟩ := hs.rgopen
  have hlt := (List.getElem?_eq_some_iff.1 hc).1
  have hg := rgP_get hc
  rw [hX.out] at hg
  have hr := Rd.rg0 _ hs
  obtain ⟨gA, rfl⟩ := hs.rot.own_at (by omega)
  have hp := Rd.own (w0 := w0) (g := gA) (n := l.length) (cap := cap) (e := 87) (size := 1) (L := blk R (rgC (some ⟨gA, 0, none⟩) l.length cap) 85 :: Sls l :: L) hg _ hs.rot
  clear hg hc
  generalize l.length = n at *
  go_enter Try.func12, Try.ntmps12
  go_wp2
  go_ret2
  exact ⟨rfl, rfl⟩
end Go.Proofs.Ytmdjpeblbnbjmaa
