/-
  The contracts of values side by side (dense): New, Len, Get.
-/
import Derived.Test.YtmdjpeblbnbjmaaDnLaw
set_option maxRecDepth 100000
namespace Go.Proofs.Ytmdjpeblbnbjmaa
open Go Go.RowKit
attribute [local irreducible] wpList Calls Code.wp okI okN pS memS getG

theorem mapII : MpT Try.prog 125 3 3 := ⟨Try.underlying125, Try.underlying3, Try.underlying3, fun w => by kernel_rfl⟩
abbrev dnC (A : Option Addr) (n cap M : Nat) : Array Value := #[.slice A n cap, .map (some M)]
abbrev mpI (M : Nat) (f : Int → Option Int) (m : Nat) : As := mpA Try.prog 3 3 M f m
def DnB (D : Nat) (S : List Nat) (g : Nat → V3) : As := fun h => ∃ l f A cap M, DnOk S g l f ∧ star (blk D (dnC A l.length cap M) 132) (star (own A l.length cap 167 4 (cs4 l)) (mpI M f l.length)) h
theorem St.dnopen {w0 w : World} {D : Nat} {S : List Nat} {g : Nat → V3} {L : List As} (hs : St w0 (DnB D S g :: L) w) :
    ∃ l f A cap M, DnOk S g l f ∧ St w0 (Ytmdjpeblbnbjmaa.blk D (dnC A l.length cap M) 132 :: own A l.length cap 167 4 (cs4 l) :: mpI M f l.length :: L) w := by
  obtain ⟨hb, h, r, hd, hu, a, b, hab, rfl, ⟨l, f, A, cap, M, hok, ht⟩, hl⟩ := hs
  have h1 : St w0 (star (Ytmdjpeblbnbjmaa.blk D (dnC A l.length cap M) 132) (star (own A l.length cap 167 4 (cs4 l)) (mpI M f l.length)) :: L) w := ⟨hb, _, r, hd, hu, a, b, hab, rfl, ht, hl⟩
  exact ⟨l, f, A, cap, M, hok, (h1.ent (Ent.open2 fun _ h => h)).ent (Ent.cons _ (Ent.open2 fun _ h => h))⟩
theorem St.dnshut {w0 w : World} {D M : Nat} {S : List Nat} {g : Nat → V3} {l : List Row} {f : Int → Option Int} {L : List As} {A : Option Addr} {cap : Nat} (hok : DnOk S g l f) (hs : St w0 (Ytmdjpeblbnbjmaa.blk D (dnC A l.length cap M) 132 :: own A l.length cap 167 4 (cs4 l) :: mpI M f l.length :: L) w) : St w0 (DnB D S g :: L) w :=
  ((hs.ent (Ent.cons _ (Ent.shut2 fun _ h => h))).ent (Ent.shut2 fun _ h => h)).conv fun _ h => ⟨l, f, A, cap, M, hok, h⟩
theorem Rd.dn0 {w0 : World} {D n cap M : Nat} {A : Option Addr} {L : List As} {t : TypeId} : Rd w0 (Ytmdjpeblbnbjmaa.blk D (dnC A n cap M) t :: L) ⟨D, 0, none⟩ (.slice A n cap) := Rd.blk rfl
theorem Rd.dn1 {w0 : World} {D n cap M : Nat} {A : Option Addr} {L : List As} {t : TypeId} : Rd w0 (Ytmdjpeblbnbjmaa.blk D (dnC A n cap M) t :: L) ⟨D, 1, none⟩ (.map (some M)) := Rd.blk rfl
/-- A row, read. -/
theorem Rd.row4 {w0 : World} {g n cap i : Nat} {vs : List Row} {v : Row} {t : TypeId} {L : List As} (h : vs[i]? = some v) : ∀ j u, (c4 v)[j]? = some u → Rd w0 (Ytmdjpeblbnbjmaa.own (some ⟨g, 0, none⟩) n cap t 4 (cs4 vs) :: L) ⟨g, i * 4 + j, none⟩ u :=
  fun j u hu => Rd.own (cs4_get h j u hu)
/-- A row's value, read. -/
theorem Rd.row4v {w0 : World} {g n cap i : Nat} {vs : List Row} {v : Row} {t : TypeId} {L : List As} (h : vs[i]? = some v) : ∀ j u, (c3 v.2)[j]? = some u → Rd w0 (Ytmdjpeblbnbjmaa.own (some ⟨g, 0, none⟩) n cap t 4 (cs4 vs) :: L) ⟨g, i * 4 + 1 + j, none⟩ u :=
  fun j u hu => by
    have := Rd.row4 (w0 := w0) (g := g) (n := n) (cap := cap) (t := t) (L := L) h (j + 1) u (by simpa [c4] using hu)
    rwa [show i * 4 + (j + 1) = i * 4 + 1 + j by omega] at this
theorem dn_new {w : World} : Calls Try.prog 47 #[] w fun e w' => ∃ D, e = .returned (.pointer (some ⟨D, 0, none⟩)) ∧ St w [DnB D [] (fun _ => V3.z)] w' := by
  have hs := St.start w
  go_enter Try.func47, Try.ntmps47
  go_wp2_with (first
    | (refine wpl_makeMap (k := 3) (e := 3) hs ?_; clear hs; intro M w hs)
    | (refine wpl_box_v (v := .agg (dnC none 0 0 M)) rfl hs ?_; clear hs; intro D w hs))
  go_ret
  refine ⟨D, rfl, ?_⟩
  have h2 := (hs.ent (Ent.refl _)).own_nil 167 4
  exact (h2.ent (Ent.swap _ _ _)).dnshut DnOk.new
theorem dn_len {w0 w : World} {L : List As} {D : Nat} {S : List Nat} {g : Nat → V3} (hs : St w0 (DnB D S g :: L) w) :
    Calls Try.prog 87 #[.pointer (some ⟨D, 0, none⟩)] w fun e w' => e = .returned (.int .i64 (S.length : Nat)) ∧ Grew w w' := by
  obtain ⟨l, f, A, cap, M, hok, hs⟩ := hs.dnopen
  have hc := Rd.dn0 w hs
  have hl := Lib.hid hok.len
  go_enter Try.func87, Try.ntmps87
  go_wp2
  go_ret
  exact ⟨by rw [← hl.out]; rfl, Grew.refl _⟩
theorem dn_get {w0 w : World} {L : List As} {D : Nat} {S : List Nat} {g : Nat → V3} (hs : St w0 (DnB D S g :: L) w) (i : Int) (hi : (Lit.int .i64 i).wf = true) :
    Calls Try.prog 86 #[.pointer (some ⟨D, 0, none⟩), .int .i64 i] w fun e w' => e = .returned (.tuple #[val3 (getG S g i), .bool (memS S i)]) ∧ Grew w w' := by
  obtain ⟨l, f, A, cap, M, hok, hs⟩ := hs.dnopen
  have hr0 := Rd.dn0 (w0 := w0) (D := D) (n := l.length) (cap := cap) (A := A) (M := M) (t := 132) (L := own A l.length cap 167 4 (cs4 l) :: mpI M f l.length :: L)
  have hr1 := Rd.dn1 (w0 := w0) (D := D) (n := l.length) (cap := cap) (A := A) (M := M) (t := 132) (L := own A l.length cap 167 4 (cs4 l) :: mpI M f l.length :: L)
  have hsM := hs.ent (Ent.skip (Ent.skip (Ent.refl _)))
  cases hm : memS S i with
  | false =>
    have HR := Lib.hid (getG_out (g := g) hm)
    have HF : f i = none := by
      have := hok.isSome i
      rw [hm] at this
      cases hf : f i with
      | none => rfl
      | some k => rw [hf] at this; cases this
    have HFh := Lib.hid HF
    clear hm HF
    go_enter Try.func86, Try.ntmps86
    go_upto_region 1 with (fail)
    have hw := (St.start w).alloc (c3 V3.z).toArray 40
    generalize w.heap.size = g4 at hw ⊢
    refine wp_gen hw ?_
    clear hw
    intro w1 hw
    have hc1 := hr1 _ (hs.grew hw.made_grew)
    go_wp2_with (first
      | (refine wpl_lookup_ok mapII rfl rfl hi (hsM.grew hw.made_grew) ?_; rw [HFh.out])
      | (refine wpl_store_agg (v := val3 V3.z) rfl rfl (size3 _) hw WrA.slot3 ?_; clear hw; intro w3 hw))
    refine bodyPost_at (results_cell_tmp Try.results86 rfl (hw.slot_run agg3 (size3 _))) rfl ?_
    exact ⟨by rw [HR.out]; rfl, hw.made_grew⟩
  | true =>
    obtain ⟨j, rfl, hj⟩ := memS_in hm
    obtain ⟨p, hf, hpl, hrow⟩ := hok.find hj
    have HR := Lib.hid (getG_in (g := g) hj)
    generalize g j = v at HR hrow
    have HFh := Lib.hid hf
    obtain ⟨gA, rfl⟩ := (hs.ent (Ent.swap _ _ _)).own_at (by omega)
    have hrv := fun k u hu => (Rd.row4v (w0 := w0) (g := gA) (n := l.length) (cap := cap) (t := 167) (L := mpI M f l.length :: L) hrow k u hu).tail (p := blk D (dnC (some ⟨gA, 0, none⟩) l.length cap M) 132)
    clear hm hf hrow
    go_enter Try.func86, Try.ntmps86
    go_upto_region 1 with (fail)
    have hw := (St.start w).alloc (c3 V3.z).toArray 40
    generalize w.heap.size = g4 at hw ⊢
    refine wp_gen hw ?_
    clear hw
    intro w1 hw
    have hc1 := hr1 _ (hs.grew hw.made_grew)
    have hc0 := hr0 _ (hs.grew hw.made_grew)
    go_wp2_with (first
      | (refine wpl_lookup_ok mapII rfl rfl hi (hsM.grew hw.made_grew) ?_; rw [HFh.out])
      | (refine wpl_load_agg (cs := c3 v) (b := gA) (o := p * 4 + 1) rfl agg3 (size3 v) (hs.grew hw.made_grew) hrv ?_)
      | (refine wpl_store_agg (v := val3 v) rfl rfl (size3 _) hw WrA.slot3 ?_; clear hw; intro w3 hw))
    refine bodyPost_at (results_cell_tmp Try.results86 rfl (hw.slot_run agg3 (size3 _))) rfl ?_
    exact ⟨by rw [HR.out]; rfl, hw.made_grew⟩
end Go.Proofs.Ytmdjpeblbnbjmaa
