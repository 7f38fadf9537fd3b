/-
  XJA: joined of XSl XOps XWd XQuiet XRegion XRegA XFrame XFlat XOnly XOps2 XOps3 XArgs.
-/
import Derived.WalkKit
import Derived.WalkSpells
import Derived.WalkLawsBesides
import Derived.Maps.AppendAt
import Derived.Deep.Draws
import Derived.Laws.MathBits
import Derived.Laws.BitsAllLaws
import Derived.Lib.TrailingZeros
import Derived.BigQuiet
import Derived.ProofKit
import Derived.OpenShut
import Derived.Deep.DeepHandedRow
import Derived.Lib.LaidTab
import Derived.Carry
import Derived.Lib.AppendZerosOnto
import Derived.Deep.Slices
import Derived.Deep.Strs
/-
  SL: a small separation logic over the model's heap: lists of assertions on blocks, a base world that is never turned, and what stores, new blocks and draws do to them. No program stands here.
-/
namespace Go.Proofs.YtcnbmfaicbkhcaaGreatDoor
open Go Go.RowKit

/-- A heaplet: some blocks. -/
def Hl := Nat → Option Obj
def As := Hl → Prop
def Hl.dis (a b : Hl) : Prop := ∀ k, a k = none ∨ b k = none
def Hl.un (a b : Hl) : Hl := fun k => (a k).or (b k)

theorem Hl.dis.symm {a b : Hl} (h : Hl.dis a b) : Hl.dis b a := fun k => (h k).symm
theorem Hl.un_comm {a b : Hl} (h : Hl.dis a b) : Hl.un a b = Hl.un b a := by
  funext k
  rcases h k with e | e <;> simp only [Hl.un, e] <;> cases a k <;> cases b k <;> simp_all
theorem Hl.un_assoc (a b c : Hl) : Hl.un (Hl.un a b) c = Hl.un a (Hl.un b c) := by
  funext k
  simp only [Hl.un]
  cases a k <;> simp
theorem Hl.un_some {a b : Hl} {k : Nat} {o : Obj} (h : Hl.un a b k = some o) : a k = some o ∨ b k = some o := by
  simp only [Hl.un] at h
  cases ha : a k <;> simp_all
theorem Hl.dis_un {a b c : Hl} (h : Hl.dis a (Hl.un b c)) : Hl.dis a b ∧ Hl.dis a c := by
  constructor <;> intro k <;> rcases h k with e | e
  · exact .inl e
  · simp only [Hl.un] at e; cases hb : b k <;> simp_all
  · exact .inl e
  · simp only [Hl.un] at e; cases hb : b k <;> simp_all

def star (p q : As) : As := fun h => ∃ a b, Hl.dis a b ∧ h = Hl.un a b ∧ p a ∧ q b
def emp : As := fun h => ∀ k, h k = none
/-- All of some assertions, each of blocks of its own. -/
def big : List As → As
  | [] => emp
  | p :: l => star p (big l)
/-- An assertion that bears a plain fact. -/
def pur (p : Prop) : As := fun h => p ∧ emp h
def pts (g : Nat) (o : Obj) : As := fun h => h = fun k => if k = g then some o else none
/-- A block that is known whole. -/
def blk (g : Nat) (cs : Array Value) (t : TypeId) : As := pts g (.cells cs t (0, 0))

theorem star_comm {p q : As} {h : Hl} : star p q h → star q p h := fun ⟨a, b, hd, e, hp, hq⟩ => ⟨b, a, hd.symm, by rw [e, Hl.un_comm hd], hq, hp⟩
theorem star_left {p q r : As} {h : Hl} : star p (star q r) h → star q (star p r) h := by
  rintro ⟨a, b, hd, e, hp, c, d, hd', e', hq, hr⟩
  subst e'
  obtain ⟨h1, h2⟩ := Hl.dis_un hd
  refine ⟨c, Hl.un a d, ?_, ?_, hq, a, d, h2, rfl, hp, hr⟩
  · intro k
    rcases hd' k with x | x
    · exact .inl x
    · rcases h1 k with y | y
      · right; simp [Hl.un, x, y]
      · exact .inl y
  · rw [e, ← Hl.un_assoc, Hl.un_comm h1, Hl.un_assoc]
theorem star_assoc {p q r : As} {h : Hl} (hh : star (star p q) r h) : star p (star q r) h := by
  obtain ⟨a, b, hd, e, ⟨c, d, hd', e', hp, hq⟩, hr⟩ := hh
  subst e'
  obtain ⟨h1, h2⟩ := Hl.dis_un hd.symm
  refine ⟨c, Hl.un d b, ?_, by rw [e, Hl.un_assoc], hp, d, b, h2.symm, rfl, hq, hr⟩
  intro k
  rcases hd' k with x | x
  · exact .inl x
  · rcases h1 k with y | y
    · right; simp [Hl.un, x, y]
    · exact .inl y
theorem star_assoc' {p q r : As} {h : Hl} (hh : star p (star q r) h) : star (star p q) r h := by
  obtain ⟨a, b, hd, e, hp, c, d, hd', e', hq, hr⟩ := hh
  subst e'
  obtain ⟨h1, h2⟩ := Hl.dis_un hd
  refine ⟨Hl.un a c, d, ?_, by rw [e, Hl.un_assoc], ⟨a, c, h1, rfl, hp, hq⟩, hr⟩
  intro k
  rcases hd' k with x | x
  · rcases h2 k with y | y
    · left; simp [Hl.un, x, y]
    · exact .inr y
  · exact .inr x
theorem star_mono {p q p' q' : As} (h1 : ∀ h, p h → p' h) (h2 : ∀ h, q h → q' h) {h : Hl} : star p q h → star p' q' h := fun ⟨a, b, hd, e, hp, hq⟩ => ⟨a, b, hd, e, h1 _ hp, h2 _ hq⟩
theorem emp_star {p : As} {h : Hl} (hh : p h) : star emp p h := ⟨fun _ => none, h, fun _ => .inl rfl, by funext k; simp [Hl.un], fun _ => rfl, hh⟩
theorem star_emp {p : As} {h : Hl} (hh : star emp p h) : p h := by
  obtain ⟨a, b, _, e, ha, hp⟩ := hh
  have : h = b := by rw [e]; funext k; simp [Hl.un, ha k]
  rw [this]; exact hp
theorem pur_star {x : Prop} {p : As} {h : Hl} (hx : x) (hh : p h) : star (pur x) p h := star_mono (fun _ he => ⟨hx, he⟩) (fun _ hp => hp) (emp_star hh)
theorem star_pur {x : Prop} {p : As} {h : Hl} (hh : star (pur x) p h) : x ∧ p h := by
  obtain ⟨a, b, hd, e, ⟨hx, ha⟩, hp⟩ := hh
  exact ⟨hx, star_emp ⟨a, b, hd, e, ha, hp⟩⟩

/-- One list of assertions gives another. -/
def Ent (L M : List As) : Prop := ∀ h, big L h → big M h
theorem Ent.refl (L : List As) : Ent L L := fun _ h => h
theorem Ent.trans {L M N : List As} (h : Ent L M) (k : Ent M N) : Ent L N := fun x hx => k x (h x hx)
theorem Ent.cons {L M : List As} (p : As) (h : Ent L M) : Ent (p :: L) (p :: M) := fun _ hx => star_mono (fun _ y => y) h hx
theorem Ent.swap (p q : As) (L : List As) : Ent (p :: q :: L) (q :: p :: L) := fun _ hx => star_left hx
theorem Ent.head {p q : As} {L : List As} (h : ∀ x, p x → q x) : Ent (p :: L) (q :: L) := fun _ hx => star_mono h (fun _ y => y) hx
theorem Ent.skip {p q : As} {L M : List As} (h : Ent L (p :: M)) : Ent (q :: L) (p :: q :: M) := (Ent.cons q h).trans (Ent.swap q p M)
theorem Ent.open2 {p q r : As} {L : List As} (h : ∀ x, p x → star q r x) : Ent (p :: L) (q :: r :: L) := fun _ hx => star_assoc (star_mono h (fun _ y => y) hx)
theorem Ent.shut2 {p q r : As} {L : List As} (h : ∀ x, star q r x → p x) : Ent (q :: r :: L) (p :: L) := fun _ hx => star_mono h (fun _ y => y) (star_assoc' hx)
/-- Pick one after the other: 'L' is some order of 'M'. -/
theorem Ent.step {p : As} {L L' M : List As} (h : Ent L (p :: L')) (k : Ent L' M) : Ent L (p :: M) := h.trans (Ent.cons p k)

/-- THE STATE: below the base nothing has turned; the assertions hold, of blocks from the base on (what else is there is let go). -/
structure St (w0 : World) (L : List As) (w : World) : Prop where
  below : Below w0.heap.size w0 w
  sat : ∃ (h r : Hl), Hl.dis h r ∧ (∀ k, Hl.un h r k = if k < w0.heap.size then none else w.heap[k]?) ∧ big L h

theorem St.start (w0 : World) : St w0 [] w0 :=
  ⟨Below.refl _ _, fun _ => none, fun _ => none, fun _ => .inl rfl, fun k => by
    simp only [Hl.un]
    split
    · rfl
    · rw [Array.getElem?_eq_none (by omega)]; rfl, fun _ => rfl⟩
theorem St.ent {w0 w : World} {L M : List As} (hs : St w0 L w) (h : Ent L M) : St w0 M w :=
  ⟨hs.below, let ⟨x, r, hd, hx, hb⟩ := hs.sat; ⟨x, r, hd, hx, h x hb⟩⟩
theorem St.drew {w0 w : World} {L : List As} (hs : St w0 L w) : St w0 L w.drew := ⟨hs.below.drew, hs.sat⟩
/-- What is let go. -/
theorem St.drop {w0 w : World} {p : As} {L : List As} (hs : St w0 (p :: L) w) : St w0 L w := by
  obtain ⟨x, r, hd, hx, a, b, hab, e, hp, hb⟩ := hs.sat
  subst e
  obtain ⟨h1, h2⟩ := Hl.dis_un hd.symm
  refine ⟨hs.below, b, Hl.un a r, ?_, ?_, hb⟩
  · intro k
    rcases hab k with y | y
    · rcases h2 k with z | z
      · right; simp [Hl.un, y, z]
      · exact .inl z
    · exact .inl y
  · intro k
    rw [← hx k, ← Hl.un_assoc, Hl.un_comm hab]
/-- From the state's assertions to the heap. -/
theorem St.heap {w0 w : World} {p : As} {L : List As} (hs : St w0 (p :: L) w) : ∃ a : Hl, p a ∧ ∀ k o, a k = some o → w0.heap.size ≤ k ∧ w.heap[k]? = some o := by
  obtain ⟨x, r, hd, hx, a, b, hab, e, hp, hb⟩ := hs.sat
  refine ⟨a, hp, fun k o ho => ?_⟩
  have h := hx k
  subst e
  simp only [Hl.un, ho] at h
  simp at h
  exact ⟨h.1, h.2.symm⟩
theorem St.fact {w0 w : World} {p : As} {L : List As} {x : Prop} (hs : St w0 (p :: L) w) (h : ∀ a, p a → x) : x := let ⟨a, hp, _⟩ := hs.heap; h a hp
theorem St.pure {w0 w : World} {x : Prop} {L : List As} (hs : St w0 (pur x :: L) w) : x ∧ St w0 L w := ⟨hs.fact fun _ h => h.1, hs.ent fun _ h => (star_pur h).2⟩
theorem St.put {w0 w : World} {x : Prop} {L : List As} (hs : St w0 L w) (hx : x) : St w0 (pur x :: L) w := hs.ent fun _ h => pur_star hx h
theorem St.blk {w0 w : World} {g : Nat} {cs : Array Value} {t : TypeId} {L : List As} (hs : St w0 (blk g cs t :: L) w) : w0.heap.size ≤ g ∧ w.heap[g]? = some (.cells cs t (0, 0)) := by
  obtain ⟨a, hp, h⟩ := hs.heap
  exact h g _ (by rw [show a = _ from hp]; simp)

/-- A world whose blocks are the old one's, but for those of the first assertion, and new ones. -/
theorem St.turn {w0 w w' : World} {p q : As} {L : List As} (hs : St w0 (p :: L) w)
    (h : ∀ a : Hl, p a → (∀ k o, a k = some o → w0.heap.size ≤ k ∧ w.heap[k]? = some o) →
      ∃ b : Hl, q b ∧ w'.os = w.os ∧ w'.tape = w.tape ∧ w'.output = w.output ∧ w.heap.size ≤ w'.heap.size ∧
        (∀ k, a k = none → k < w.heap.size → b k = none ∧ w'.heap[k]? = w.heap[k]?) ∧ (∀ k o, b k = some o → w0.heap.size ≤ k ∧ w'.heap[k]? = some o)) : St w0 (q :: L) w' := by
  obtain ⟨x, r, hd, hx, a, c, hac, e, hp, hc⟩ := hs.sat
  subst e
  obtain ⟨h1, h2⟩ := Hl.dis_un hd.symm
  have ha : ∀ k o, a k = some o → w0.heap.size ≤ k ∧ w.heap[k]? = some o := by
    intro k o ho
    have hk := hx k
    simp only [Hl.un, ho] at hk
    simp at hk
    exact ⟨hk.1, hk.2.symm⟩
  have hc' : ∀ k o, c k = some o → w0.heap.size ≤ k ∧ w.heap[k]? = some o := by
    intro k o ho
    have hk := hx k
    have hn : a k = none := (hac k).resolve_right (by rw [ho]; simp)
    simp only [Hl.un, ho, hn] at hk
    simp at hk
    exact ⟨hk.1, hk.2.symm⟩
  obtain ⟨b, hq, ho, ht, hu, hsz, hold, hnew⟩ := h a hp ha
  have hlow : ∀ k, k < w0.heap.size → a k = none := fun k hk => by
    cases hak : a k with
    | none => rfl
    | some o => exact absurd (ha k o hak).1 (by omega)
  have lt_of : ∀ k o, w.heap[k]? = some o → k < w.heap.size := fun k o hk => (Array.getElem?_eq_some_iff.1 hk).1
  have hbc : Hl.dis b c := by
    intro k
    cases hck : c k with
    | none => exact .inr rfl
    | some o =>
      have hn : a k = none := (hac k).resolve_right (by rw [hck]; simp)
      exact .inl (hold k hn (lt_of _ _ (hc' k o hck).2)).1
  refine ⟨hs.below.trans ⟨ho, ht, hu, hsz, fun k hk => (hold k (hlow k hk) (Nat.lt_of_lt_of_le hk hs.below.size)).2⟩, Hl.un b c, fun k => if k < w0.heap.size then none else if (Hl.un b c k).isSome then none else w'.heap[k]?, ?_, ?_, b, c, hbc, rfl, hq, hc⟩
  · intro k
    cases hk : Hl.un b c k with
    | none => exact .inl rfl
    | some o => right; show (if k < w0.heap.size then none else if (Hl.un b c k).isSome then none else w'.heap[k]?) = none; simp [hk]
  · intro k
    have key : ∀ o, Hl.un b c k = some o → ¬ k < w0.heap.size ∧ w'.heap[k]? = some o := by
      intro o hk
      rcases Hl.un_some hk with e | e
      · have := hnew k o e; exact ⟨by omega, this.2⟩
      · have h3 := hc' k o e
        have hn : a k = none := (hac k).resolve_right (by rw [e]; simp)
        exact ⟨by omega, by rw [(hold k hn (lt_of _ _ h3.2)).2, h3.2]⟩
    show (Hl.un b c k).or (if k < w0.heap.size then none else if (Hl.un b c k).isSome then none else w'.heap[k]?) = _
    cases hk : Hl.un b c k with
    | none => simp
    | some o => have := key o hk; simp [this.1, this.2]
/-- Nothing but new blocks. -/
theorem St.more {w0 w w' : World} {q : As} {L : List As} (hs : St w0 L w) (hb : Below w.heap.size w w') (b : Hl) (hq : q b) (hn : ∀ k o, b k = some o → w.heap.size ≤ k ∧ w'.heap[k]? = some o) : St w0 (q :: L) w' := by
  have h1 : St w0 (emp :: L) w := hs.ent fun _ h => emp_star h
  refine h1.turn fun a ha _ => ⟨b, hq, hb.os, hb.tape, hb.output, hb.size, fun k _ hk => ⟨?_, hb.block k hk⟩, fun k o hk => ⟨Nat.le_trans hs.below.size (hn k o hk).1, (hn k o hk).2⟩⟩
  cases hbk : b k with
  | none => rfl
  | some o => exact absurd (hn k o hbk).1 (by omega)
theorem St.alloc {w0 w : World} {L : List As} (hs : St w0 L w) (cs : Array Value) (t : TypeId) : St w0 (YtcnbmfaicbkhcaaGreatDoor.blk w.heap.size cs t :: L) (w.alloc (.cells cs t)) :=
  hs.more ((Below.refl _ _).alloc (Nat.le_refl _) _) _ rfl fun k o hk => by
    split at hk
    · rename_i e; subst e; injection hk with hk; subst hk; exact ⟨Nat.le_refl _, heap_alloc_new w _⟩
    · cases hk
theorem St.allocObj {w0 w : World} {L : List As} (hs : St w0 L w) (o : Obj) : St w0 (pts w.heap.size o :: L) (w.alloc o) :=
  hs.more ((Below.refl _ _).alloc (Nat.le_refl _) _) _ rfl fun k o' hk => by
    split at hk
    · rename_i e; subst e; injection hk with hk; subst hk; exact ⟨Nat.le_refl _, heap_alloc_new w _⟩
    · cases hk
/-- A store into a known block. -/
theorem St.set {w0 w : World} {g : Nat} {cs : Array Value} {t : TypeId} {L : List As} (hs : St w0 (YtcnbmfaicbkhcaaGreatDoor.blk g cs t :: L) w) (i : Nat) (u : Value) : St w0 (YtcnbmfaicbkhcaaGreatDoor.blk g (cs.setIfInBounds i u) t :: L) (w.setCell ⟨g, i, none⟩ u) := by
  have hb := hs.blk
  refine hs.turn fun a ha _ => ⟨_, rfl, rfl, rfl, rfl, by simp [World.setCell], fun k hk hlt => ?_, fun k o hk => ?_⟩
  · have hne : k ≠ g := by
      rintro rfl
      rw [show a = _ from ha] at hk
      simp at hk
    exact ⟨by simp [hne], Below.heap_setCell w ⟨g, i, none⟩ u k hne⟩
  · split at hk
    · rename_i e
      subst e
      injection hk with hk
      subst hk
      refine ⟨hb.1, ?_⟩
      simp [World.setCell, Array.getElem?_modify, hb.2]
    · cases hk
/-- The first assertion said otherwise. -/
theorem St.conv {w0 w : World} {p q : As} {L : List As} (hs : St w0 (p :: L) w) (h : ∀ x, p x → q x) : St w0 (q :: L) w := hs.ent (Ent.head h)

/-! ### What a cell holds, what a store makes of it -/
/-- By the assertions the cell holds v. -/
def Rd (w0 : World) (L : List As) (a : Addr) (v : Value) : Prop := ∀ w, St w0 L w → w.cell? a = some v
theorem Rd.tail {w0 : World} {p : As} {L : List As} {a : Addr} {v : Value} (h : Rd w0 L a v) : Rd w0 (p :: L) a v := fun _ hs => h _ hs.drop
theorem Rd.blk {w0 : World} {g k : Nat} {cs : Array Value} {t : TypeId} {v : Value} {L : List As} (h : cs[k]? = some v) : Rd w0 (YtcnbmfaicbkhcaaGreatDoor.blk g cs t :: L) ⟨g, k, none⟩ v := fun w hs => by rw [cell_of_row w g k cs t (0, 0) hs.blk.2]; exact h
/-- What the base world holds. -/
theorem Rd.old {w0 : World} {L : List As} {a : Addr} {v : Value} (h : w0.cell? a = some v) : Rd w0 L a v := fun _ hs => by rw [hs.below.cell (World.block_lt_of_cell? _ _ h)]; exact h
theorem Rd.conv {w0 : World} {p q : As} {L : List As} {a : Addr} {v : Value} (h : Rd w0 (q :: L) a v) (hc : ∀ x, p x → q x) : Rd w0 (p :: L) a v := fun _ hs => h _ (hs.conv hc)
theorem Rd.ent {w0 : World} {L M : List As} {a : Addr} {v : Value} (h : Rd w0 M a v) (hc : Ent L M) : Rd w0 L a v := fun _ hs => h _ (hs.ent hc)
theorem St.rot {w0 w : World} {p q : As} {L : List As} (hs : St w0 (p :: q :: L) w) : St w0 (q :: p :: L) w := hs.ent (Ent.swap _ _ _)
theorem Ent.push (p : As) : ∀ (L K : List As), Ent (p :: (L ++ K)) (L ++ p :: K)
  | [], _ => Ent.refl _
  | q :: L, K => (Ent.swap p q (L ++ K)).trans (Ent.cons q (Ent.push p L K))
theorem Ent.pull (p : As) : ∀ (L K : List As), Ent (L ++ p :: K) (p :: (L ++ K))
  | [], _ => Ent.refl _
  | q :: L, K => (Ent.cons q (Ent.pull p L K)).trans (Ent.swap q p (L ++ K))
/-- A store of v at a turns the assertions L into M. -/
def Wr (w0 : World) (L : List As) (a : Addr) (v : Value) (M : List As) : Prop := ∀ K w, St w0 (L ++ K) w → (∃ u, w.cell? a = some u) ∧ w.frozen? a = false ∧ St w0 (M ++ K) (w.setCell a v)
theorem Wr.blk {w0 : World} {g k : Nat} {cs : Array Value} {t : TypeId} {v : Value} {L : List As} (h : k < cs.size) : Wr w0 (YtcnbmfaicbkhcaaGreatDoor.blk g cs t :: L) ⟨g, k, none⟩ v (YtcnbmfaicbkhcaaGreatDoor.blk g (cs.setIfInBounds k v) t :: L) := fun K w hs => by
  have hs' : St _ (YtcnbmfaicbkhcaaGreatDoor.blk g cs t :: (L ++ K)) w := hs
  refine ⟨⟨cs[k], by rw [cell_of_row w g k cs t (0, 0) hs'.blk.2]; exact Array.getElem?_eq_getElem h⟩, ?_, hs'.set k v⟩
  simp [World.frozen?, hs'.blk.2]
theorem Wr.tail {w0 : World} {p : As} {L M : List As} {a : Addr} {v : Value} (h : Wr w0 L a v M) : Wr w0 (p :: L) a v (p :: M) := fun K w hs => by
  obtain ⟨h1, h2, h3⟩ := h (p :: K) w (St.ent hs (Ent.push p L K))
  exact ⟨h1, h2, h3.ent (Ent.pull p M K)⟩
theorem Wr.ent {w0 : World} {a : Addr} {v : Value} {L L' M M' : List As} (h : Wr w0 L' a v M') (h1 : ∀ K, Ent (L ++ K) (L' ++ K)) (h2 : ∀ K, Ent (M' ++ K) (M ++ K)) : Wr w0 L a v M := fun K _ hs => let ⟨x, y, z⟩ := h K _ (hs.ent (h1 K)); ⟨x, y, z.ent (h2 K)⟩
theorem Wr.conv {w0 : World} {a : Addr} {v : Value} {p q p' q' : As} {L : List As} (h : Wr w0 (p' :: L) a v (q' :: L)) (h1 : ∀ x, p x → p' x) (h2 : ∀ x, q' x → q x) : Wr w0 (p :: L) a v (q :: L) := h.ent (fun _ => Ent.head h1) (fun _ => Ent.head h2)
theorem Wr.use {w0 : World} {a : Addr} {v : Value} {L M : List As} {w : World} (h : Wr w0 L a v M) (hs : St w0 L w) : (∃ u, w.cell? a = some u) ∧ w.frozen? a = false ∧ St w0 M (w.setCell a v) := by
  have := h [] w (by simpa using hs)
  simpa using this

/-! ### Slices that the call itself makes -/
/-- The slice '.slice A n cap' is the call's own, its elements' cells are xs. -/
def own (A : Option Addr) (n cap : Nat) (e : TypeId) (size : Nat) (xs : List Value) : As := fun h =>
  xs.length = n * size ∧ ((A = none ∧ n = 0 ∧ cap = 0 ∧ emp h) ∨ ∃ g cur, A = some ⟨g, 0, none⟩ ∧ n ≤ cap ∧ cap ≤ maxLen ∧ cur.size = cap * size ∧ cur.toList.take (n * size) = xs ∧ blk g cur e h)
theorem St.own_nil {w0 w : World} {L : List As} (hs : St w0 L w) (e : TypeId) (size : Nat) : St w0 (own none 0 0 e size [] :: L) w := hs.ent fun _ h => star_mono (fun _ he => ⟨by simp, .inl ⟨rfl, rfl, rfl, he⟩⟩) (fun _ x => x) (emp_star h)
theorem St.own_len {w0 w : World} {A : Option Addr} {n cap : Nat} {e : TypeId} {size : Nat} {xs : List Value} {L : List As} (hs : St w0 (own A n cap e size xs :: L) w) : xs.length = n * size ∧ n ≤ cap ∧ cap ≤ maxLen :=
  hs.fact fun _ h => ⟨h.1, by rcases h.2 with ⟨_, rfl, rfl, _⟩ | ⟨g, cur, _, h1, h2, _⟩; exact ⟨Nat.le_refl _, by simp [maxLen]⟩; exact ⟨h1, h2⟩⟩
theorem St.own_at {w0 w : World} {A : Option Addr} {n cap : Nat} {e : TypeId} {size : Nat} {xs : List Value} {L : List As} (hs : St w0 (own A n cap e size xs :: L) w) (hn : 0 < n) : ∃ g, A = some ⟨g, 0, none⟩ :=
  hs.fact fun _ h => by
    rcases h.2 with ⟨_, h0, _⟩ | ⟨g, cur, hA, _⟩
    · omega
    · exact ⟨g, hA⟩
theorem St.own_row {w0 w : World} {A : Option Addr} {n cap : Nat} {e : TypeId} {size : Nat} {xs : List Value} {L : List As} (hs : St w0 (own A n cap e size xs :: L) w) : w.ownsRow w0.heap.size e size (.slice A n cap) n xs := by
  obtain ⟨a, ⟨hl, h⟩, hh⟩ := hs.heap
  refine ⟨hl, ?_⟩
  rcases h with ⟨rfl, rfl, rfl, _⟩ | ⟨g, cur, rfl, h1, h2, h3, h4, h5⟩
  · exact .inl ⟨rfl, rfl⟩
  · have := hh g (.cells cur e (0, 0)) (by rw [show a = _ from h5]; simp)
    exact .inr ⟨g, cap, cur, rfl, this.1, this.2, h1, h2, h3, h4⟩
theorem Rd.own {w0 : World} {g n cap k : Nat} {e : TypeId} {size : Nat} {xs : List Value} {v : Value} {L : List As} (h : xs[k]? = some v) : Rd w0 (YtcnbmfaicbkhcaaGreatDoor.own (some ⟨g, 0, none⟩) n cap e size xs :: L) ⟨g, k, none⟩ v := fun w hs => by
  have := hs.own_row.cells (g := g) rfl k v h
  have hadd : (⟨g, 0, none⟩ : Addr).add k = ⟨g, k, none⟩ := by unfold Addr.add; split <;> simp_all
  rwa [hadd] at this
theorem Wr.own {w0 : World} {g n cap k : Nat} {e : TypeId} {size : Nat} {xs : List Value} {v : Value} {L : List As} (h : k < xs.length) : Wr w0 (YtcnbmfaicbkhcaaGreatDoor.own (some ⟨g, 0, none⟩) n cap e size xs :: L) ⟨g, k, none⟩ v (YtcnbmfaicbkhcaaGreatDoor.own (some ⟨g, 0, none⟩) n cap e size (xs.set k v) :: L) := fun K w hs => by
  have hs' : St _ (YtcnbmfaicbkhcaaGreatDoor.own (some ⟨g, 0, none⟩) n cap e size xs :: (L ++ K)) w := hs
  obtain ⟨a, ⟨hl, hx⟩, hh⟩ := hs'.heap
  rcases hx with ⟨h0, _⟩ | ⟨g', cur, hg, h1, h2, h3, h4, h5⟩
  · cases h0
  injection hg with hg
  injection hg with hg
  subst hg
  have hk : k < n * size := by rw [← hl]; exact h
  have hcur : k < cur.size := by rw [h3]; exact Nat.lt_of_lt_of_le hk (Nat.mul_le_mul_right _ h1)
  have hc := hh g (.cells cur e (0, 0)) (by rw [show a = _ from h5]; simp)
  refine ⟨⟨cur[k], by rw [cell_of_row w g k cur e (0, 0) hc.2]; exact Array.getElem?_eq_getElem hcur⟩, by simp [World.frozen?, hc.2], ?_⟩
  refine hs'.turn fun b hb _ => ⟨fun j => if j = g then some (.cells (cur.setIfInBounds k v) e (0, 0)) else none, ?_, rfl, rfl, rfl, by simp [World.setCell], fun j hj hlt => ?_, fun j o hj => ?_⟩
  · refine ⟨by simpa using hl, .inr ⟨g, cur.setIfInBounds k v, rfl, h1, h2, by simpa using h3, ?_, rfl⟩⟩
    rw [Array.toList_setIfInBounds, List.take_set, h4]
  · rcases hb.2 with ⟨h0, _⟩ | ⟨g', cur', hg', _, _, _, _, h5'⟩
    · cases h0
    injection hg' with hg'
    injection hg' with hg'
    subst hg'
    have hne : j ≠ g := by
      rintro rfl
      rw [show b = _ from h5'] at hj
      simp at hj
    exact ⟨by simp [hne], Below.heap_setCell w ⟨g, k, none⟩ v j hne⟩
  · have hj' : (if j = g then some (Obj.cells (cur.setIfInBounds k v) e) else none) = some o := hj
    clear hj
    split at hj'
    · rename_i e'
      subst e'
      injection hj' with hj'
      subst hj'
      refine ⟨hc.1, ?_⟩
      simp [World.setCell, Array.getElem?_modify, hc.2]
    · cases hj'
/-- Behind an append: the row owned, what has turned. -/
theorem St.own_grown {w0 w w' : World} {A A' : Option Addr} {n cap n' cap' : Nat} {e : TypeId} {size : Nat} {xs xs' : List Value} {L : List As} (hs : St w0 (own A n cap e size xs :: L) w)
    (hr : w'.ownsRow w0.heap.size e size (.slice A' n' cap') n' xs') (hg : w.grownBy w' (Value.slice A n cap).ownBlock)
    (hat : (Value.slice A' n' cap').ownBlock = (Value.slice A n cap).ownBlock ∨ (Value.slice A' n' cap').ownBlock = some w.heap.size) : St w0 (own A' n' cap' e size xs' :: L) w' := by
  refine hs.turn fun a ha hh => ?_
  obtain ⟨hl', hr'⟩ := hr
  have hlow : ∀ g, (Value.slice A n cap).ownBlock = some g → a g ≠ none ∧ w0.heap.size ≤ g := by
    intro g hgg
    rcases ha.2 with ⟨rfl, _⟩ | ⟨g', cur, rfl, _, _, _, _, h5⟩
    · simp [Value.ownBlock] at hgg
    · simp [Value.ownBlock] at hgg
      subst hgg
      rw [show a = _ from h5]
      refine ⟨by simp, ?_⟩
      exact (hh g' (.cells cur e (0, 0)) (by rw [show a = _ from h5]; simp)).1
  have hold : ∀ k, a k = none → k < w.heap.size → w'.heap[k]? = w.heap[k]? := fun k hk hlt => hg.block k hlt (fun e => (hlow k e.symm).1 hk)
  rcases hr' with ⟨hv, hn⟩ | ⟨g, cap0, cur, hv, hb, hc, h1, h2, h3, h4⟩
  · injection hv with hA hn' hc'
    subst hA; subst hc'
    exact ⟨fun _ => none, ⟨hl', .inl ⟨rfl, hn', rfl, fun _ => rfl⟩⟩, hg.os, hg.tape, hg.output, hg.size, fun k hk hlt => ⟨rfl, hold k hk hlt⟩, fun _ _ hk => by cases hk⟩
  · injection hv with hA _ hcap
    subst hA; subst hcap
    refine ⟨fun k => if k = g then some (.cells cur e (0, 0)) else none, ⟨hl', .inr ⟨g, cur, rfl, h1, h2, h3, h4, rfl⟩⟩, hg.os, hg.tape, hg.output, hg.size, fun k hk hlt => ⟨?_, hold k hk hlt⟩, fun k o hk => ?_⟩
    · have : k ≠ g := by
        rintro rfl
        rcases hat with e | e
        · exact (hlow k (by rw [← e]; rfl)).1 hk
        · simp [Value.ownBlock] at e; omega
      simp [this]
    · have hk' : (if k = g then some (Obj.cells cur e) else none) = some o := hk
      clear hk
      split at hk'
      · rename_i e'
        subst e'
        injection hk' with hk'
        subst hk'
        exact ⟨hb, hc⟩
      · cases hk'
/-- A slice that reads as some cells, wherever it lies. -/
def RdS (w0 : World) (L : List As) (A : Option Addr) (xs : List Value) : Prop := ∀ k u, xs[k]? = some u → ∃ ad, A = some ad ∧ ad.spot = none ∧ Rd w0 L ⟨ad.block, ad.off + k, none⟩ u
theorem RdS.tail {w0 : World} {p : As} {L : List As} {A : Option Addr} {xs : List Value} (h : RdS w0 L A xs) : RdS w0 (p :: L) A xs := fun k u hu => let ⟨ad, h1, h2, h3⟩ := h k u hu; ⟨ad, h1, h2, h3.tail⟩
theorem RdS.ent {w0 : World} {L M : List As} {A : Option Addr} {xs : List Value} (h : RdS w0 M A xs) (hc : Ent L M) : RdS w0 L A xs := fun k u hu => let ⟨ad, h1, h2, h3⟩ := h k u hu; ⟨ad, h1, h2, h3.ent hc⟩
theorem RdS.nil {w0 : World} {L : List As} {A : Option Addr} : RdS w0 L A [] := fun k u hu => by simp at hu
theorem RdS.own {w0 w : World} {A : Option Addr} {n cap : Nat} {e : TypeId} {size : Nat} {xs : List Value} {L : List As} (hs : St w0 (YtcnbmfaicbkhcaaGreatDoor.own A n cap e size xs :: L) w) : RdS w0 (YtcnbmfaicbkhcaaGreatDoor.own A n cap e size xs :: L) A xs := fun k u hu => by
  obtain ⟨g, rfl⟩ := hs.own_at (by
    have := hs.own_len.1
    rcases Nat.eq_zero_or_pos n with h0 | h0
    · subst h0; simp at this; subst this; simp at hu
    · exact h0)
  exact ⟨_, rfl, rfl, by simpa using Rd.own hu⟩
theorem RdS.blk {w0 : World} {g : Nat} {cs : Array Value} {t : TypeId} {L : List As} : RdS w0 (YtcnbmfaicbkhcaaGreatDoor.blk g cs t :: L) (some ⟨g, 0, none⟩) cs.toList := fun k u hu => ⟨_, rfl, rfl, by simpa using Rd.blk (by simpa using hu)⟩
/-- .. at one place. -/
theorem RdS.at_ {w0 : World} {L : List As} {A : Option Addr} {xs : List Value} (h : RdS w0 L A xs) {k : Nat} (hk : k < xs.length) : ∃ b o, A = some ⟨b, o, none⟩ ∧ Rd w0 L ⟨b, o + k, none⟩ (xs[k]'hk) := by
  obtain ⟨⟨b, o, s⟩, h1, h2, h3⟩ := h k _ (List.getElem?_eq_getElem hk)
  simp only at h2
  subst h2
  exact ⟨b, o, h1, h3⟩
end Go.Proofs.YtcnbmfaicbkhcaaGreatDoor

/-
  Operations of the walk over the state of XSl: loads, stores, new blocks, slices that are built, made and appended to. No program stands here.
-/
namespace Go.Proofs.YtcnbmfaicbkhcaaGreatDoor
open Go Go.RowKit
section
variable {P : Program} {ops : Array Oper} {Q : Exit → Act → World → Prop} {a : Act} {w w0 : World} {rest : List Oper} {dst : Option Tmp} {ty : TypeId} {pos : String} {after : Array Edge} {L : List As}

/-- A type whose value is one cell. -/
def one1 (P : Program) (t : TypeId) : Bool := match P.underlying t with
  | some (.struct _) | some (.array _ _) | none => false
  | _ => true
theorem one1_agg {t : TypeId} (h : one1 P t = true) (w : World) : (isAgg t).run P w = .ok false w := by
  unfold one1 at h
  cases hu : P.underlying t with
  | none => rw [hu] at h; cases h
  | some d =>
    rw [hu] at h
    unfold isAgg
    rw [Sem.run_bind, run_underlying hu w]
    cases d <;> first | rfl | cases h

theorem wpl_load {t : TypeId} {x : Operand} {ad : Addr} {v : Value} (hx : a.eval x = .pointer (some ad)) (h1 : one1 P t = true) (hs : St w0 L w) (hr : Rd w0 L ad v)
    (next : wpList P ops Q rest (a.put dst v) w) : wpList P ops Q (⟨dst, .load t x, ty, pos, after, none⟩ :: rest) a w :=
  wpList_plain rfl fun K hK => by
    unfold Oper.wp execOp
    simp only [hx, Instr.loadAt, Instr.sureAddr, Sem.run_bind, Sem.run_pure, Result.andThen_ok, loadVar, one1_agg h1 w, Bool.false_eq_true, if_false, run_load, hr w hs]
    exact hK _ _ next

/-- A value of several cells out of a block. -/
theorem wpl_load_agg {t : TypeId} {x : Operand} {b o : Nat} {cs : List Value} (hx : a.eval x = .pointer (some ⟨b, o, none⟩)) (h1 : (match P.underlying t with | some (.struct _) | some (.array _ _) => true | _ => false) = true) (hsz : (P.info? t).map (·.size) = some cs.length) (hs : St w0 L w)
    (hr : ∀ j u, cs[j]? = some u → Rd w0 L ⟨b, o + j, none⟩ u) (next : wpList P ops Q rest (a.put dst (.agg cs.toArray)) w) : wpList P ops Q (⟨dst, .load t x, ty, pos, after, none⟩ :: rest) a w :=
  wpList_plain rfl fun K hK => by
    have hagg : (isAgg t).run P w = .ok true w := by
      cases hu : P.underlying t with
      | none => rw [hu] at h1; cases h1
      | some d =>
        rw [hu] at h1
        unfold isAgg
        rw [Sem.run_bind, run_underlying hu w]
        cases d <;> first | rfl | cases h1
    have hl : (loadCells ⟨b, o, none⟩ cs.length).run P w = .ok cs.toArray w := run_loadCells_list (P := P) w ⟨b, o, none⟩ cs fun j u hu => by
      rw [Addr.add_lit]; exact hr j u hu w hs
    cases hq : P.info? t with
    | none => rw [hq] at hsz; cases hsz
    | some i =>
      have hsz' : i.size = cs.length := by rw [hq] at hsz; simpa using hsz
      unfold Oper.wp execOp
      simp only [hx, Instr.loadAt, Instr.sureAddr, Sem.run_bind, Sem.run_pure, Result.andThen_ok, loadVar, hagg, if_true, sizeOf, typeInfo, run_program, hq, hsz', hl]
      exact hK _ _ next

theorem wpl_store {t : TypeId} {p x : Operand} {ad : Addr} {v : Value} {M : List As} (hp : a.eval p = .pointer (some ad)) (hx : a.eval x = v) (h1 : v.oneCell' = true) (hsz : (P.info? t).map (·.size) = some 1) (hs : St w0 L w) (hw : Wr w0 L ad v M)
    (next : ∀ w', St w0 M w' → wpList P ops Q rest a w') : wpList P ops Q (⟨none, .store t p x, ty, pos, after, none⟩ :: rest) a w :=
  wpList_plain rfl fun K hK => by
    obtain ⟨⟨u, hu⟩, hf, hs'⟩ := hw.use hs
    have hst : (store ad v).run P w = .ok () (w.setCell ad v) := by rw [run_store P w ad v .plain h1]; simp [hu, hf]
    have hc : v.cells = #[v] := by cases v <;> first | rfl | cases h1
    cases hq : P.info? t with
    | none => rw [hq] at hsz; cases hsz
    | some i =>
      have hsz' : i.size = 1 := by rw [hq] at hsz; simpa using hsz
      unfold Oper.wp execOp
      simp [hp, hx, Instr.storeAt, Instr.sureAddr, storeVar, hc, sizeOf, typeInfo, hq, hsz', storeCells, hst, Addr.add_zero']
      exact hK _ _ (next _ hs')

theorem wpl_box {t : TypeId} {x : Operand} (hs : St w0 L w)
    (next : ∀ g w', St w0 (blk g (a.eval x).cells t :: L) w' → wpList P ops Q rest (a.put dst (.pointer (some ⟨g, 0, none⟩))) w') : wpList P ops Q (⟨dst, .box t x, ty, pos, after, none⟩ :: rest) a w :=
  wpList_plain rfl fun K hK => by
    unfold Oper.wp execOp
    simp [Instr.box, newVar, newRow]
    exact hK _ _ (next _ _ (hs.alloc _ _))

theorem wpl_alloc {t : TypeId} {z : Value} (hz : (P.info? t).bind (·.zero) = some z) (hs : St w0 L w)
    (next : ∀ g w', St w0 (blk g z.cells t :: L) w' → wpList P ops Q rest (a.put dst (.pointer (some ⟨g, 0, none⟩))) w') : wpList P ops Q (⟨dst, .alloc t, ty, pos, after, none⟩ :: rest) a w :=
  wpList_plain rfl fun K hK => by
    cases hq : P.info? t with
    | none => rw [hq] at hz; cases hz
    | some i =>
      have hz' : i.zero = some z := by rw [hq] at hz; simpa using hz
      unfold Oper.wp execOp
      simp [Instr.alloc, zeroValue, typeInfo, hq, hz', newVar, newRow]
      exact hK _ _ (next _ _ (hs.alloc _ _))

/-- What an append must know of the slice's type t, the element's type e. -/
def ElemOk (P : Program) (t e : TypeId) (size bytes : Nat) : Prop := P.underlying t = some (.slice e) ∧ ∃ i z, P.info? e = some i ∧ i.zero = some z ∧ i.size = size ∧ i.bytes = bytes ∧ z.cells.size = size ∧ 0 < size
theorem ElemOk.of {t e : TypeId} {z : Value} {size bytes : Nat} (h1 : P.underlying t = some (.slice e)) (h2 : (P.info? e).map (fun i => (i.zero, i.size, i.bytes)) = some (some z, size, bytes)) (h3 : z.cells.size = size) (h4 : 0 < size) : ElemOk P t e size bytes := by
  refine ⟨h1, ?_⟩
  cases hq : P.info? e with
  | none => rw [hq] at h2; cases h2
  | some i =>
    rw [hq] at h2
    simp at h2
    exact ⟨i, z, rfl, h2.1, h2.2.1, h2.2.2, h3, h4⟩

theorem fill_one (l : List Value) : ∀ (k : Nat) (cs : Array Value), k + l.length = cs.size → ((l.zipIdx k).foldl (fun (cs : Array Value) (x : Value × Nat) => cs.setIfInBounds x.2 x.1) cs).toList = cs.toList.take k ++ l := by
  induction l with
  | nil => intro k cs h; simp at h; simp [h, List.take_of_length_le]
  | cons v l ih =>
    intro k cs h
    rw [List.zipIdx_cons, List.foldl_cons, ih (k + 1) _ (by simp at h ⊢; omega)]
    simp only [List.length_cons] at h
    have hk : k < cs.toList.length := by simp; omega
    rw [Array.toList_setIfInBounds, List.take_succ_eq_append_getElem (by simpa using hk), List.take_set_of_le (Nat.le_refl _)]
    simp
theorem run_build1 {t e : TypeId} {size bytes : Nat} (he : ElemOk P t e size bytes) (hb : size ≤ 16777216) (v : Value) (hv : v.cells.size = size) (w : World) :
    (Instr.buildSlice t 1 #[(0, v)]).run P w = .ok (.slice (some ⟨w.heap.size, 0, none⟩) 1 1) (w.alloc (.cells v.cells e)) := by
  obtain ⟨ht, i, z, hi, hz, hsize, hby, hzs, hsz⟩ := he
  have hf : ∀ cs : Array Value, cs.size = size → Instr.fill (fun i => some (i * size, size)) cs [(0, v)] = some v.cells := by
    intro cs hcs
    have h1 : ¬ ((decide (v.cells.size ≠ size) || decide (0 * size + v.cells.size > cs.size)) = true) := by simp; omega
    simp only [Instr.fill]
    rw [if_neg h1]
    congr 1
    have := fill_one v.cells.toList 0 cs (by simp; omega)
    simp only [Nat.zero_mul, Nat.zero_add]
    apply Array.toList_inj.1
    rw [← Array.foldl_toList, Array.toList_zipIdx]
    simpa using this
  have hlt : ¬ (1 * size > 2 ^ 24) := by omega
  have h0 : ¬ (1 * size = 0) := by omega
  simp only [Instr.buildSlice, Sem.run_bind, run_underlying ht w, Result.andThen_ok, sizeOf, typeInfo, run_program, hi, hsize, Sem.run_pure, if_neg hlt, if_neg h0, zeroValue, hz]
  rw [hf _ (by simp)]
  simp [newRow]
theorem wpl_build1 {t e : TypeId} {size bytes : Nat} {x : Operand} {v : Value} (he : ElemOk P t e size bytes) (hb : size ≤ 16777216) (hx : a.eval x = v) (hv : v.cells.size = size) (hs : St w0 L w)
    (next : ∀ g w', St w0 (blk g v.cells e :: L) w' → wpList P ops Q rest (a.put dst (.slice (some ⟨g, 0, none⟩) 1 1)) w') : wpList P ops Q (⟨dst, .buildSlice t 1 #[(0, x)], ty, pos, after, none⟩ :: rest) a w :=
  wpList_plain rfl fun K hK => by
    unfold Oper.wp execOp
    simp only [Sem.run_bind, List.map_toArray, List.map_cons, List.map_nil, hx, run_build1 he hb v hv w, Result.andThen_ok, Sem.run_pure]
    exact hK _ _ (next _ _ (hs.alloc _ _))
theorem fill_ones {size : Nat} (hsz : size = 1) : ∀ (l : List Value) (k : Nat) (cs : Array Value), k + l.length ≤ cs.size → (∀ v ∈ l, v.cells = #[v]) →
    Instr.fill (fun i => some (i * size, size)) cs ((l.zipIdx k).map fun x => (x.2, x.1)) = some (cs.toList.take k ++ l ++ cs.toList.drop (k + l.length)).toArray
  | [], k, cs, _, _ => by simp [Instr.fill]
  | v :: l, k, cs, h, hc => by
    subst hsz
    simp only [List.length_cons] at h
    have hv := hc v (by simp)
    have h1 : ¬ ((decide (v.cells.size ≠ 1) || decide (k * 1 + v.cells.size > cs.size)) = true) := by rw [hv]; simp; omega
    rw [List.zipIdx_cons, List.map_cons, Instr.fill]
    simp only
    rw [if_neg h1, hv]
    have e : (#[v].zipIdx.foldl (fun (cs : Array Value) (x : Value × Nat) => cs.setIfInBounds (k * 1 + x.2) x.1) cs) = cs.setIfInBounds k v := by simp
    rw [e, fill_ones rfl l (k + 1) _ (by simp; omega) fun u hu => hc u (by simp [hu])]
    congr 2
    rw [Array.toList_setIfInBounds, List.take_succ_eq_append_getElem (by simp only [List.length_set, Array.length_toList]; omega), List.take_set_of_le (Nat.le_refl _), List.drop_set_of_lt (by omega)]
    simp [Nat.add_comm, Nat.add_left_comm]
theorem run_buildN {t e : TypeId} {bytes : Nat} (he : ElemOk P t e 1 bytes) (vs : List Value) (hn : vs.length ≤ 16777216) (hn0 : 0 < vs.length) (hv : ∀ v ∈ vs, v.cells = #[v]) (w : World) :
    (Instr.buildSlice t vs.length ((vs.zipIdx 0).map fun x => (x.2, x.1)).toArray).run P w = .ok (.slice (some ⟨w.heap.size, 0, none⟩) vs.length vs.length) (w.alloc (.cells vs.toArray e)) := by
  obtain ⟨ht, i, z, hi, hz, hsize, hby, hzs, hsz⟩ := he
  have hlt : ¬ (vs.length * 1 > 2 ^ 24) := by omega
  have h0 : ¬ (vs.length * 1 = 0) := by omega
  simp only [Instr.buildSlice, Sem.run_bind, run_underlying ht w, Result.andThen_ok, sizeOf, typeInfo, run_program, hi, hsize, Sem.run_pure, if_neg hlt, if_neg h0, zeroValue, hz]
  rw [fill_ones rfl vs 0 _ (by simp) hv]
  simp only [Nat.zero_add, List.take_zero, List.nil_append]
  rw [List.drop_of_length_le (by simp)]
  simp [newRow]
/-- A slice of one-cell elements, written out. -/
theorem wpl_buildN {t e : TypeId} {bytes n : Nat} {parts : List (Nat × Operand)} {vs : List Value} (he : ElemOk P t e 1 bytes) (hp : parts.map (fun x => (x.1, a.eval x.2)) = (vs.zipIdx 0).map fun x => (x.2, x.1)) (hn : n = vs.length) (hb : vs.length ≤ 16777216) (hn0 : 0 < vs.length) (hv : ∀ v ∈ vs, v.cells = #[v]) (hs : St w0 L w)
    (next : ∀ g w', St w0 (blk g vs.toArray e :: L) w' → wpList P ops Q rest (a.put dst (.slice (some ⟨g, 0, none⟩) n n)) w') : wpList P ops Q (⟨dst, .buildSlice t n parts.toArray, ty, pos, after, none⟩ :: rest) a w :=
  wpList_plain rfl fun K hK => by
    subst hn
    unfold Oper.wp execOp
    simp only [Sem.run_bind, List.map_toArray, hp, run_buildN he vs hb hn0 hv w, Result.andThen_ok, Sem.run_pure]
    exact hK _ _ (next _ _ (hs.alloc _ _))

theorem run_append_own_st {t e ty : TypeId} {size bytes : Nat} {L' : List As} (he : ElemOk P t e size bytes) {A B : Option Addr} {n cap m c : Nat} {xs news : List Value} (hs : St w0 L w) (hsel : Ent L (own A n cap e size xs :: L'))
    (hr : RdS w0 L B news) (hl : news.length = m * size) (h1 : ∀ u ∈ news, u.oneCell' = true) (h63 : n + m ≤ maxLen) (hbytes : (n + m) * bytes ≤ 140737488355328) :
    ∃ A' cap' w', (Builtin.append_ #[t, t] ty #[.slice A n cap, .slice B m c]).run P w = .ok (.slice A' (n + m) cap') w' ∧ St w0 (own A' (n + m) cap' e size (xs ++ news) :: L') w' := by
  obtain ⟨ht, i, z, hi, hz, hsize, hby, hzs, hsz⟩ := he
  have hs' := hs.ent hsel
  have hrow := hs'.own_row
  by_cases hm : m = 0
  · subst hm
    have hn : news = [] := List.eq_nil_of_length_eq_zero (by simpa using hl)
    subst hn
    have hcap := hs'.own_len
    refine ⟨A, cap, w, ?_, by simpa using hs'⟩
    have hsc : ∀ g : Addr, (storeCells (g) [] 0).run P w = .ok () w := fun _ => rfl
    have hzero : (Builtin.firstCells size 0 (.slice B 0 c)).run P w = .ok #[] w := by
      cases B <;> simp [Builtin.firstCells, loadCells, loadCellsFrom]
    cases A with
    | none =>
      have : n = 0 ∧ cap = 0 := by
        obtain ⟨x, ⟨_, h⟩, _⟩ := hs'.heap
        rcases h with ⟨_, h1, h2, _⟩ | ⟨g, cur, h0, _⟩
        · exact ⟨h1, h2⟩
        · cases h0
      obtain ⟨rfl, rfl⟩ := this
      simp [Builtin.append_, run_underlying ht, sizeOf, typeInfo, hi, hsize, Builtin.lenOf, hzero]
    | some g => simp [Builtin.append_, run_underlying ht, sizeOf, typeInfo, hi, hsize, Builtin.lenOf, hzero, hcap.2.1, storeCells]
  · have hpos : 0 < news.length := by rw [hl]; exact Nat.mul_pos (by omega) hsz
    obtain ⟨b, o, rfl, _⟩ := hr.at_ hpos
    have hnews : ∀ j u, news[j]? = some u → w.cell? ((⟨b, o, none⟩ : Addr).add j) = some u := by
      intro j u hu
      obtain ⟨ad, he1, _, hrd⟩ := hr j u hu
      injection he1 with he1
      subst he1
      rw [Addr.add_lit]
      exact hrd w hs
    obtain ⟨v', w', hrun, h2, h3, h4, h5⟩ := run_append_own_at (P := P) w w0.heap.size t ty e i z size bytes ht hi hz hsize hby hzs hsz (.slice A n cap) n xs hrow ⟨b, o, none⟩ m c news hl hnews h1 h63 hbytes hs.below.size
    have hv : ∃ A' cap', v' = .slice A' (n + m) cap' := by
      rcases h2.2 with ⟨rfl, h0⟩ | ⟨g, cap', cur, rfl, _⟩
      · exact ⟨none, 0, by rw [h0]⟩
      · exact ⟨_, _, rfl⟩
    obtain ⟨A', cap', rfl⟩ := hv
    exact ⟨A', cap', w', hrun, hs'.own_grown h2 h3 h5⟩

theorem wpl_append {t e : TypeId} {size bytes : Nat} {L' : List As} {s x : Operand} (he : ElemOk P t e size bytes) {A B : Option Addr} {n cap m c : Nat} {xs news : List Value} (hsv : a.eval s = .slice A n cap) (hxv : a.eval x = .slice B m c)
    (hs : St w0 L w) (hsel : Ent L (own A n cap e size xs :: L'))
    (hr : RdS w0 L B news) (hl : news.length = m * size) (h1 : ∀ u ∈ news, u.oneCell' = true) (h63 : n + m ≤ maxLen) (hbytes : (n + m) * bytes ≤ 140737488355328)
    (next : ∀ A' cap' w', St w0 (own A' (n + m) cap' e size (xs ++ news) :: L') w' → wpList P ops Q rest (a.put dst (.slice A' (n + m) cap')) w') :
    wpList P ops Q (⟨dst, .call { callee := .builtin .append, args := #[s, x], argTypes := #[t, t] }, ty, pos, after, none⟩ :: rest) a w :=
  wpList_plain rfl fun K hK => by
    obtain ⟨A', cap', w', hrun, hs'⟩ := run_append_own_st (ty := ty) (c := c) he hs hsel hr hl h1 h63 hbytes
    unfold Oper.wp execOp
    simp only [resolve, invoke, builtin, Sem.run_bind, Sem.run_pure, Result.andThen_ok, List.map_toArray, List.map_cons, List.map_nil, hsv, hxv, hrun]
    exact hK _ _ (next A' cap' w' hs')

/-- append of nothing given: 'append(out)' does not come up; a nil source. -/
theorem wpl_make {t e : TypeId} {size bytes : Nat} {z : Value} {l c : Operand} {kl kc : IntKind} {n : Nat} (ht : P.underlying t = some (.slice e)) (hi : (P.info? e).map (fun i => (i.zero, i.size, i.bytes)) = some (some z, size, bytes)) (_hzs : z.cells.size = size)
    (hl : a.eval l = .int kl (n : Int)) (hc : a.eval c = .int kc (n : Int)) (hb : bytes * n ≤ 281474976710656) (h63 : n ≤ maxLen) (hs : St w0 L w)
    (next : ∀ g w', St w0 (own (some ⟨g, 0, none⟩) n n e size (madeCells z.cells (n * size)).toList :: L) w' → wpList P ops Q rest (a.put dst (.slice (some ⟨g, 0, none⟩) n n)) w') :
    wpList P ops Q (⟨dst, .makeSlice t l c, ty, pos, after, none⟩ :: rest) a w :=
  wpList_plain rfl fun K hK => by
    cases hq : P.info? e with
    | none => rw [hq] at hi; cases hi
    | some i =>
      rw [hq] at hi
      simp at hi
      obtain ⟨hz, hsz, hby⟩ := hi
      have hb' : (i.bytes : Int) * (n : Int) ≤ 281474976710656 := by
        have h : ((i.bytes * n : Nat) : Int) ≤ 281474976710656 := by rw [hby]; omega
        rwa [Int.natCast_mul] at h
      have hr := run_make (P := P) w t e i z ht hq hz kl kc n n (by omega) (by omega) hb' (by simp only [maxLen] at h63; omega)
      simp only [Int.toNat_natCast, hsz] at hr
      unfold Oper.wp execOp
      simp only [hl, hc, Sem.run_bind, hr, Result.andThen_ok, Sem.run_pure]
      refine hK _ _ (next _ _ ((hs.alloc _ _).conv fun h hx => ?_))
      have hsize : (madeCells z.cells (n * size)).size = n * size := by simp [madeCells]
      exact ⟨by rw [Array.length_toList, hsize], .inr ⟨_, _, rfl, Nat.le_refl _, h63, hsize, List.take_of_length_le (by rw [Array.length_toList, hsize]; exact Nat.le_refl _), hx⟩⟩

end

/-! ### Stores of several cells -/
def splice (xs : List Value) (o : Nat) (vs : List Value) : List Value := xs.take o ++ vs ++ xs.drop (o + vs.length)
theorem splice_length {xs : List Value} {o : Nat} {vs : List Value} (h : o + vs.length ≤ xs.length) : (splice xs o vs).length = xs.length := by
  simp [splice]; omega
/-- A store of some cells at a turns the assertions L into M. -/
def WrA (w0 : World) (L : List As) (a : Addr) (vs : List Value) (M : List As) : Prop := ∀ (P : Program) (K : List As) (w : World), St w0 (L ++ K) w → ∃ w', (storeCells a vs).run P w = .ok () w' ∧ St w0 (M ++ K) w'
theorem WrA.tail {w0 : World} {p : As} {L M : List As} {a : Addr} {vs : List Value} (h : WrA w0 L a vs M) : WrA w0 (p :: L) a vs (p :: M) := fun P K w hs => by
  obtain ⟨w', h1, h2⟩ := h P (p :: K) w (St.ent hs (Ent.push p L K))
  exact ⟨w', h1, h2.ent (Ent.pull p M K)⟩
theorem WrA.ent {w0 : World} {a : Addr} {vs : List Value} {L L' M M' : List As} (h : WrA w0 L' a vs M') (h1 : ∀ K, Ent (L ++ K) (L' ++ K)) (h2 : ∀ K, Ent (M' ++ K) (M ++ K)) : WrA w0 L a vs M := fun P K w hs => let ⟨w', x, y⟩ := h P K w (hs.ent (h1 K)); ⟨w', x, y.ent (h2 K)⟩
theorem WrA.conv {w0 : World} {a : Addr} {vs : List Value} {p q p' q' : As} {L : List As} (h : WrA w0 (p' :: L) a vs (q' :: L)) (h1 : ∀ x, p x → p' x) (h2 : ∀ x, q' x → q x) : WrA w0 (p :: L) a vs (q :: L) := h.ent (fun _ => Ent.head h1) (fun _ => Ent.head h2)
theorem WrA.use {w0 : World} {a : Addr} {vs : List Value} {L M : List As} {w : World} (h : WrA w0 L a vs M) (hs : St w0 L w) (P : Program) : ∃ w', (storeCells a vs).run P w = .ok () w' ∧ St w0 M w' := by
  have := h P [] w (by simpa using hs)
  simpa using this
theorem setRow_at (w : World) (g : Nat) (cs cs' : Array Value) (t : TypeId) (h : w.heap[g]? = some (.cells cs t (0, 0))) : (w.setRow g cs').heap[g]? = some (.cells cs' t (0, 0)) := setRow_heap w g cs cs' t _ h
theorem setRow_else (w : World) (g k : Nat) (cs' : Array Value) (h : k ≠ g) : (w.setRow g cs').heap[k]? = w.heap[k]? := by
  simp only [World.setRow, Array.getElem?_modify]
  rw [if_neg (by omega)]
theorem WrA.blk {w0 : World} {g o : Nat} {cs : List Value} {t : TypeId} {vs : List Value} {L : List As} (h : o + vs.length ≤ cs.length) (h1 : ∀ v ∈ vs, v.oneCell' = true) :
    WrA w0 (YtcnbmfaicbkhcaaGreatDoor.blk g cs.toArray t :: L) ⟨g, o, none⟩ vs (YtcnbmfaicbkhcaaGreatDoor.blk g (splice cs o vs).toArray t :: L) := fun P K w hs => by
  have hs' : St _ (YtcnbmfaicbkhcaaGreatDoor.blk g cs.toArray t :: (L ++ K)) w := hs
  have hb := hs'.blk
  have hr := run_storeCells_at (P := P) g o t vs 0 cs.toArray w hb.2 (by simpa using h) h1
  refine ⟨_, hr, ?_⟩
  simp only [Nat.add_zero] at hr ⊢
  refine hs'.turn fun a ha _ => ⟨_, rfl, rfl, rfl, rfl, by simp [World.setRow], fun k hk hlt => ?_, fun k o' hk => ?_⟩
  · have hne : k ≠ g := by
      rintro rfl
      rw [show a = _ from ha] at hk
      simp at hk
    exact ⟨by simp [hne], setRow_else w g k _ hne⟩
  · split at hk
    · rename_i e
      subst e
      injection hk with hk
      subst hk
      exact ⟨hb.1, setRow_at w k _ _ t hb.2⟩
    · cases hk
theorem take_splice {xs ys : List Value} {n o : Nat} {vs : List Value} (h : ys.take n = xs) (hx : xs.length = n) (ho : o + vs.length ≤ n) : (splice ys o vs).take n = splice xs o vs := by
  subst h
  have hn : n ≤ ys.length := by rw [List.length_take] at hx; omega
  unfold splice
  apply List.ext_getElem?
  intro j
  simp only [List.getElem?_take, List.getElem?_append, List.length_append, List.length_take, List.getElem?_drop]
  by_cases hj : j < n
  · rw [if_pos hj]
    by_cases h1 : j < o
    · have e1 : j < min o ys.length := by omega
      have e2 : j < min o ys.length + vs.length := by omega
      have e3 : j < min o (min n ys.length) := by omega
      have e4 : j < min o (min n ys.length) + vs.length := by omega
      rw [if_pos e2, if_pos e1, if_pos e4, if_pos e3, if_pos h1, if_pos h1, if_pos hj]
    · have e1 : ¬ j < min o ys.length := by omega
      have e3 : ¬ j < min o (min n ys.length) := by omega
      have e5 : min o ys.length = o := by omega
      have e6 : min o (min n ys.length) = o := by omega
      rw [e5, e6]
      by_cases h2 : j < o + vs.length
      · rw [if_pos h2, if_pos h2, if_neg h1, if_neg h1]
      · rw [if_neg h2, if_neg h2]
        have e7 : o + vs.length + (j - (o + vs.length)) < n := by omega
        rw [if_pos e7]
  · rw [if_neg hj]
    have e6 : min o (min n ys.length) = o := by omega
    rw [e6, if_neg (by omega)]
    rw [if_neg (by omega)]
theorem WrA.own {w0 : World} {g n cap o : Nat} {e : TypeId} {size : Nat} {xs vs : List Value} {L : List As} (h : o + vs.length ≤ xs.length) (h1 : ∀ v ∈ vs, v.oneCell' = true) :
    WrA w0 (YtcnbmfaicbkhcaaGreatDoor.own (some ⟨g, 0, none⟩) n cap e size xs :: L) ⟨g, o, none⟩ vs (YtcnbmfaicbkhcaaGreatDoor.own (some ⟨g, 0, none⟩) n cap e size (splice xs o vs) :: L) := fun P K w hs => by
  have hs' : St _ (YtcnbmfaicbkhcaaGreatDoor.own (some ⟨g, 0, none⟩) n cap e size xs :: (L ++ K)) w := hs
  obtain ⟨a, ⟨hl, hx⟩, hh⟩ := hs'.heap
  rcases hx with ⟨h0, _⟩ | ⟨g', cur, hg, h2, h3, h4, h5, h6⟩
  · cases h0
  injection hg with hg
  injection hg with hg
  subst hg
  have hc := hh g (.cells cur e (0, 0)) (by rw [show a = _ from h6]; simp)
  have hcur : n * size ≤ cur.size := by rw [h4]; exact Nat.mul_le_mul_right _ h2
  have hr := run_storeCells_at (P := P) g o e vs 0 cur w hc.2 (by omega) h1
  refine ⟨_, hr, ?_⟩
  simp only [Nat.add_zero] at hr ⊢
  refine hs'.turn fun b hb _ => ⟨fun j => if j = g then some (.cells (splice cur.toList o vs).toArray e (0, 0)) else none, ?_, rfl, rfl, rfl, by simp [World.setRow], fun j hj hlt => ?_, fun j o' hj => ?_⟩
  · refine ⟨by rw [splice_length h]; exact hl, .inr ⟨g, _, rfl, h2, h3, ?_, ?_, rfl⟩⟩
    · rw [← h4]
      have : (splice cur.toList o vs).length = cur.toList.length := splice_length (by simp; omega)
      simpa using this
    · exact take_splice h5 hl (by omega)
  · rcases hb.2 with ⟨h0, _⟩ | ⟨g', cur', hg', _, _, _, _, h6'⟩
    · cases h0
    injection hg' with hg'
    injection hg' with hg'
    subst hg'
    have hne : j ≠ g := by
      rintro rfl
      rw [show b = _ from h6'] at hj
      simp at hj
    exact ⟨by simp [hne], setRow_else w g j _ hne⟩
  · have hj' : (if j = g then some (Obj.cells (splice cur.toList o vs).toArray e) else none) = some o' := hj
    clear hj
    split at hj'
    · rename_i e'
      subst e'
      injection hj' with hj'
      subst hj'
      exact ⟨hc.1, setRow_at w j _ _ e hc.2⟩
    · cases hj'
section
variable {P : Program} {ops : Array Oper} {Q : Exit → Act → World → Prop} {a : Act} {w w0 : World} {rest : List Oper} {ty : TypeId} {pos : String} {after : Array Edge} {L : List As}
theorem wpl_store_agg {t : TypeId} {p x : Operand} {ad : Addr} {v : Value} {M : List As} (hp : a.eval p = .pointer (some ad)) (hx : a.eval x = v) (hsz : (P.info? t).map (·.size) = some v.cells.size) (hs : St w0 L w) (hw : WrA w0 L ad v.cells.toList M)
    (next : ∀ w', St w0 M w' → wpList P ops Q rest a w') : wpList P ops Q (⟨none, .store t p x, ty, pos, after, none⟩ :: rest) a w :=
  wpList_plain rfl fun K hK => by
    obtain ⟨w', hst, hs'⟩ := hw.use hs P
    cases hq : P.info? t with
    | none => rw [hq] at hsz; cases hsz
    | some i =>
      have hsz' : v.cells.size = i.size := by rw [hq] at hsz; simp at hsz; omega
      unfold Oper.wp execOp
      simp [hp, hx, Instr.storeAt, Instr.sureAddr, storeVar, sizeOf, typeInfo, hq, hsz', hst]
      exact hK _ _ (next _ hs')
end
end Go.Proofs.YtcnbmfaicbkhcaaGreatDoor

/-
  Words of sixty-four as numbers below 2^64: which bits, the least from one on, the greatest, how many. No program stands here.
-/
namespace Go.Proofs.YtcnbmfaicbkhcaaGreatDoor
open Go

def W64 : Nat := 18446744073709551616
/-- A number's bit. -/
def oneW (i : Int) : Nat := if 0 ≤ i ∧ i < 64 then 2 ^ i.toNat else 0
def allW (l : List Int) : Nat := l.foldl (fun w i => w ||| oneW i) 0
/-- Has a word a number? -/
def hasW (x : Nat) (i : Int) : Bool := decide (0 ≤ i) && decide (i < 64) && x.testBit i.toNat
/-- x without y. -/
def subW (x y : Nat) : Nat := x &&& (18446744073709551615 - y)
def listW (x : Nat) : List Nat := (List.range 64).filter fun i => x.testBit i
def cntW (x : Nat) : Nat := (listW x).length
/-- The least number from one on; -1: none. -/
def firstW (x : Nat) (from_ : Int) : Int := match (listW x).find? (fun i : Nat => decide (from_ ≤ (i : Int))) with
  | some i => i
  | none => -1
def lastW (x : Nat) : Int := match (listW x).getLast? with
  | some i => i
  | none => -1

theorem oneW_lt (i : Int) : oneW i < 2 ^ 64 := by
  unfold oneW
  split
  · exact Nat.pow_lt_pow_right (by decide) (by omega)
  · decide
theorem testBit_oneW (i : Int) (k : Nat) : (oneW i).testBit k = (decide (i = k) && decide (k < 64)) := by
  unfold oneW
  split
  · rw [Nat.testBit_two_pow]
    by_cases h : i = k
    · subst h; simp; omega
    · have : ¬ i.toNat = k := by omega
      simp [h, this]
  · by_cases h : i = k
    · have : ¬ k < 64 := by omega
      simp [this]
    · simp [h]
theorem foldl_or (l : List Int) : ∀ s, l.foldl (fun w i => w ||| oneW i) s = s ||| allW l := by
  unfold allW
  induction l with
  | nil => intro s; simp
  | cons x l ih => intro s; simp only [List.foldl_cons]; rw [ih, ih (0 ||| oneW x)]; simp [Nat.or_assoc]
theorem allW_cons (x : Int) (l : List Int) : allW (x :: l) = oneW x ||| allW l := by
  show l.foldl (fun w i => w ||| oneW i) (0 ||| oneW x) = _
  rw [foldl_or]; simp
theorem allW_append (l m : List Int) : allW (l ++ m) = allW l ||| allW m := by
  unfold allW; rw [List.foldl_append, foldl_or m]; rfl
theorem allW_snoc (l : List Int) (x : Int) : allW (l ++ [x]) = allW l ||| oneW x := by rw [allW_append]; simp [allW]
theorem allW_lt (l : List Int) : allW l < 2 ^ 64 := by
  induction l with
  | nil => simp [allW]
  | cons x l ih => rw [allW_cons]; exact Nat.or_lt_two_pow (oneW_lt x) ih
theorem testBit_allW (l : List Int) (k : Nat) : (allW l).testBit k = (decide ((k : Int) ∈ l) && decide (k < 64)) := by
  induction l with
  | nil => simp [allW]
  | cons x l ih =>
    rw [allW_cons, Nat.testBit_or, ih, testBit_oneW]
    by_cases h : k < 64 <;> simp [h, eq_comm]
theorem testBit_hi {x k : Nat} (hx : x < 2 ^ 64) (hk : 64 ≤ k) : x.testBit k = false := Nat.testBit_lt_two_pow (Nat.lt_of_lt_of_le hx (Nat.pow_le_pow_right (by decide) hk))
theorem subW_lt (x y : Nat) (hx : x < 2 ^ 64) : subW x y < 2 ^ 64 := Nat.lt_of_le_of_lt Nat.and_le_left hx
theorem testBit_subW {x y : Nat} (hx : x < 2 ^ 64) (hy : y < 2 ^ 64) (k : Nat) : (subW x y).testBit k = (x.testBit k && !y.testBit k) := by
  unfold subW
  rw [Nat.testBit_and]
  by_cases hk : k < 64
  · have h : (18446744073709551615 - y).testBit k = !y.testBit k := by
      have e : 18446744073709551615 - y = 2 ^ 64 - (y + 1) := by omega
      rw [e, Nat.testBit_two_pow_sub_succ hy]
      simp [hk]
    rw [h]
  · rw [testBit_hi hx (by omega)]; simp
theorem word_ext {x y : Nat} (hx : x < 2 ^ 64) (hy : y < 2 ^ 64) (h : ∀ k, k < 64 → x.testBit k = y.testBit k) : x = y :=
  Nat.eq_of_testBit_eq fun k => by
    by_cases hk : k < 64
    · exact h k hk
    · rw [testBit_hi hx (by omega), testBit_hi hy (by omega)]
theorem hasW_and (x : Nat) (i : Int) : decide (x &&& oneW i ≠ 0) = hasW x i := by
  unfold hasW
  by_cases h : 0 ≤ i ∧ i < 64
  · have e : oneW i = 2 ^ i.toNat := by unfold oneW; rw [if_pos h]
    have hp : (2 : Nat) ^ i.toNat ≠ 0 := by simp
    rw [e, nat_bit, Nat.testBit_eq_decide_div_mod_eq]
    have hd := Nat.mod_two_eq_zero_or_one (x / 2 ^ i.toNat)
    rcases hd with hd | hd <;> simp [h.1, h.2, hd]
  · have e : oneW i = 0 := by unfold oneW; rw [if_neg h]
    rw [e]
    by_cases h0 : 0 ≤ i
    · have : ¬ i < 64 := by omega
      simp [this]
    · simp [h0]
theorem mem_listW {x i : Nat} : i ∈ listW x ↔ i < 64 ∧ x.testBit i = true := by simp [listW]
theorem listW_sorted (x : Nat) : (listW x).Pairwise (· < ·) := List.Pairwise.filter _ List.pairwise_lt_range

/-! ### The least, the greatest -/
theorem find_first {l : List Nat} {p : Nat → Bool} {i : Nat} (hl : l.Pairwise (· < ·)) (hi : i ∈ l) (hp : p i = true) (hmin : ∀ j ∈ l, j < i → p j = false) : l.find? p = some i := by
  induction l with
  | nil => cases hi
  | cons a l ih =>
    rw [List.pairwise_cons] at hl
    rcases List.mem_cons.1 hi with rfl | hi'
    · simp [hp]
    · have ha := hl.1 i hi'
      rw [List.find?_cons, hmin a (by simp) ha]
      exact ih hl.2 hi' (fun j hj => hmin j (by simp [hj]))
theorem firstW_some {x i : Nat} {f : Int} (h1 : f ≤ i) (h2 : i < 64) (h3 : x.testBit i = true) (h4 : ∀ j : Nat, f ≤ j → j < i → x.testBit j = false) : firstW x f = i := by
  have := find_first (p := fun i : Nat => decide (f ≤ (i : Int))) (listW_sorted x) (mem_listW.2 ⟨h2, h3⟩) (by simpa using h1) (fun j hj hlt => by
    by_cases hf : f ≤ (j : Int)
    · have := h4 j hf hlt
      rw [(mem_listW.1 hj).2] at this; cases this
    · simpa using hf)
  unfold firstW
  rw [this]
theorem firstW_none {x : Nat} {f : Int} (h : ∀ j : Nat, f ≤ j → j < 64 → x.testBit j = false) : firstW x f = -1 := by
  have : (listW x).find? (fun i : Nat => decide (f ≤ (i : Int))) = none := by
    rw [List.find?_eq_none]
    intro j hj
    have := mem_listW.1 hj
    simp
    apply Int.not_le.1
    intro hf
    rw [h j hf this.1] at this
    cases this.2
  unfold firstW
  rw [this]
theorem firstW_cases (x : Nat) (f : Int) : (firstW x f = -1 ∧ ∀ j : Nat, f ≤ j → j < 64 → x.testBit j = false) ∨ ∃ i : Nat, firstW x f = i ∧ f ≤ i ∧ i < 64 ∧ x.testBit i = true ∧ ∀ j : Nat, f ≤ j → j < i → x.testBit j = false := by
  by_cases h : ∃ i : Nat, f ≤ i ∧ i < 64 ∧ x.testBit i = true
  · right
    obtain ⟨i, hi⟩ := h
    have : ∀ n i : Nat, i ≤ n → f ≤ i ∧ i < 64 ∧ x.testBit i = true → ∃ i : Nat, f ≤ i ∧ i < 64 ∧ x.testBit i = true ∧ ∀ j : Nat, f ≤ j → j < i → x.testBit j = false := by
      intro n
      induction n with
      | zero => intro i hn hi; exact ⟨i, hi.1, hi.2.1, hi.2.2, fun j _ hj => by omega⟩
      | succ n ih =>
        intro i hn hi
        by_cases hb : ∃ j : Nat, f ≤ j ∧ j < i ∧ x.testBit j = true
        · obtain ⟨j, h1, h2, h3⟩ := hb
          exact ih j (by omega) ⟨h1, by omega, h3⟩
        · refine ⟨i, hi.1, hi.2.1, hi.2.2, fun j h1 h2 => ?_⟩
          cases hbj : x.testBit j
          · rfl
          · exact absurd ⟨j, h1, h2, hbj⟩ hb
    obtain ⟨i, h1, h2, h3, h4⟩ := this i i (Nat.le_refl _) hi
    exact ⟨i, firstW_some h1 h2 h3 h4, h1, h2, h3, h4⟩
  · left
    have h' : ∀ j : Nat, f ≤ j → j < 64 → x.testBit j = false := fun j h1 h2 => by
      cases hbj : x.testBit j
      · rfl
      · exact absurd ⟨j, h1, h2, hbj⟩ h
    exact ⟨firstW_none h', h'⟩
/-- Trailing zeros of x above a place. -/
theorem ctz_spec {x : Nat} (h0 : x ≠ 0) (hx : x < 2 ^ 64) : Lib.ctz 64 x < 64 ∧ x.testBit (Lib.ctz 64 x) = true ∧ ∀ j, j < Lib.ctz 64 x → x.testBit j = false := by
  unfold Lib.ctz
  rw [if_neg h0]
  obtain ⟨m, h1, h2⟩ := Lib.ctzFrom_spec 64 x (by omega) hx
  refine ⟨h2, ?_, ?_⟩
  · rw [Nat.testBit_eq_decide_div_mod_eq]
    have : x / 2 ^ Lib.ctzFrom 64 x = 2 * m + 1 := by
      have hp : 0 < 2 ^ Lib.ctzFrom 64 x := Nat.pos_of_ne_zero (by simp)
      generalize 2 ^ Lib.ctzFrom 64 x = p at h1 hp
      rw [h1, Nat.mul_div_cancel_left _ hp]
    simp [this]
  · intro j hj
    generalize Lib.ctzFrom 64 x = k at h1 hj
    rw [h1, Nat.testBit_two_pow_mul]
    simp; omega
theorem firstW_shift {x : Nat} {f : Nat} (hx : x < 2 ^ 64) : firstW x f = if x / 2 ^ f = 0 then -1 else ((f + Lib.ctz 64 (x / 2 ^ f) : Nat) : Int) := by
  have hb : ∀ j, (x / 2 ^ f).testBit j = x.testBit (f + j) := fun j => by rw [Nat.testBit_div_two_pow, Nat.add_comm]
  split
  · rename_i h
    refine firstW_none fun j hj hlt => ?_
    have := hb (j - f)
    rw [h, show f + (j - f) = j by omega] at this
    simpa using this.symm
  · rename_i h
    obtain ⟨h1, h2, h3⟩ := ctz_spec h (Nat.lt_of_le_of_lt (Nat.div_le_self _ _) hx)
    rw [hb] at h2
    refine firstW_some (by omega) ?_ h2 fun j hj hlt => ?_
    · apply Nat.lt_of_not_le
      intro hle
      rw [testBit_hi hx hle] at h2
      cases h2
    · have := h3 (j - f) (by omega)
      rw [hb, show f + (j - f) = j by omega] at this
      exact this
theorem firstW_max (x : Nat) (f : Int) : firstW x f = firstW x (max f 0) := by
  unfold firstW
  congr 2
  funext i
  simp only [decide_eq_decide]
  omega

/-! ### How many, by bytes -/
def mask (m : Nat) : Nat → Nat
  | 0 => 0
  | n + 1 => 2 ^ 8 * mask m n + m
def swar1 (n x : Nat) : Nat := (x / 2 &&& mask 85 n) + (x &&& mask 85 n)
def swar2 (n x : Nat) : Nat := (x / 4 &&& mask 51 n) + (x &&& mask 51 n)
def swar3 (n x : Nat) : Nat := (x / 16 + x) &&& mask 15 n
def pc8 (a : Nat) : Nat := (List.range 8).countP fun i => a.testBit i
def bytesPc : Nat → Nat → Nat
  | 0, _ => 0
  | n + 1, x => 2 ^ 8 * bytesPc n (x / 256) + pc8 (x % 256)
def bytesSum : Nat → Nat → Nat
  | 0, _ => 0
  | n + 1, x => pc8 (x % 256) + bytesSum n (x / 256)
/-- The numbers of a word that are below k. -/
def upW (x : Nat) (k : Int) : List Nat := (listW x).filter fun i : Nat => decide ((i : Int) < k)
theorem firstW_lt (x : Nat) (k : Int) : firstW x k < 64 ∧ -1 ≤ firstW x k := by
  rcases firstW_cases x k with ⟨h, _⟩ | ⟨i, h1, h2, h3, _⟩ <;> omega
theorem firstW_ge {x : Nat} {k : Int} (h : 0 ≤ firstW x k) : k ≤ firstW x k := by
  rcases firstW_cases x k with ⟨h1, _⟩ | ⟨i, h1, h2, h3, _⟩ <;> omega
def downM (i : Int) : Nat := if i < 0 then 0 else (65 - i).toNat
end Go.Proofs.YtcnbmfaicbkhcaaGreatDoor

/-
  Regions that draw their order, walked once over the class of worlds that hold a state of XSl: reads, and calls that leave the state. No program stands here.
-/
namespace Go.Proofs.YtcnbmfaicbkhcaaGreatDoor
open Go Go.RowKit

/-- A world that holds a state. -/
structure StW (w0 : World) (L : List As) where
  w : World
  st : St w0 L w
theorem Rd.all {w0 : World} {L : List As} {a : Addr} {v : Value} (h : Rd w0 L a v) : ∀ p : StW w0 L, p.w.cell? a = some v := fun p => h _ p.st
/-- A readable slice at one place, by what stands there. -/
theorem RdS.get {w0 : World} {L : List As} {A : Option Addr} {xs : List Value} (h : RdS w0 L A xs) {k : Nat} {v : Value} (hk : xs[k]? = some v) : ∃ b o, A = some ⟨b, o, none⟩ ∧ Rd w0 L ⟨b, o + k, none⟩ v := by
  obtain ⟨⟨b, o, s⟩, h1, h2, h3⟩ := h k v hk
  simp only at h2
  subst h2
  exact ⟨b, o, h1, h3⟩
theorem RdS.int {w0 : World} {L : List As} {A : Option Addr} {zs : List Int} (h : RdS w0 L A (zs.map (Value.int .i64))) {k : Nat} (hk : k < zs.length) : ∃ b o e, A = some ⟨b, o, none⟩ ∧ Rd w0 L ⟨b, o + k, none⟩ (.int .i64 e) ∧ zs[k]? = some e := by
  obtain ⟨b, o, h1, h2⟩ := h.get (k := k) (v := .int .i64 zs[k]) (by simp [hk])
  exact ⟨b, o, zs[k], h1, h2, by simp [hk]⟩
end Go.Proofs.YtcnbmfaicbkhcaaGreatDoor

/-
  A region that draws its order, walked once: what only reads (the world may grow) in the order of the text, then a chain of operations each of which waits for the one before; the last may write. No program stands here.
-/
namespace Go.Proofs.YtcnbmfaicbkhcaaGreatDoor
open Go Go.RowKit

/-! ### A call's value is one -/
def endFrame (P : Program) : Frame := { (default : Frame) with mode := .returning, kind := .report, fn := P.funcs.size, todo := [], defers := [] }
theorem step_endFrame (P : Program) (v : Value) (w : World) : ∃ o w', step P (lone ((endFrame P).finish v) [] w) = .ended o w' := by
  have e : (endFrame P).finish v = endFrame P := rfl
  rw [e]
  refine ⟨_, _, step_lone_ended (w' := w) (o := .stuck "report: Error or String returned no string" "") ?_⟩
  simp [stepG, unwind, doReturn, endFrame, GStep.bare]
theorem run_past {P : Program} {fr1 fr2 : Frame} {w1 w2 : World} {v : Value} {k : Nat} (hl : fr1.leaving P w1 (.returned v)) (h : runN P k (lone fr1 [endFrame P] w1) = .next (lone fr2 [endFrame P] w2)) : k = 0 := by
  cases k with
  | zero => rfl
  | succ k =>
    simp only [runN, step_leave_returned hl] at h
    cases k with
    | zero =>
      simp only [runN, lone] at h
      injection h with h
      injection h with _ h
      simp at h
    | succ k =>
      obtain ⟨o, w', ho⟩ := step_endFrame P v w1
      simp only [runN, ho] at h
      cases h
theorem Calls.det {P : Program} {f : FuncId} {args : Array Value} {w : World} {v v' : Value} {A B : World → Prop} (h : Calls P f args w fun e w' => e = .returned v ∧ A w') (h' : Calls P f args w fun e w' => e = .returned v' ∧ B w') : v = v' := by
  obtain ⟨e, w1, fr1, ⟨rfl, ha⟩, ⟨n1, h1⟩, hf1, hl1⟩ := h [endFrame P]
  obtain ⟨e, w2, fr2, ⟨rfl, hb⟩, ⟨n2, h2⟩, hf2, hl2⟩ := h' [endFrame P]
  have hn : n1 = n2 := by
    rcases Nat.le_total n1 n2 with hle | hle
    · obtain ⟨k, rfl⟩ := Nat.exists_eq_add_of_le hle
      rw [runN_add, h1] at h2
      have := run_past hl1 h2
      omega
    · obtain ⟨k, rfl⟩ := Nat.exists_eq_add_of_le hle
      rw [runN_add, h2] at h1
      have := run_past hl2 h1
      omega
  subst hn
  rw [h1] at h2
  injection h2 with h2
  simp only [lone] at h2
  injection h2 with hw hg
  simp at hg
  subst hw
  obtain ⟨rfl⟩ := hg
  obtain ⟨_, _, _, fn, hfn, hr⟩ := hl1
  obtain ⟨_, _, _, fn', hfn', hr'⟩ := hl2
  rw [hfn] at hfn'
  injection hfn' with hfn'
  subst hfn'
  rw [hr] at hr'
  injection hr'

/-! ### Worlds that grow -/
/-- Nothing has turned; there may be new blocks. -/
def Grew (w w' : World) : Prop := Below w.heap.size w w'
theorem Grew.refl (w : World) : Grew w w := Below.refl _ _
theorem Grew.trans {a b c : World} (h : Grew a b) (k : Grew b c) : Grew a c := Below.trans h (Below.mono k h.size)
theorem Grew.drew {a b : World} (h : Grew a b) : Grew a b.drew := Below.drew h
theorem Grew.alloc {a b : World} (h : Grew a b) (o : Obj) : Grew a (b.alloc o) := Below.alloc h h.size o
theorem Grew.cell {a b : World} (h : Grew a b) {p : Addr} {v : Value} (hc : a.cell? p = some v) : b.cell? p = some v := by rw [Below.cell h (World.block_lt_of_cell? _ _ hc)]; exact hc
/-- A state stays as the world grows. -/
theorem St.grew {w0 w w' : World} {L : List As} (hs : St w0 L w) (h : Grew w w') : St w0 L w' :=
  (hs.more h (fun _ => none) (q := emp) (fun _ => rfl) (fun _ _ hk => by cases hk)).drop
/-- What a call made, laid beside what there is. -/
theorem St.beside {w0 w w' : World} {L M : List As} (hs : St w0 L w) (hm : St w M w') : St w0 (big M :: L) w' := by
  obtain ⟨h, r, hd, hu, hb⟩ := hm.sat
  refine hs.more hm.below h hb fun k o hk => ?_
  have := hu k
  simp only [Hl.un, hk] at this
  by_cases hlt : k < w.heap.size
  · rw [if_pos hlt] at this; simp at this
  · rw [if_neg hlt] at this; simp at this; exact ⟨by omega, this.symm⟩
theorem St.made {w0 w w' : World} {L : List As} {p : As} (hs : St w0 L w) (hm : St w [p] w') : St w0 (p :: L) w' := (hs.beside hm).conv fun _ h => star_emp (star_comm h)
theorem St.made_grew {w w' : World} {M : List As} (hm : St w M w') : Grew w w' := hm.below
structure StN (w0 : World) (N : List As) where
  w : World
  st : St w0 N w
theorem Rd.alln {w0 : World} {N : List As} {a : Addr} {v : Value} (h : Rd w0 N a v) : ∀ p : StN w0 N, p.w.cell? a = some v := fun p => h _ p.st
structure GW (wb : World) where
  w : World
  grew : Grew wb w
theorem Rd.gall {w0 wb : World} {L : List As} {a : Addr} {v : Value} (h : Rd w0 L a v) (hs : St w0 L wb) : ∀ p : GW wb, p.w.cell? a = some v := fun p => p.grew.cell (h wb hs)
theorem in_grew {P : Program} {f : FuncId} {args : Array Value} {wb : World} {p : GW wb} {v : Value}
    (h : Calls P f args p.w fun e w' => e = .returned v ∧ Grew p.w w') : Calls P f args p.w fun e w'' => e = .returned v ∧ ∃ q : GW wb, w'' = q.w :=
  h.mono fun _ _ ⟨he, hs⟩ => ⟨he, ⟨_, p.grew.trans hs⟩, rfl⟩
theorem in_gsame {P : Program} {f : FuncId} {args : Array Value} {wb : World} {p : GW wb} {v : Value}
    (h : Calls P f args p.w fun e w' => e = .returned v ∧ p.w = w') : Calls P f args p.w fun e w'' => e = .returned v ∧ ∃ q : GW wb, w'' = q.w :=
  h.mono fun _ _ ⟨he, hs⟩ => ⟨he, p, hs.symm⟩

section
variable {P : Program} {ops : Array Oper}
/-- How worlds may turn: R by the chain's operations, E by those that only read. -/
structure Rel where
  R : World → World → Prop
  E : World → World → Prop
  refl : ∀ w, E w w
  sub : ∀ {a b}, E a b → R a b
  trans : ∀ {a b c}, R a b → R b c → R a c
  etrans : ∀ {a b c}, E a b → E b c → E a c
def relG : Rel := ⟨Grew, Grew, Grew.refl, id, Grew.trans, Grew.trans⟩
variable {T : Rel}
/-- In state a, in every world that w1 may turn to, the operation yields v and turns the world by E alone. -/
def YR (T : Rel) (P : Program) (ops : Array Oper) (o : Oper) (v : Value) (a : Act) (w1 : World) : Prop :=
  (Region.wanted o (yielded ops a.tmps) = true ∧ ∀ w, T.R w1 w → o.quietAt P a (T.E w) w v) ∨ (Region.wanted o (yielded ops a.tmps) = false ∧ v = undef)
theorem YR.mono {o : Oper} {v : Value} {a : Act} {w1 w2 : World} (h : YR T P ops o v a w1) (hg : T.R w1 w2) : YR T P ops o v a w2 :=
  h.imp (fun ⟨h1, h2⟩ => ⟨h1, fun w hw => h2 w (T.trans hg hw)⟩) id
theorem YR.same {o : Oper} {v : Value} {a a' : Act} {w1 : World} (h : YR T P ops o v a w1) (he : execOp a'.eval o = execOp a.eval o)
    (hw : Region.wanted o (yielded ops a'.tmps) = Region.wanted o (yielded ops a.tmps)) : YR T P ops o v a' w1 := by
  unfold YR Oper.quietAt at *
  rw [he, hw]
  exact h
theorem quiet_uniform {o : Oper} {a : Act} {w1 : World} {K : World → Act → Prop} (h : ∀ wb, Grew w1 wb → o.quiet P a (Grew wb) (K wb)) :
    ∃ v, (∀ wb, Grew w1 wb → o.quietAt P a (Grew wb) wb v) ∧ ∀ wb, Grew w1 wb → K wb (a.put o.dst v) := by
  obtain ⟨v, h1, _⟩ := h w1 (Grew.refl _)
  have key : ∀ wb, Grew w1 wb → o.quietAt P a (Grew wb) wb v ∧ K wb (a.put o.dst v) := fun wb hb => by
    obtain ⟨u, h2, h3⟩ := h wb hb
    have q1 := h1 wb hb
    have q2 := h2 wb (Grew.refl _)
    have e : v = u := by
      unfold Oper.quietAt at q1 q2
      generalize (execOp a.eval o).run P wb = r at q1 q2
      cases r with
      | ok n w' =>
        cases n <;> simp only [Oper.quietUpon] at q1 q2
        case value x => rw [← q1.2, ← q2.2]
        case skip => rw [q1.2, q2.2]
        case enter f args => exact Calls.det q1.2 q2.2
      | halt x w' => simp only [Oper.quietUpon] at q1
    subst e
    exact ⟨q2, h3⟩
  exact ⟨v, fun wb hb => (key wb hb).1, fun wb hb => (key wb hb).2⟩

def noExit : Exit → Act → World → Prop := fun _ _ _ => False
/-- The chain: each lets the world grow, the last does as it likes. -/
def wpChain (T : Rel) (P : Program) (ops : Array Oper) (K : Act → World → Prop) : List Nat → Act → World → Prop
  | [], a, w => K a w
  | [c], a, w => wpOp P ops noExit c K a w
  | c :: c' :: rest, a, w => wpOp P ops noExit c (fun a' w' => T.R w w' ∧ ∀ w'', T.E w' w'' → wpChain T P ops K (c' :: rest) a' w'') a w
/-- What is left: those that only read, then the chain. -/
def HQ (T : Rel) (P : Program) (ops : Array Oper) (K : Act → World → Prop) (cl : List Nat) : List Nat → Act → World → Prop
  | [], a, w1 => ∀ w, T.E w1 w → wpChain T P ops K cl a w
  | q :: ql, a, w1 => ∃ o v, ops[q]? = some o ∧ YR T P ops o v a w1 ∧ HQ T P ops K cl ql (a.put o.dst v) w1
variable {K : Act → World → Prop}
theorem HQ.mono {cl : List Nat} : ∀ {ql : List Nat} {a : Act} {w1 w2 : World}, T.E w1 w2 → HQ T P ops K cl ql a w1 → HQ T P ops K cl ql a w2
  | [], _, _, _, hg, h => fun w hw => h w (T.etrans hg hw)
  | _ :: _, _, _, _, hg, ⟨o, v, ho, hy, h⟩ => ⟨o, v, ho, hy.mono (T.sub hg), h.mono hg⟩
theorem wpOp_def {i : Nat} {o : Oper} {a : Act} {w : World} {K : Act → World → Prop} (ho : ops[i]? = some o) :
    wpOp P ops noExit i K a w = if Region.wanted o (yielded ops a.tmps) then o.wp P a w K noExit ∨ (o.asks P a w ∧ LetsOut noExit) else K (a.put o.dst undef) w := by
  unfold wpOp; rw [ho]
theorem no_lets : ¬ LetsOut noExit := fun ⟨_, _, h⟩ => h
/-- An operation apart from another one, in the frame without that one's value. -/
theorem wpOp_put {j : Nat} {oi oj : Oper} {v : Value} (hj : ops[j]? = some oj) (hap : oi.apart ops oj = true) (hsi : ∀ cs b, oi.op ≠ .select cs b) (hsj : ∀ cs b, oj.op ≠ .select cs b)
    {K : Act → World → Prop} {a : Act} {w w1 : World} (hy : YR T P ops oi v a w1) (h : wpOp P ops noExit j K (a.put oi.dst v) w) :
    wpOp P ops noExit j (fun a' w' => YR T P ops oi v a' w1 ∧ K (a'.put oi.dst v) w') a w := by
  obtain ⟨h1, h2, h3⟩ := Oper.apart_spec hap
  have keep : ∀ (a : Act), YR T P ops oi v a w1 → ∀ u, YR T P ops oi v (a.put oj.dst u) w1 := fun a hy u =>
    hy.same (execOp_put oi hsi a oj.dst u h3) (wanted_put oi a oj.dst u h3)
  rw [wpOp_def hj] at *
  rw [wanted_put oj a oi.dst v h1] at h
  split
  · rename_i hw
    rw [if_pos hw] at h
    rcases h with h | ⟨_, h⟩
    · refine .inl ?_
      unfold Oper.wp at *
      rw [execOp_put oj hsj a oi.dst v h1] at h
      generalize (execOp a.eval oj).run P w = r at *
      have comm : ∀ u, (a.put oi.dst v).put oj.dst u = (a.put oj.dst u).put oi.dst v := fun u => Act.put_comm a v u h2
      cases r with
      | ok n w' =>
        cases n <;> simp only [Oper.upon] at h ⊢
        case value u => exact ⟨keep a hy u, by rw [← comm]; exact h⟩
        case skip => exact ⟨keep a hy _, by rw [← comm]; exact h⟩
        case defer d =>
          refine ⟨(show YR T P ops oi v ({ a.put oj.dst undef with defers := d :: a.defers } : Act) w1 from (keep a hy undef).same rfl rfl) |>.same ?_ ?_, ?_⟩
          · cases oj.dst <;> rfl
          · cases oj.dst <;> rfl
          · have := comm undef
            have e : ((({ a with defers := d :: a.defers } : Act).put oj.dst undef).put oi.dst v) = ({ a.put oi.dst v with defers := d :: (a.put oi.dst v).defers } : Act).put oj.dst undef := by
              cases hd : oi.dst <;> cases hd' : oj.dst <;> simp only [hd, hd', Act.put] at this ⊢
              injection this with this _
              rw [this]
            rw [e]; exact h
        case enter f args =>
          refine h.mono fun e w'' he => ?_
          cases e with
          | returned u => exact ⟨keep a hy u, by rw [← comm]; exact he⟩
          | panicked c => exact he.elim
          | outgrown => exact absurd he no_lets
        case row r args => exact h.mono fun u w'' he => ⟨keep a hy u, by rw [← comm]; exact he⟩
      | halt x w' => cases x <;> simp only [Oper.upon] at h ⊢ <;> exact h.elim
    · exact absurd h no_lets
  · rename_i hw
    rw [if_neg hw] at h
    exact ⟨keep a hy _, by rw [← Act.put_comm a v undef h2]; exact h⟩
/-- The chain's next operation, what only reads being left. -/
theorem HQ.chain (hsel : ∀ (j : Nat) (o : Oper) cs b, ops[j]? = some o → o.op ≠ .select cs b) {c c' : Nat} {rest : List Nat} {oc : Oper} (hc : ops[c]? = some oc) :
    ∀ {ql : List Nat} {a : Act} {w1 w : World}, (∀ q ∈ ql, ∀ oq, ops[q]? = some oq → oq.apart ops oc = true) → HQ T P ops K (c :: c' :: rest) ql a w1 → T.E w1 w →
      wpOp P ops noExit c (fun a' w' => T.R w w' ∧ HQ T P ops K (c' :: rest) ql a' w') a w
  | [], _, _, w, _, h, hg => h w hg
  | q :: ql, a, w1, w, hap, ⟨o, v, ho, hy, h⟩, hg => by
    have h2 := HQ.chain hsel hc (fun q hq => hap q (List.mem_cons_of_mem _ hq)) h hg
    exact wpOp_mono (fun a' w' ⟨h3, h4, h5⟩ => ⟨h4, o, v, ho, h3.mono (T.trans (T.sub hg) h4), h5⟩) (wpOp_put hc (hap q (by simp) o ho) (fun cs b => hsel q o cs b ho) (fun cs b => hsel c oc cs b hc) hy h2)
/-- One of those that only read, taken ahead of its turn. -/
theorem HQ.take (hsel : ∀ (j : Nat) (o : Oper) cs b, ops[j]? = some o → o.op ≠ .select cs b) {cl l2 : List Nat} {q : Nat} {oq : Oper} (hq : ops[q]? = some oq) :
    ∀ {l1 : List Nat} {a : Act} {w1 : World}, (∀ p ∈ l1, ∀ op, ops[p]? = some op → op.apart ops oq = true) → HQ T P ops K cl (l1 ++ q :: l2) a w1 →
      ∃ v, YR T P ops oq v a w1 ∧ HQ T P ops K cl (l1 ++ l2) (a.put oq.dst v) w1
  | [], _, _, _, ⟨o, v, ho, hy, h⟩ => by
    rw [hq] at ho
    injection ho with ho
    subst ho
    exact ⟨v, hy, h⟩
  | p :: l1, a, w1, hap, ⟨o, u, ho, hy, h⟩ => by
    obtain ⟨v, hv, h2⟩ := HQ.take hsel hq (fun p hp => hap p (List.mem_cons_of_mem _ hp)) h
    obtain ⟨k1, k2, k3⟩ := Oper.apart_spec (hap p (by simp) o ho)
    refine ⟨v, hv.same (execOp_put oq (fun cs b => hsel q oq cs b hq) a o.dst u k1).symm (wanted_put oq a o.dst u k1).symm, o, u, ho, hy.same (execOp_put o (fun cs b => hsel p o cs b ho) a oq.dst v k3) (wanted_put o a oq.dst v k3), ?_⟩
    rw [← Act.put_comm a u v k2]
    exact h2

/-- j waits for i. -/
def waits (ops : Array Oper) (j i : Nat) : Bool := ((ops[j]?).map fun o => o.after.any fun e => Region.binds .any e && e.on == i).getD false
theorem waits_spec {j i : Nat} (h : waits ops j i = true) : ∃ o e, ops[j]? = some o ∧ e ∈ o.after ∧ Region.binds .any e = true ∧ e.on = i := by
  unfold waits at h
  cases ho : ops[j]? with
  | none => rw [ho] at h; cases h
  | some o =>
    rw [ho] at h
    simp only [Option.map_some, Option.getD_some] at h
    obtain ⟨e, he, hb⟩ := Array.any_eq_true'.1 h
    simp only [Bool.and_eq_true, beq_iff_eq] at hb
    exact ⟨o, e, rfl, he, hb.1, hb.2⟩
theorem waits_ready {listed : Array Bool} {j i : Nat} (hw : waits ops j i = true) (hr : j ∈ Region.ready .any ops listed) : listed.getD i false = true := by
  obtain ⟨o, e, ho, he, hb, rfl⟩ := waits_spec hw
  obtain ⟨_, o', ho', hall⟩ := mem_ready.1 hr
  rw [ho] at ho'
  injection ho' with ho'
  subst ho'
  exact hall e he hb
def apartB (ops : Array Oper) (i j : Nat) : Bool := match ops[i]?, ops[j]? with
  | some x, some y => x.apart ops y
  | _, _ => true
theorem apartB_spec {i j : Nat} {x y : Oper} (hx : ops[i]? = some x) (hy : ops[j]? = some y) (h : apartB ops i j = true) : x.apart ops y = true := by
  unfold apartB at h; rw [hx, hy] at h; exact h
def linked (ops : Array Oper) : List Nat → Bool
  | c :: c' :: rest => waits ops c' c && linked ops (c' :: rest)
  | _ => true
/-- What the theorem asks of a region: the operations that only read 'ql', the chain 'cl'. -/
def chainB (ops : Array Oper) (ql cl : List Nat) : Bool :=
  Region.noSelect ops && (ql ++ cl).all (fun i => decide (i < ops.size)) && (List.range ops.size).all (fun i => (ql ++ cl).contains i) && decide ((ql ++ cl).length = ops.size) && decide ((ql ++ cl).Pairwise (· ≠ ·)) &&
  (List.range ops.size).all (fun i => ((ops[i]?).map fun o => o.after.all fun e => !Region.binds .any e || decide (e.on < i)).getD true) &&
  ql.all (fun q => (List.range ops.size).all fun j => j == q || (ql.contains j && decide (j < q)) || waits ops j q || apartB ops q j) &&
  linked ops cl && (cl.isEmpty || (cl.getLast? == some (ops.size - 1) && (List.range (ops.size - 1)).all fun q => (List.range ops.size).any fun j => decide (q < j) && waits ops j q))

theorem wpOp_turn {Q : Exit → Act → World → Prop} {i : Nat} {a : Act} {w : World} {K : Act → World → Prop} (h : wpOp P ops noExit i K a w) : wpOp P ops Q i K a w := by
  unfold wpOp at *
  split
  · rename_i ho; simpa only [ho] using h
  · rename_i o ho
    simp only [ho] at h
    split
    · rename_i hw
      rw [if_pos hw] at h
      rcases h with h | ⟨_, h⟩
      · refine .inl ?_
        unfold Oper.wp at *
        generalize (execOp a.eval o).run P w = r at *
        cases r with
        | ok n w' =>
          cases n <;> simp only [Oper.upon] at h ⊢
          case enter f args => exact h.mono fun e w'' he => by cases e <;> first | exact he | exact he.elim | exact absurd he no_lets
          all_goals exact h
        | halt x w' => cases x <;> simp only [Oper.upon] at h ⊢ <;> exact h.elim
      · exact absurd h no_lets
    · rename_i hw; rw [if_neg hw] at h; exact h
theorem wpOp_free {Q : Exit → Act → World → Prop} {i : Nat} {a : Act} {w : World} {K : Act → World → Prop} (h : wpOp P ops noExit i K a w) : wpOp P ops Q i K a w := wpOp_turn h
theorem wpList_post {o : Oper} {a : Act} {w : World} {K K' : Act → World → Prop} (h : ∀ a w, K a w → K' a w) (hh : wpList P ops (fun e a' w' => e = .normal ∧ K a' w') [o] a w) : wpList P ops (fun e a' w' => e = .normal ∧ K' a' w') [o] a w := by
  unfold wpList at *
  split
  · rename_i hw
    rw [if_pos hw] at hh
    rcases hh with hh | ⟨_, _, _, hh, _⟩
    · refine .inl ?_
      unfold Oper.wp at *
      generalize (execOp a.eval o).run P w = r at *
      cases r with
      | ok n w' =>
        cases n <;> simp only [Oper.upon] at hh ⊢
        case enter f args =>
          refine hh.mono fun e w'' he => ?_
          cases e with
          | returned u => exact ⟨rfl, h _ _ (show _ ∧ _ from he).2⟩
          | panicked c => exact absurd he.1 (by simp)
          | outgrown => obtain ⟨_, _, he, _⟩ := he; cases he
        case row r args => exact hh.mono fun u w'' he => ⟨rfl, h _ _ (show _ ∧ _ from he).2⟩
        case value => exact ⟨rfl, h _ _ (show _ ∧ _ from hh).2⟩
        case skip => exact ⟨rfl, h _ _ (show _ ∧ _ from hh).2⟩
        case defer => exact ⟨rfl, h _ _ (show _ ∧ _ from hh).2⟩
      | halt x w' => cases x <;> simp only [Oper.upon] at hh ⊢ <;> exact absurd hh.1 (by simp)
    · cases hh
  · rename_i hw; rw [if_neg hw] at hh; exact ⟨rfl, h _ _ (show _ ∧ _ from hh).2⟩
theorem wpOp_of_list {c : Nat} {o : Oper} {a : Act} {w : World} {K : Act → World → Prop} (ho : ops[c]? = some o) (h : wpList P ops (fun e a' w' => e = .normal ∧ K a' w') [o] a w) : wpOp P ops noExit c K a w := by
  rw [wpOp_def ho]
  unfold wpList at h
  split
  · rename_i hw
    rw [if_pos hw] at h
    rcases h with h | ⟨_, _, _, h, _⟩
    · refine .inl ?_
      unfold Oper.wp at *
      generalize (execOp a.eval o).run P w = r at *
      cases r with
      | ok n w' =>
        cases n <;> simp only [Oper.upon] at h ⊢
        case enter f args =>
          refine h.mono fun e w'' he => ?_
          cases e with
          | returned u => exact (show _ ∧ _ from he).2
          | panicked c => exact absurd he.1 (by simp)
          | outgrown => obtain ⟨_, _, he, _⟩ := he; cases he
        case row r args => exact h.mono fun u w'' he => (show _ ∧ _ from he).2
        all_goals exact (show _ ∧ _ from h).2
      | halt x w' => cases x <;> simp only [Oper.upon] at h ⊢ <;> exact absurd h.1 (by simp)
    · cases h
  · rename_i hw; rw [if_neg hw] at h; exact (show _ ∧ _ from h).2
/-- Where the walk stands. -/
structure Inv (ops : Array Oper) (ql cl ql0 cl0 : List Nat) (listed : Array Bool) : Prop where
  size : listed.size = ops.size
  left : ∀ i, i < ops.size → (listed.getD i true = false ↔ i ∈ ql ∨ i ∈ cl)
  inq : ∀ i ∈ ql, i ∈ ql0 ∧ i < ops.size
  inc : ∀ i ∈ cl, i ∈ cl0 ∧ i < ops.size
  sq : ql.Pairwise (· < ·)
  dis : ∀ i ∈ ql, i ∉ cl
  nodup : cl.Nodup
  link : linked ops cl = true
  last : cl ≠ [] → cl.getLast? = some (ops.size - 1)
  shut : ∀ j o, ops[j]? = some o → listed.getD j true = true → ∀ e ∈ o.after, Region.binds .any e = true → listed.getD e.on false = true
theorem getD_flip {listed : Array Bool} {i : Nat} (h : i < listed.size) : listed.getD i true = listed.getD i false := by simp [h]
theorem linked_tail {c : Nat} {cl : List Nat} (h : linked ops (c :: cl) = true) : linked ops cl = true := by
  cases cl with
  | nil => rfl
  | cons d cl => simp only [linked, Bool.and_eq_true] at h; exact h.2
/-- Of a chain only the first may be ready. -/
theorem Inv.head {ql ql0 cl0 : List Nat} {listed : Array Bool} : ∀ {cl : List Nat}, linked ops cl = true → (∀ i ∈ cl, listed.getD i false = false) → ∀ i ∈ cl, i ∈ Region.ready .any ops listed → cl.head? = some i
  | [], _, _, i, hi, _ => by cases hi
  | [c], _, _, i, hi, _ => by simp at hi; simp [hi]
  | c :: c' :: rest, hl, hun, i, hi, hr => by
    simp only [linked, Bool.and_eq_true] at hl
    rcases List.mem_cons.1 hi with h | h
    · simp [h]
    · have h2 := Inv.head (ql := ql) (ql0 := ql0) (cl0 := cl0) hl.2 (fun i hi => hun i (List.mem_cons_of_mem _ hi)) i h hr
      simp at h2
      subst h2
      have := waits_ready hl.1 hr
      rw [hun c (by simp)] at this
      cases this
theorem Inv.step {ql cl ql0 cl0 ql' cl' : List Nat} {listed : Array Bool} {i : Nat} (h : Inv ops ql cl ql0 cl0 listed) (hi : i ∈ Region.ready .any ops listed)
    (hmem : ∀ j, (j ∈ ql' ∨ j ∈ cl') ↔ (j ∈ ql ∨ j ∈ cl) ∧ j ≠ i) (hq : ql'.Sublist ql) (hc : cl' = cl ∨ cl = i :: cl') : Inv ops ql' cl' ql0 cl0 (listed.setIfInBounds i true) where
  size := by simpa using h.size
  left j hj := by
    rw [hmem j, ← h.left j hj]
    by_cases e : i = j
    · subst e; simp [h.size, hj]
    · rw [getD_set_ne true e]; simp [Ne.symm e]
  inq j hj := h.inq j (hq.subset hj)
  inc j hj := h.inc j (by rcases hc with rfl | rfl; exact hj; exact List.mem_cons_of_mem _ hj)
  sq := h.sq.sublist hq
  dis j hj hj2 := h.dis j (hq.subset hj) (by rcases hc with rfl | rfl; exact hj2; exact List.mem_cons_of_mem _ hj2)
  nodup := by
    rcases hc with rfl | rfl
    · exact h.nodup
    · exact (List.nodup_cons.1 h.nodup).2
  link := by
    rcases hc with rfl | rfl
    · exact h.link
    · exact linked_tail h.link
  last hne := by
    rcases hc with rfl | rfl
    · exact h.last hne
    · have := h.last (by simp)
      cases cl' with
      | nil => exact absurd rfl hne
      | cons c cl => rw [List.getLast?_cons_cons] at this; exact this
  shut j o ho hj e he hb := by
    by_cases hji : i = j
    · subst hji
      obtain ⟨_, o', ho', hall⟩ := mem_ready.1 hi
      rw [ho] at ho'
      injection ho' with ho'
      subst ho'
      exact getD_set_true (hall e he hb)
    · rw [getD_set_ne true hji] at hj
      exact getD_set_true (h.shut j o ho hj e he hb)
theorem main {ql0 cl0 : List Nat} (hsel : ∀ (j : Nat) (o : Oper) cs b, ops[j]? = some o → o.op ≠ .select cs b)
    (hdown : ∀ i o, ops[i]? = some o → ∀ e ∈ o.after, Region.binds .any e = true → e.on < i)
    (hfree : ∀ q ∈ ql0, ∀ j, j < ops.size → j ≠ q → ¬ (j ∈ ql0 ∧ j < q) → waits ops j q = true ∨ apartB ops q j = true) (hcq : ∀ i ∈ cl0, i ∉ ql0)
    (hlast : cl0 ≠ [] → ∀ q, q < ops.size - 1 → ∃ j, q < j ∧ j < ops.size ∧ waits ops j q = true) :
    ∀ (fuel : Nat) (ql cl : List Nat) (listed : Array Bool) (a : Act) (w : World), Inv ops ql cl ql0 cl0 listed → ql.length + cl.length ≤ fuel → HQ T P ops K cl ql a w → wpAny P .any ops (fun e a w => e = .normal ∧ K a w) fuel listed a w := by
  have done : ∀ (ql cl : List Nat) (listed : Array Bool) (a : Act) (w : World), Inv ops ql cl ql0 cl0 listed → HQ T P ops K cl ql a w → Region.ready .any ops listed = [] → K a w := by
    intro ql cl listed a w hv h hr
    have hall : ∀ n i, i < n → i < ops.size → listed.getD i true = true := by
      intro n
      induction n with
      | zero => intro i hi; omega
      | succ n ih =>
        intro i hi hlt
        refine Classical.byContradiction fun hno => ?_
        have hno : listed.getD i true = false := by simpa using hno
        have : i ∈ Region.ready .any ops listed := mem_ready.2 ⟨hno, ops[i], Array.getElem?_eq_getElem hlt, fun e he hb => by
          have h1 := hdown i _ (Array.getElem?_eq_getElem hlt) e he hb
          have h2 := ih e.on (by omega) (by omega)
          rwa [getD_flip (by rw [hv.size]; omega)] at h2⟩
        rw [hr] at this
        cases this
    have hq : ql = [] := by
      cases ql with
      | nil => rfl
      | cons q ql =>
        have h1 := hv.inq q (by simp)
        have h2 := (hv.left q h1.2).2 (.inl (by simp))
        rw [hall _ q (Nat.lt_succ_self q) h1.2] at h2
        cases h2
    have hc : cl = [] := by
      cases cl with
      | nil => rfl
      | cons q ql =>
        have h1 := hv.inc q (by simp)
        have h2 := (hv.left q h1.2).2 (.inr (by simp))
        rw [hall _ q (Nat.lt_succ_self q) h1.2] at h2
        cases h2
    subst hq; subst hc
    exact h w (T.refl _)
  have fin : ∀ (fuel : Nat) (listed : Array Bool) (a : Act) (w : World), Inv ops [] [] ql0 cl0 listed → K a w → wpAny P .any ops (fun e a w => e = .normal ∧ K a w) fuel listed a w := by
    intro fuel listed a w hv hk
    have hr : Region.ready .any ops listed = [] := by
      cases hr : Region.ready .any ops listed with
      | nil => rfl
      | cons i l =>
        have hi : i ∈ Region.ready .any ops listed := by rw [hr]; simp
        obtain ⟨hun, o, ho, _⟩ := mem_ready.1 hi
        rcases (hv.left i (Array.getElem?_eq_some_iff.1 ho).1).1 hun with h | h <;> cases h
    cases fuel with
    | zero => exact ⟨hr, rfl, hk⟩
    | succ fuel => exact ⟨fun _ => ⟨rfl, hk⟩, fun i hi => by rw [hr] at hi; cases hi⟩
  intro fuel
  induction fuel with
  | zero =>
    intro ql cl listed a w hv hf h
    have h1 : ql = [] := List.eq_nil_of_length_eq_zero (by omega)
    have h2 : cl = [] := List.eq_nil_of_length_eq_zero (by omega)
    subst h1; subst h2
    have hr : Region.ready .any ops listed = [] := by
      cases hr : Region.ready .any ops listed with
      | nil => rfl
      | cons i l =>
        have hi : i ∈ Region.ready .any ops listed := by rw [hr]; simp
        obtain ⟨hun, o, ho, _⟩ := mem_ready.1 hi
        rcases (hv.left i (Array.getElem?_eq_some_iff.1 ho).1).1 hun with h | h <;> cases h
    exact ⟨hr, rfl, done _ _ _ _ _ hv h hr⟩
  | succ fuel ih =>
    intro ql cl listed a w hv hf h
    refine ⟨fun hr => ⟨rfl, done _ _ _ _ _ hv h hr⟩, fun i hi => ?_⟩
    obtain ⟨hun, oi, hoi, hall⟩ := mem_ready.1 hi
    have hlt : i < ops.size := (Array.getElem?_eq_some_iff.1 hoi).1
    have hunl : ∀ j, (j ∈ ql ∨ j ∈ cl) → listed.getD j false = false := fun j hj => by
      have hj2 : j < ops.size := hj.elim (fun h => (hv.inq j h).2) (fun h => (hv.inc j h).2)
      rw [← getD_flip (by rw [hv.size]; exact hj2)]
      exact (hv.left j hj2).2 hj
    have hnw : ∀ j, (j ∈ ql ∨ j ∈ cl) → waits ops i j = false := fun j hj => by
      cases hw : waits ops i j with
      | false => rfl
      | true => have := waits_ready hw hi; rw [hunl j hj] at this; cases this
    rcases (hv.left i hlt).1 hun with hq | hc
    · obtain ⟨l1, l2, rfl⟩ := List.append_of_mem hq
      have hsq := hv.sq
      rw [List.pairwise_append] at hsq
      have hap : ∀ p ∈ l1, ∀ op, ops[p]? = some op → op.apart ops oi = true := fun p hp op hop => by
        have h1 : p < i := hsq.2.2 p hp i (by simp)
        have h2 := hv.inq p (by simp [hp])
        rcases hfree p h2.1 i hlt (by omega) (by omega) with h3 | h3
        · rw [hnw p (.inl (by simp [hp]))] at h3; cases h3
        · exact apartB_spec hop hoi h3
      obtain ⟨v, hy, h2⟩ := HQ.take hsel hoi hap h
      have hni1 : i ∉ l1 := fun hm => by have := hsq.2.2 i hm i (by simp); omega
      have hni2 : i ∉ l2 := fun hm => by have := (List.pairwise_cons.1 hsq.2.1).1 i hm; omega
      have hv2 : Inv ops (l1 ++ l2) cl ql0 cl0 (listed.setIfInBounds i true) := hv.step hi (fun j => by
          have hnc : i ∉ cl := hv.dis i hq
          simp only [List.mem_append, List.mem_cons]
          constructor
          · rintro ((h | h) | h)
            · exact ⟨.inl (.inl h), fun e => hni1 (e ▸ h)⟩
            · exact ⟨.inl (.inr (.inr h)), fun e => hni2 (e ▸ h)⟩
            · exact ⟨.inr h, fun e => hnc (e ▸ h)⟩
          · rintro ⟨(h | h | h) | h, hne⟩
            · exact .inl (.inl h)
            · exact absurd h hne
            · exact .inl (.inr h)
            · exact .inr h)
        (List.Sublist.append_left (List.sublist_cons_self i l2) l1) (.inl rfl)
      have hf2 : (l1 ++ l2).length + cl.length ≤ fuel := by simp at hf ⊢; omega
      unfold wpOp
      rw [hoi]
      simp only
      rcases hy with ⟨hw, hy⟩ | ⟨hw, rfl⟩
      · rw [if_pos hw]
        refine .inl ?_
        have h3 := hy w (T.sub (T.refl _))
        unfold Oper.quietAt at h3
        unfold Oper.wp
        generalize (execOp a.eval oi).run P w = r at *
        cases r with
        | ok n w' =>
          cases n <;> simp only [Oper.quietUpon] at h3 <;> simp only [Oper.upon]
          case value u =>
            obtain ⟨e1, e2⟩ := h3
            rw [e1, e2]
            exact ih _ _ _ _ _ hv2 hf2 h2
          case skip =>
            obtain ⟨e1, e2⟩ := h3
            rw [e1, ← e2]
            exact ih _ _ _ _ _ hv2 hf2 h2
          case enter f args =>
            obtain ⟨e1, hcl⟩ := h3
            rw [e1]
            exact hcl.mono fun e w'' ⟨he, hw''⟩ => by subst he; exact ih _ _ _ _ _ hv2 hf2 (h2.mono hw'')
        | halt x w' => simp only [Oper.quietUpon] at h3
      · rw [if_neg (by rw [hw]; exact Bool.false_ne_true)]
        exact ih _ _ _ _ _ hv2 hf2 h2
    · have hh := Inv.head (ql := ql) (ql0 := ql0) (cl0 := cl0) hv.link (fun j hj => hunl j (.inr hj)) i hc hi
      have hap : ∀ q ∈ ql, ∀ oq, ops[q]? = some oq → oq.apart ops oi = true := fun q hq2 oq hoq => by
        have h2 := hv.inq q hq2
        have hne : i ≠ q := fun e => hv.dis q hq2 (e ▸ hc)
        rcases hfree q h2.1 i hlt hne (fun h => hcq i (hv.inc i hc).1 h.1) with h3 | h3
        · rw [hnw q (.inl hq2)] at h3; cases h3
        · exact apartB_spec hoq hoi h3
      cases cl with
      | nil => cases hc
      | cons c rest =>
        simp at hh
        subst hh
        have hv2 : ∀ ql', ql' = ql → Inv ops ql' rest ql0 cl0 (listed.setIfInBounds c true) := fun ql' e => by
          subst e
          have hnd := List.nodup_cons.1 hv.nodup
          refine hv.step hi (fun j => ?_) (List.Sublist.refl _) (.inr rfl)
          simp only [List.mem_cons]
          constructor
          · rintro (h | h)
            · exact ⟨.inl h, fun e => hv.dis j h (by simp [e])⟩
            · exact ⟨.inr (.inr h), fun e => hnd.1 (e ▸ h)⟩
          · rintro ⟨h | h | h, hne⟩
            · exact .inl h
            · exact absurd h hne
            · exact .inr h
        cases rest with
        | nil =>
          have hce : c = ops.size - 1 := by have := hv.last (by simp); simpa using this
          have hcl0 : cl0 ≠ [] := fun e => by have := (hv.inc c (by simp)).1; rw [e] at this; cases this
          have hall : ∀ k q, q + k = ops.size - 1 → 0 < k → listed.getD q false = true := by
            intro k
            induction k using Nat.strongRecOn with
            | ind k ihk =>
              intro q hq0 hk
              obtain ⟨j, hj1, hj2, hj3⟩ := hlast hcl0 q (by omega)
              by_cases hjc : j = c
              · subst hjc; exact waits_ready hj3 hi
              · have h5 := ihk (ops.size - 1 - j) (by omega) j (by omega) (by omega)
                obtain ⟨o, e, ho, he, hb, rfl⟩ := waits_spec hj3
                rw [← getD_flip (by rw [hv.size]; exact hj2)] at h5
                exact hv.shut j o ho h5 e he hb
          have hq : ql = [] := by
            cases ql with
            | nil => rfl
            | cons q ql =>
              have h1 := hv.inq q (by simp)
              have h3 := hunl q (.inl (by simp))
              have hne : q ≠ c := fun e => hv.dis q (by simp) (by simp [e])
              rw [hall (ops.size - 1 - q) q (by omega) (by omega)] at h3
              cases h3
          subst hq
          have h3 : wpOp P ops noExit c K a w := h w (T.refl _)
          exact wpOp_free (wpOp_mono (fun a' w' hk => fin fuel _ a' w' (hv2 [] rfl) hk) h3)
        | cons c' rest =>
          have hf2 : ql.length + (c' :: rest).length ≤ fuel := by simp at hf ⊢; omega
          exact wpOp_free (wpOp_mono (fun a' w' ⟨_, h3⟩ => ih _ _ _ _ _ (hv2 ql rfl) hf2 h3) (HQ.chain hsel hoi hap h (T.refl _)))

/-- The operations that only read, of a region: those that the mask leaves. -/
def pickOps : List Oper → List Bool → List Oper
  | [], _ => []
  | o :: l, [] => o :: pickOps l []
  | _ :: l, true :: m => pickOps l m
  | o :: l, false :: m => o :: pickOps l m
def pickIx : Nat → List Oper → List Bool → List Nat
  | _, [], _ => []
  | k, _ :: l, [] => k :: pickIx (k + 1) l []
  | k, _ :: l, true :: m => pickIx (k + 1) l m
  | k, _ :: l, false :: m => k :: pickIx (k + 1) l m
def chainIx : Nat → List Bool → List Nat
  | _, [] => []
  | k, true :: m => k :: chainIx (k + 1) m
  | k, false :: m => chainIx (k + 1) m
theorem pickIx_ge : ∀ (l : List Oper) (m : List Bool) (k : Nat), ∀ i ∈ pickIx k l m, k ≤ i
  | [], _, _, _, h => by simp [pickIx] at h
  | _ :: l, m, k, i, h => by
    cases m with
    | nil =>
      simp only [pickIx, List.mem_cons] at h
      rcases h with rfl | h
      · exact Nat.le_refl _
      · have := pickIx_ge l [] (k + 1) i h; omega
    | cons b m =>
      cases b <;> simp only [pickIx, List.mem_cons] at h
      · rcases h with rfl | h
        · exact Nat.le_refl _
        · have := pickIx_ge l m (k + 1) i h; omega
      · have := pickIx_ge l m (k + 1) i h; omega
theorem pickIx_sorted : ∀ (l : List Oper) (m : List Bool) (k : Nat), (pickIx k l m).Pairwise (· < ·)
  | [], _, _ => by simp [pickIx]
  | _ :: l, m, k => by
    cases m with
    | nil => exact List.pairwise_cons.2 ⟨fun i hi => by have := pickIx_ge l [] (k + 1) i hi; omega, pickIx_sorted l [] (k + 1)⟩
    | cons b m =>
      cases b
      · exact List.pairwise_cons.2 ⟨fun i hi => by have := pickIx_ge l m (k + 1) i hi; omega, pickIx_sorted l m (k + 1)⟩
      · exact pickIx_sorted l m (k + 1)
theorem pick_ix : ∀ (l : List Oper) (m : List Bool) (k : Nat), (∀ j, l[j]? = ops[k + j]?) → (pickOps l m).map some = (pickIx k l m).map (ops[·]?)
  | [], _, _, _ => rfl
  | o :: l, m, k, h => by
    have h0 : ops[k]? = some o := by simpa using (h 0).symm
    have ht : ∀ j, l[j]? = ops[k + 1 + j]? := fun j => by have := h (j + 1); simpa [Nat.add_assoc, Nat.add_comm 1 j] using this
    cases m with
    | nil => simp only [pickOps, pickIx, List.map_cons, h0, pick_ix l [] (k + 1) ht]
    | cons b m => cases b <;> simp only [pickOps, pickIx, List.map_cons, h0, pick_ix l m (k + 1) ht]
theorem HQ.of_quiet {cl : List Nat} {w1 : World} : ∀ (l : List Oper) (ql : List Nat) (a : Act), l.map some = ql.map (ops[·]?) →
    (∀ wb, Grew w1 wb → wpQuiet P ops (Grew wb) (fun a' => ∀ w', Grew wb w' → wpChain relG P ops K cl a' w') l a) → HQ relG P ops K cl ql a w1
  | [], [], _, _, h => fun w hw => h w1 (Grew.refl _) w hw
  | [], _ :: _, _, e, _ => by simp at e
  | _ :: _, [], _, e, _ => by simp at e
  | o :: l, q :: ql, a, e, h => by
    simp only [List.map_cons, List.cons.injEq] at e
    by_cases hw : Region.wanted o (yielded ops a.tmps) = true
    · obtain ⟨v, h1, h2⟩ := quiet_uniform (K := fun wb => wpQuiet P ops (Grew wb) (fun a' => ∀ w', Grew wb w' → wpChain relG P ops K cl a' w') l) (fun wb hb => by
        have := h wb hb
        unfold wpQuiet at this
        rwa [if_pos hw] at this)
      exact ⟨o, v, e.1.symm, .inl ⟨hw, h1⟩, HQ.of_quiet l ql _ e.2 h2⟩
    · refine ⟨o, undef, e.1.symm, .inr ⟨by simpa using hw, rfl⟩, HQ.of_quiet l ql _ e.2 fun wb hb => ?_⟩
      have := h wb hb
      unfold wpQuiet at this
      rwa [if_neg hw] at this
theorem any_mono {Q Q' : Exit → Act → World → Prop} (hq : ∀ e a w, Q e a w → Q' e a w) (hlo : LetsOut Q → LetsOut Q') : ∀ (fuel : Nat) (listed : Array Bool) (a : Act) (w : World), wpAny P .any ops Q fuel listed a w → wpAny P .any ops Q' fuel listed a w := by
  have step : ∀ {i : Nat} {a : Act} {w : World} {K : Act → World → Prop}, wpOp P ops Q i K a w → wpOp P ops Q' i K a w := by
    intro i a w K h
    unfold wpOp at *
    split
    · rename_i ho; simpa only [ho] using h
    · rename_i o ho
      simp only [ho] at h
      split
      · rename_i hw
        rw [if_pos hw] at h
        refine h.imp (fun h => ?_) (fun h => ⟨h.1, hlo h.2⟩)
        unfold Oper.wp at *
        generalize (execOp a.eval o).run P w = r at *
        cases r with
        | ok n w' =>
          cases n <;> simp only [Oper.upon] at h ⊢
          case enter f args => exact h.mono fun e w'' he => by cases e <;> first | exact he | exact hq _ _ _ he | exact hlo he
          all_goals exact h
        | halt x w' => cases x <;> simp only [Oper.upon] at h ⊢ <;> exact hq _ _ _ h
      · rename_i hw; rw [if_neg hw] at h; exact h
  intro fuel
  induction fuel with
  | zero => intro listed a w h; exact ⟨h.1, hq _ _ _ h.2⟩
  | succ fuel ih => intro listed a w h; exact ⟨fun h0 => hq _ _ _ (h.1 h0), fun i hi => step (wpOp_mono (fun a' w' => ih _ a' w') (h.2 i hi))⟩
theorem region_of_hq {id : Nat} {Q : Exit → Act → World → Prop} {a : Act} {w : World} {l : List Oper} (m : List Bool) (hm : P.follows .mixedOrders = true) (hB : chainB l.toArray (pickIx 0 l m) (chainIx 0 m) = true)
    (h : HQ T P l.toArray (fun a w => Q .normal a w) (chainIx 0 m) (pickIx 0 l m) a w.drew) : (Code.region id l.toArray true).wp P Q a w := by
  simp only [chainB, Bool.and_eq_true, List.all_eq_true, List.mem_range, decide_eq_true_eq, Bool.or_eq_true, beq_iff_eq] at hB
  obtain ⟨⟨⟨⟨⟨⟨⟨⟨hs, hin⟩, hall⟩, hlen⟩, hnd⟩, hdown⟩, hfree⟩, hlink⟩, hlast⟩ := hB
  have hsel := Region.noSelect_spec hs
  have hnd : (pickIx 0 l m ++ chainIx 0 m).Nodup := hnd
  rw [List.nodup_append] at hnd
  refine wp_region_any hm (any_mono (Q := fun e a w => e = .normal ∧ Q .normal a w) (fun e a w h => by obtain ⟨rfl, h⟩ := h; exact h) (fun ⟨a, w, h, _⟩ => by cases h) _ _ _ _ ?_)
  refine main (K := fun a w => Q .normal a w) (ql0 := pickIx 0 l m) (cl0 := chainIx 0 m) hsel ?_ ?_ (fun i hi hi2 => hnd.2.2 i hi2 i hi rfl) ?_ _ _ _ _ _ _ ⟨by simp, ?_, ?_, ?_, ?_, ?_, hnd.2.1, hlink, ?_, ?_⟩ (by rw [← hlen]; simp) h
  · intro i o ho e he hb
    have h1 := hdown i (Array.getElem?_eq_some_iff.1 ho).1
    rw [ho] at h1
    simp only [Option.map_some, Option.getD_some, Array.all_eq_true_iff_forall_mem] at h1
    have h2 := h1 e he
    rw [hb] at h2
    simpa using h2
  · intro q hq j hj hne hno
    rcases hfree q hq j hj with ((h1 | h1) | h1) | h1
    · exact absurd h1 hne
    · exact absurd ⟨List.mem_of_elem_eq_true h1.1, h1.2⟩ hno
    · exact .inl h1
    · exact .inr h1
  · intro hne q hq
    rcases hlast with h1 | h1
    · exact absurd (List.isEmpty_iff.1 h1) hne
    · have h2 := h1.2 q hq
      simp only [List.any_eq_true, List.mem_range, Bool.and_eq_true, decide_eq_true_eq] at h2
      obtain ⟨j, h3, h4, h5⟩ := h2
      exact ⟨j, h4, h3, h5⟩
  · intro i hi
    have := hall i hi
    have := List.mem_of_elem_eq_true this
    simp only [List.mem_append] at this
    simp at hi
    simp [hi, this]
  · intro i hi; exact ⟨hi, hin i (List.mem_append_left _ hi)⟩
  · intro i hi; exact ⟨hi, hin i (List.mem_append_right _ hi)⟩
  · exact pickIx_sorted _ _ _
  · intro i hi hi2; exact hnd.2.2 i hi i hi2 rfl
  · intro hne
    rcases hlast with h1 | h1
    · exact absurd (List.isEmpty_iff.1 h1) hne
    · exact h1.1
  · intro j o ho hj
    have hlt := (Array.getElem?_eq_some_iff.1 ho).1
    have e : (Array.replicate l.toArray.size false).getD j true = false := by simp only [Array.getD, Array.size_replicate, hlt, dite_true]; simp
    rw [e] at hj
    cases hj
/-- **A region that draws its order, walked once.** -/
theorem wp_region_chain {id : Nat} {Q : Exit → Act → World → Prop} {a : Act} {w : World} {l : List Oper} (m : List Bool) (hm : P.follows .mixedOrders = true) (hB : chainB l.toArray (pickIx 0 l m) (chainIx 0 m) = true)
    (h : ∀ wb, Grew w wb → wpQuiet P l.toArray (fun w' => ∃ p : GW wb, w' = p.w) (fun a' => ∀ w', Grew wb w' → wpChain relG P l.toArray (fun a' w' => Q .normal a' w') (chainIx 0 m) a' w') (pickOps l m) a) : (Code.region id l.toArray true).wp P Q a w := by
  have hcls : ∀ wb, (fun w' => ∃ p : GW wb, w' = p.w) = Grew wb := fun wb => funext fun w' => propext ⟨fun ⟨p, h⟩ => h ▸ p.grew, fun h => ⟨⟨w', h⟩, rfl⟩⟩
  refine region_of_hq m hm hB (HQ.of_quiet _ _ _ (pick_ix l m 0 (fun j => by simp)) fun wb hb => ?_)
  have := h wb ⟨hb.os, hb.tape, hb.output, hb.size, hb.block⟩
  rw [hcls] at this
  exact this
/-- .. where nothing makes memory that is wanted, and nothing writes. -/
theorem wp_region_grow {id : Nat} {Q : Exit → Act → World → Prop} {a : Act} {w : World} {l : List Oper} (hm : P.follows .mixedOrders = true) (hB : Region.lexB .any l.toArray = true)
    (h : Nonempty (GW w) → wpQuiet P l.toArray (fun w' => ∃ p : GW w, w' = p.w) (fun a' => ∀ w', Grew w w' → Q .normal a' w') l a) : (Code.region id l.toArray true).wp P Q a w := by
  have hcls : (fun w' => ∃ p : GW w, w' = p.w) = Grew w := funext fun w' => propext ⟨fun ⟨p, h⟩ => h ▸ p.grew, fun h => ⟨⟨w', h⟩, rfl⟩⟩
  have h2 := h ⟨⟨w, Grew.refl _⟩⟩
  rw [hcls] at h2
  exact wp_region_quiet (C := Grew w) hm hB ⟨rfl, rfl, rfl, Nat.le_refl _, fun _ _ => rfl⟩ (by simpa using h2)
/-- The chain's steps, by the walk's own laws. -/
theorem wpChain_last {c : Nat} {o : Oper} {a : Act} {w : World} (ho : ops[c]? = some o) (h : wpList P ops (fun e a' w' => e = .normal ∧ K a' w') [o] a w) : wpChain T P ops K [c] a w := by
  unfold wpChain
  exact wpOp_of_list ho h
theorem wpChain_next {c c' : Nat} {rest : List Nat} {o : Oper} {a : Act} {w : World} (ho : ops[c]? = some o) (h : wpList P ops (fun e a' w' => e = .normal ∧ Grew w w' ∧ ∀ w'', Grew w' w'' → wpChain relG P ops K (c' :: rest) a' w'') [o] a w) : wpChain relG P ops K (c :: c' :: rest) a w := by
  unfold wpChain
  exact wpOp_of_list ho h

/-! ### .. where those that only read call nothing: the chain may turn whatever they do not read -/
def plainOp (o : Oper) : Bool := match o.op with
  | .move _ | .assign _ | .pick _ _ _ | .load _ _ | .binOp _ _ _ _ _ | .unOp _ _ _ | .convert _ _ _ | .fieldAddr _ _ _ | .field _ _ _ | .indexAddr _ _ _ | .index _ _ _ | .extract _ _ | .slice _ _ _ _ _ | .build _ _ | .nilCheck _ => true
  | .call { callee := .builtin .len, .. } | .call { callee := .builtin .cap, .. } | .call { callee := .builtin .min, .. } | .call { callee := .builtin .max, .. } => true
  | _ => false
theorem value_only {P : Program} {s : Sem Value} {w w' : World} {n : Next} (h : (do pure (Next.value (← s)) : Sem Next).run P w = .ok n w') : ∃ v, n = .value v := by
  rw [Sem.run_bind] at h
  cases hs : s.run P w with
  | ok v w1 =>
    rw [hs] at h
    simp only [Result.andThen_ok, Sem.run_pure] at h
    injection h with h _
    exact ⟨v, h.symm⟩
  | halt x w1 => rw [hs] at h; cases h
theorem value_then {r : Result Value} {w' : World} {n : Next} {f : Value → Value} (h : (r.andThen fun a w' => Result.ok (Next.value (f a)) w') = .ok n w') : ∃ v, n = .value v := by
  cases r with
  | ok v w1 => simp only [Result.andThen_ok] at h; injection h with h _; exact ⟨_, h.symm⟩
  | halt x w1 => cases h
theorem plain_value {P : Program} {ρ : Operand → Value} {o : Oper} (hp : plainOp o = true) {w w' : World} {n : Next} (h : (execOp ρ o).run P w = .ok n w') : ∃ v, n = .value v := by
  obtain ⟨dst, op, ty, pos, after, guard⟩ := o
  cases op
  case call c =>
    obtain ⟨callee, args, argTypes⟩ := c
    cases callee
    case builtin b =>
      cases b
      case len | cap | min | max =>
        unfold execOp at h
        simp only [resolve, invoke, builtin, Sem.run_bind, Sem.run_pure, Result.andThen_ok] at h
        exact value_then (f := id) h
      all_goals cases hp
    all_goals cases hp
  case nilCheck x =>
    unfold execOp at h
    simp only at h
    split at h
    case h_4 =>
      split at h
      case h_2 =>
        simp only [Sem.run_bind] at h
        cases hp1 : (program : Sem Program).run P w with
        | halt z w1 => rw [hp1] at h; cases h
        | ok p w1 =>
          rw [hp1] at h
          simp only [Result.andThen_ok] at h
          generalize (nilAhead _ _ _ _).run P w1 = r at h
          cases r with
          | halt z w2 => cases h
          | ok b w2 =>
            simp only [Result.andThen_ok] at h
            split at h
            · simp [go_sem] at h
            · simp only [Sem.run_pure] at h; injection h with h _; exact ⟨_, h.symm⟩
      all_goals first
        | (simp only [Sem.run_pure] at h; injection h with h _; exact ⟨_, h.symm⟩)
        | (simp [go_sem] at h; done)
    all_goals first
      | (simp only [Sem.run_pure] at h; injection h with h _; exact ⟨_, h.symm⟩)
      | (simp [go_sem] at h; done)
  case pick c x y =>
    unfold execOp at h
    simp only [Sem.run_bind] at h
    cases hb : (asBool (ρ c)).run P w with
    | ok b w1 => rw [hb] at h; simp only [Result.andThen_ok, Sem.run_pure] at h; injection h with h _; exact ⟨_, h.symm⟩
    | halt z w1 => rw [hb] at h; cases h
  case move x => simp only [execOp, Sem.run_pure] at h; injection h with h _; exact ⟨_, h.symm⟩
  case assign x => simp only [execOp, Sem.run_pure] at h; injection h with h _; exact ⟨_, h.symm⟩
  all_goals first
    | (exfalso; revert hp; simp [plainOp]; done)
    | exact value_only h
def relP (w0 : World) (N : List As) : Rel := ⟨fun w w' => St w0 N w → St w0 N w', Eq, fun _ => rfl, fun h => by subst h; exact id, fun h k hs => k (h hs), fun h k => h.trans k⟩
theorem plain_eq {w0 w : World} {N : List As} {o : Oper} {a : Act} {v : Value} (hp : plainOp o = true) (hs : St w0 N w) (h : ∀ w, St w0 N w → o.quietAt P a (fun w' => St w0 N w') w v) : o.quietAt P a (Eq w) w v := by
  have h1 := h w hs
  unfold Oper.quietAt at *
  cases hr : (execOp a.eval o).run P w with
  | ok n w' =>
    obtain ⟨u, rfl⟩ := plain_value hp hr
    rw [hr] at h1
    simp only [Oper.quietUpon] at h1 ⊢
    exact h1
  | halt x w' => rw [hr] at h1; simp only [Oper.quietUpon] at h1
theorem HQ.of_plain {cl : List Nat} {w0 w1 : World} {N : List As} (hs : St w0 N w1) : ∀ (l : List Oper) (ql : List Nat) (a : Act), l.map some = ql.map (ops[·]?) → l.all plainOp = true →
    wpQuiet P ops (fun w' => St w0 N w') (fun a' => wpChain (relP w0 N) P ops K cl a' w1) l a → HQ (relP w0 N) P ops K cl ql a w1
  | [], [], _, _, _, h => fun w hw => by have hw : w1 = w := hw; subst hw; exact h
  | [], _ :: _, _, e, _, _ => by simp at e
  | _ :: _, [], _, e, _, _ => by simp at e
  | o :: l, q :: ql, a, e, hp, h => by
    simp only [List.map_cons, List.cons.injEq] at e
    simp only [List.all_cons, Bool.and_eq_true] at hp
    unfold wpQuiet at h
    by_cases hw : Region.wanted o (yielded ops a.tmps) = true
    · rw [if_pos hw] at h
      obtain ⟨v, h1, h2⟩ := h
      exact ⟨o, v, e.1.symm, .inl ⟨hw, fun w hw => plain_eq hp.1 (hw hs) h1⟩, HQ.of_plain hs l ql _ e.2 hp.2 h2⟩
    · rw [if_neg hw] at h
      exact ⟨o, undef, e.1.symm, .inr ⟨by simpa using hw, rfl⟩, HQ.of_plain hs l ql _ e.2 hp.2 h⟩
/-- **A region that draws its order, whose operations that only read call nothing:** what they read is of N; the chain's operations keep N and turn what they like, the last of them N too. -/
theorem wp_region_plain {id : Nat} {Q : Exit → Act → World → Prop} {a : Act} {w w0 : World} {N : List As} {l : List Oper} (m : List Bool) (hs : St w0 N w) (hm : P.follows .mixedOrders = true) (hB : (chainB l.toArray (pickIx 0 l m) (chainIx 0 m) && (pickOps l m).all plainOp) = true)
    (h : Nonempty (StN w0 N) → wpQuiet P l.toArray (fun w' => ∃ p : StN w0 N, w' = p.w) (fun a' => wpChain (relP w0 N) P l.toArray (fun a' w' => Q .normal a' w') (chainIx 0 m) a' w.drew) (pickOps l m) a) : (Code.region id l.toArray true).wp P Q a w := by
  rw [Bool.and_eq_true] at hB
  have hcls : (fun w' => ∃ p : StN w0 N, w' = p.w) = fun w' => St w0 N w' := funext fun w' => propext ⟨fun ⟨p, h⟩ => h ▸ p.st, fun h => ⟨⟨w', h⟩, rfl⟩⟩
  have h2 := h ⟨⟨_, hs⟩⟩
  rw [hcls] at h2
  exact region_of_hq m hm hB.1 (HQ.of_plain hs.drew _ _ _ (pick_ix l m 0 (fun j => by simp)) hB.2 h2)
theorem wpChainP_next {w0 : World} {N : List As} {c c' : Nat} {rest : List Nat} {o : Oper} {a : Act} {w : World} (ho : ops[c]? = some o) (h : wpList P ops (fun e a' w' => e = .normal ∧ St w0 N w' ∧ wpChain (relP w0 N) P ops K (c' :: rest) a' w') [o] a w) : wpChain (relP w0 N) P ops K (c :: c' :: rest) a w := by
  unfold wpChain
  exact wpOp_of_list ho (wpList_post (fun a' w' ⟨h1, h2⟩ => ⟨fun _ => h1, fun w'' hw => by have hw : w' = w'' := hw; subst hw; exact h2⟩) h)
end
end Go.Proofs.YtcnbmfaicbkhcaaGreatDoor

/-
  A region that draws its order, walked once for each order of its operations that do not only read.
-/
set_option maxRecDepth 100000
namespace Go.Proofs.YtcnbmfaicbkhcaaGreatDoor
open Go Go.RowKit
section
variable {P : Program} {ops : Array Oper} {T : Rel} {K : Act → World → Prop}

/-- Of those that are left, the ones that wait for none that is left. -/
def choices (ops : Array Oper) (cl : List Nat) : List Nat := cl.filter fun c => cl.all fun d => !waits ops c d
/-- Those that do not only read, in any order that there may be; the last one of all does as it likes. -/
def wpAll (T : Rel) (P : Program) (ops : Array Oper) (K : Act → World → Prop) : Nat → List Nat → Act → World → Prop
  | 0, _, a, w => K a w
  | 1, cl, a, w => ∀ c ∈ choices ops cl, wpOp P ops noExit c K a w
  | n + 2, cl, a, w => ∀ c ∈ choices ops cl, wpOp P ops noExit c (fun a' w' => T.R w w' ∧ ∀ w'', T.E w' w'' → wpAll T P ops K (n + 1) (cl.erase c) a' w'') a w
/-- What is left: those that only read, then C. -/
def HA (T : Rel) (P : Program) (ops : Array Oper) (C : Act → World → Prop) : List Nat → Act → World → Prop
  | [], a, w1 => ∀ w, T.E w1 w → C a w
  | q :: ql, a, w1 => ∃ o v, ops[q]? = some o ∧ YR T P ops o v a w1 ∧ HA T P ops C ql (a.put o.dst v) w1
theorem HA.mono {C : Act → World → Prop} : ∀ {ql : List Nat} {a : Act} {w1 w2 : World}, T.E w1 w2 → HA T P ops C ql a w1 → HA T P ops C ql a w2
  | [], _, _, _, hg, h => fun w hw => h w (T.etrans hg hw)
  | _ :: _, _, _, _, hg, ⟨o, v, ho, hy, h⟩ => ⟨o, v, ho, hy.mono (T.sub hg), h.mono hg⟩
theorem HA.chain (hsel : ∀ (j : Nat) (o : Oper) cs b, ops[j]? = some o → o.op ≠ .select cs b) {c : Nat} {oc : Oper} (hc : ops[c]? = some oc) {C D : Act → World → Prop} (hCD : ∀ a w, C a w → wpOp P ops noExit c (fun a' w' => T.R w w' ∧ ∀ w'', T.E w' w'' → D a' w'') a w) :
    ∀ {ql : List Nat} {a : Act} {w1 w : World}, (∀ q ∈ ql, ∀ oq, ops[q]? = some oq → oq.apart ops oc = true) → HA T P ops C ql a w1 → T.E w1 w →
      wpOp P ops noExit c (fun a' w' => T.R w w' ∧ HA T P ops D ql a' w') a w
  | [], _, _, w, _, h, hg => hCD _ _ (h w hg)
  | q :: ql, a, w1, w, hap, ⟨o, v, ho, hy, h⟩, hg => by
    have h2 := HA.chain hsel hc hCD (fun q hq => hap q (List.mem_cons_of_mem _ hq)) h hg
    exact wpOp_mono (fun a' w' ⟨h3, h4, h5⟩ => ⟨h4, o, v, ho, h3.mono (T.trans (T.sub hg) h4), h5⟩) (wpOp_put hc (hap q (by simp) o ho) (fun cs b => hsel q o cs b ho) (fun cs b => hsel c oc cs b hc) hy h2)
theorem HA.take (hsel : ∀ (j : Nat) (o : Oper) cs b, ops[j]? = some o → o.op ≠ .select cs b) {C : Act → World → Prop} {l2 : List Nat} {q : Nat} {oq : Oper} (hq : ops[q]? = some oq) :
    ∀ {l1 : List Nat} {a : Act} {w1 : World}, (∀ p ∈ l1, ∀ op, ops[p]? = some op → op.apart ops oq = true) → HA T P ops C (l1 ++ q :: l2) a w1 →
      ∃ v, YR T P ops oq v a w1 ∧ HA T P ops C (l1 ++ l2) (a.put oq.dst v) w1
  | [], _, _, _, ⟨o, v, ho, hy, h⟩ => by
    rw [hq] at ho
    injection ho with ho
    subst ho
    exact ⟨v, hy, h⟩
  | p :: l1, a, w1, hap, ⟨o, u, ho, hy, h⟩ => by
    obtain ⟨v, hv, h2⟩ := HA.take hsel hq (fun p hp => hap p (List.mem_cons_of_mem _ hp)) h
    obtain ⟨k1, k2, k3⟩ := Oper.apart_spec (hap p (by simp) o ho)
    refine ⟨v, hv.same (execOp_put oq (fun cs b => hsel q oq cs b hq) a o.dst u k1).symm (wanted_put oq a o.dst u k1).symm, o, u, ho, hy.same (execOp_put o (fun cs b => hsel p o cs b ho) a oq.dst v k3) (wanted_put o a oq.dst v k3), ?_⟩
    rw [← Act.put_comm a u v k2]
    exact h2
/-- Where the walk stands. -/
structure InvA (ops : Array Oper) (ql cl ql0 cl0 : List Nat) (listed : Array Bool) : Prop where
  size : listed.size = ops.size
  left : ∀ i, i < ops.size → (listed.getD i true = false ↔ i ∈ ql ∨ i ∈ cl)
  inq : ∀ i ∈ ql, i ∈ ql0 ∧ i < ops.size
  inc : ∀ i ∈ cl, i ∈ cl0 ∧ i < ops.size
  sq : ql.Pairwise (· < ·)
  dis : ∀ i ∈ ql, i ∉ cl
  nodup : cl.Nodup
  last : cl ≠ [] → ops.size - 1 ∈ cl
  shut : ∀ j o, ops[j]? = some o → listed.getD j true = true → ∀ e ∈ o.after, Region.binds .any e = true → listed.getD e.on false = true
theorem InvA.step {ql cl ql0 cl0 ql' cl' : List Nat} {listed : Array Bool} {i : Nat} (h : InvA ops ql cl ql0 cl0 listed) (hi : i ∈ Region.ready .any ops listed)
    (hmem : ∀ j, (j ∈ ql' ∨ j ∈ cl') ↔ (j ∈ ql ∨ j ∈ cl) ∧ j ≠ i) (hq : ql'.Sublist ql) (hc : cl'.Sublist cl) (hl : cl' ≠ [] → ops.size - 1 ∈ cl') : InvA ops ql' cl' ql0 cl0 (listed.setIfInBounds i true) where
  size := by simpa using h.size
  left j hj := by
    rw [hmem j, ← h.left j hj]
    by_cases e : i = j
    · subst e; simp [h.size, hj]
    · rw [getD_set_ne true e]; simp [Ne.symm e]
  inq j hj := h.inq j (hq.subset hj)
  inc j hj := h.inc j (hc.subset hj)
  sq := h.sq.sublist hq
  dis j hj hj2 := h.dis j (hq.subset hj) (hc.subset hj2)
  nodup := h.nodup.sublist hc
  last := hl
  shut j o ho hj e he hb := by
    by_cases hji : i = j
    · subst hji
      obtain ⟨_, o', ho', hall⟩ := mem_ready.1 hi
      rw [ho] at ho'
      injection ho' with ho'
      subst ho'
      exact getD_set_true (hall e he hb)
    · rw [getD_set_ne true hji] at hj
      exact getD_set_true (h.shut j o ho hj e he hb)
theorem mainA {ql0 cl0 : List Nat} (hsel : ∀ (j : Nat) (o : Oper) cs b, ops[j]? = some o → o.op ≠ .select cs b)
    (hdown : ∀ i o, ops[i]? = some o → ∀ e ∈ o.after, Region.binds .any e = true → e.on < i)
    (hfree : ∀ q ∈ ql0, ∀ j, j < ops.size → j ≠ q → ¬ (j ∈ ql0 ∧ j < q) → waits ops j q = true ∨ apartB ops q j = true) (hcq : ∀ i ∈ cl0, i ∉ ql0)
    (hlast : cl0 ≠ [] → ∀ q, q < ops.size - 1 → ∃ j, q < j ∧ j < ops.size ∧ waits ops j q = true) :
    ∀ (fuel : Nat) (ql cl : List Nat) (listed : Array Bool) (a : Act) (w : World), InvA ops ql cl ql0 cl0 listed → ql.length + cl.length ≤ fuel → HA T P ops (wpAll T P ops K cl.length cl) ql a w → wpAny P .any ops (fun e a w => e = .normal ∧ K a w) fuel listed a w := by
  have done : ∀ (ql cl : List Nat) (listed : Array Bool) (a : Act) (w : World), InvA ops ql cl ql0 cl0 listed → HA T P ops (wpAll T P ops K cl.length cl) ql a w → Region.ready .any ops listed = [] → K a w := by
    intro ql cl listed a w hv h hr
    have hall : ∀ n i, i < n → i < ops.size → listed.getD i true = true := by
      intro n
      induction n with
      | zero => intro i hi; omega
      | succ n ih =>
        intro i hi hlt
        refine Classical.byContradiction fun hno => ?_
        have hno : listed.getD i true = false := by simpa using hno
        have : i ∈ Region.ready .any ops listed := mem_ready.2 ⟨hno, ops[i], Array.getElem?_eq_getElem hlt, fun e he hb => by
          have h1 := hdown i _ (Array.getElem?_eq_getElem hlt) e he hb
          have h2 := ih e.on (by omega) (by omega)
          rwa [getD_flip (by rw [hv.size]; omega)] at h2⟩
        rw [hr] at this
        cases this
    have hq : ql = [] := by
      cases ql with
      | nil => rfl
      | cons q ql =>
        have h1 := hv.inq q (by simp)
        have h2 := (hv.left q h1.2).2 (.inl (by simp))
        rw [hall _ q (Nat.lt_succ_self q) h1.2] at h2
        cases h2
    have hc : cl = [] := by
      cases cl with
      | nil => rfl
      | cons q ql =>
        have h1 := hv.inc q (by simp)
        have h2 := (hv.left q h1.2).2 (.inr (by simp))
        rw [hall _ q (Nat.lt_succ_self q) h1.2] at h2
        cases h2
    subst hq; subst hc
    exact h w (T.refl _)
  have fin : ∀ (fuel : Nat) (listed : Array Bool) (a : Act) (w : World), InvA ops [] [] ql0 cl0 listed → K a w → wpAny P .any ops (fun e a w => e = .normal ∧ K a w) fuel listed a w := by
    intro fuel listed a w hv hk
    have hr : Region.ready .any ops listed = [] := by
      cases hr : Region.ready .any ops listed with
      | nil => rfl
      | cons i l =>
        have hi : i ∈ Region.ready .any ops listed := by rw [hr]; simp
        obtain ⟨hun, o, ho, _⟩ := mem_ready.1 hi
        rcases (hv.left i (Array.getElem?_eq_some_iff.1 ho).1).1 hun with h | h <;> cases h
    cases fuel with
    | zero => exact ⟨hr, rfl, hk⟩
    | succ fuel => exact ⟨fun _ => ⟨rfl, hk⟩, fun i hi => by rw [hr] at hi; cases hi⟩
  intro fuel
  induction fuel with
  | zero =>
    intro ql cl listed a w hv hf h
    have h1 : ql = [] := List.eq_nil_of_length_eq_zero (by omega)
    have h2 : cl = [] := List.eq_nil_of_length_eq_zero (by omega)
    subst h1; subst h2
    have hr : Region.ready .any ops listed = [] := by
      cases hr : Region.ready .any ops listed with
      | nil => rfl
      | cons i l =>
        have hi : i ∈ Region.ready .any ops listed := by rw [hr]; simp
        obtain ⟨hun, o, ho, _⟩ := mem_ready.1 hi
        rcases (hv.left i (Array.getElem?_eq_some_iff.1 ho).1).1 hun with h | h <;> cases h
    exact ⟨hr, rfl, done _ _ _ _ _ hv h hr⟩
  | succ fuel ih =>
    intro ql cl listed a w hv hf h
    refine ⟨fun hr => ⟨rfl, done _ _ _ _ _ hv h hr⟩, fun i hi => ?_⟩
    obtain ⟨hun, oi, hoi, hall⟩ := mem_ready.1 hi
    have hlt : i < ops.size := (Array.getElem?_eq_some_iff.1 hoi).1
    have hunl : ∀ j, (j ∈ ql ∨ j ∈ cl) → listed.getD j false = false := fun j hj => by
      have hj2 : j < ops.size := hj.elim (fun h => (hv.inq j h).2) (fun h => (hv.inc j h).2)
      rw [← getD_flip (by rw [hv.size]; exact hj2)]
      exact (hv.left j hj2).2 hj
    have hnw : ∀ j, (j ∈ ql ∨ j ∈ cl) → waits ops i j = false := fun j hj => by
      cases hw : waits ops i j with
      | false => rfl
      | true => have := waits_ready hw hi; rw [hunl j hj] at this; cases this
    rcases (hv.left i hlt).1 hun with hq | hc
    · obtain ⟨l1, l2, rfl⟩ := List.append_of_mem hq
      have hsq := hv.sq
      rw [List.pairwise_append] at hsq
      have hap : ∀ p ∈ l1, ∀ op, ops[p]? = some op → op.apart ops oi = true := fun p hp op hop => by
        have h1 : p < i := hsq.2.2 p hp i (by simp)
        have h2 := hv.inq p (by simp [hp])
        rcases hfree p h2.1 i hlt (by omega) (by omega) with h3 | h3
        · rw [hnw p (.inl (by simp [hp]))] at h3; cases h3
        · exact apartB_spec hop hoi h3
      obtain ⟨v, hy, h2⟩ := HA.take hsel hoi hap h
      have hni1 : i ∉ l1 := fun hm => by have := hsq.2.2 i hm i (by simp); omega
      have hni2 : i ∉ l2 := fun hm => by have := (List.pairwise_cons.1 hsq.2.1).1 i hm; omega
      have hv2 : InvA ops (l1 ++ l2) cl ql0 cl0 (listed.setIfInBounds i true) := hv.step hi (fun j => by
          have hnc : i ∉ cl := hv.dis i hq
          simp only [List.mem_append, List.mem_cons]
          constructor
          · rintro ((h | h) | h)
            · exact ⟨.inl (.inl h), fun e => hni1 (e ▸ h)⟩
            · exact ⟨.inl (.inr (.inr h)), fun e => hni2 (e ▸ h)⟩
            · exact ⟨.inr h, fun e => hnc (e ▸ h)⟩
          · rintro ⟨(h | h | h) | h, hne⟩
            · exact .inl (.inl h)
            · exact absurd h hne
            · exact .inl (.inr h)
            · exact .inr h)
        (List.Sublist.append_left (List.sublist_cons_self i l2) l1) (List.Sublist.refl _) hv.last
      have hf2 : (l1 ++ l2).length + cl.length ≤ fuel := by simp at hf ⊢; omega
      unfold wpOp
      rw [hoi]
      simp only
      rcases hy with ⟨hw, hy⟩ | ⟨hw, rfl⟩
      · rw [if_pos hw]
        refine .inl ?_
        have h3 := hy w (T.sub (T.refl _))
        unfold Oper.quietAt at h3
        unfold Oper.wp
        generalize (execOp a.eval oi).run P w = r at *
        cases r with
        | ok n w' =>
          cases n <;> simp only [Oper.quietUpon] at h3 <;> simp only [Oper.upon]
          case value u =>
            obtain ⟨e1, e2⟩ := h3
            rw [e1, e2]
            exact ih _ _ _ _ _ hv2 hf2 h2
          case skip =>
            obtain ⟨e1, e2⟩ := h3
            rw [e1, ← e2]
            exact ih _ _ _ _ _ hv2 hf2 h2
          case enter f args =>
            obtain ⟨e1, hcl⟩ := h3
            rw [e1]
            exact hcl.mono fun e w'' ⟨he, hw''⟩ => by subst he; exact ih _ _ _ _ _ hv2 hf2 (h2.mono hw'')
        | halt x w' => simp only [Oper.quietUpon] at h3
      · rw [if_neg (by rw [hw]; exact Bool.false_ne_true)]
        exact ih _ _ _ _ _ hv2 hf2 h2
    · have hap : ∀ q ∈ ql, ∀ oq, ops[q]? = some oq → oq.apart ops oi = true := fun q hq2 oq hoq => by
        have h2 := hv.inq q hq2
        have hne : i ≠ q := fun e => hv.dis q hq2 (e ▸ hc)
        rcases hfree q h2.1 i hlt hne (fun h => hcq i (hv.inc i hc).1 h.1) with h3 | h3
        · rw [hnw q (.inl hq2)] at h3; cases h3
        · exact apartB_spec hoq hoi h3
      have hch : i ∈ choices ops cl := List.mem_filter.2 ⟨hc, by
        rw [List.all_eq_true]
        intro d hd
        rw [hnw d (.inr hd)]
        rfl⟩
      have hcl0 : cl0 ≠ [] := fun e => by have := (hv.inc i hc).1; rw [e] at this; cases this
      have hallb : i = ops.size - 1 → ∀ k q, q + k = ops.size - 1 → 0 < k → listed.getD q false = true := by
        intro hce k
        induction k using Nat.strongRecOn with
        | ind k ihk =>
          intro q hq0 hk
          obtain ⟨j, hj1, hj2, hj3⟩ := hlast hcl0 q (by omega)
          by_cases hjc : j = i
          · subst hjc; exact waits_ready hj3 hi
          · have h5 := ihk (ops.size - 1 - j) (by omega) j (by omega) (by omega)
            obtain ⟨o, e, ho, he, hb, rfl⟩ := waits_spec hj3
            rw [← getD_flip (by rw [hv.size]; exact hj2)] at h5
            exact hv.shut j o ho h5 e he hb
      have honly : i = ops.size - 1 → ql = [] ∧ ∀ j ∈ cl, j = i := fun hce => by
        refine ⟨?_, fun j hj => Classical.byContradiction fun hne => ?_⟩
        · cases ql with
          | nil => rfl
          | cons q ql =>
            have h1 := hv.inq q (by simp)
            have h3 := hunl q (.inl (by simp))
            have hne : q ≠ i := fun e => hv.dis q (by simp) (e ▸ hc)
            rw [hallb hce (ops.size - 1 - q) q (by omega) (by omega)] at h3
            cases h3
        · have h1 := hv.inc j hj
          have h3 := hunl j (.inr hj)
          rw [hallb hce (ops.size - 1 - j) j (by omega) (by omega)] at h3
          cases h3
      have hlen : (cl.erase i).length = cl.length - 1 := List.length_erase_of_mem hc
      have hpos : 0 < cl.length := List.length_pos_of_mem hc
      have hmemE : ∀ j, (j ∈ ql ∨ j ∈ cl.erase i) ↔ (j ∈ ql ∨ j ∈ cl) ∧ j ≠ i := fun j => by
        rw [hv.nodup.mem_erase_iff]
        constructor
        · rintro (h | ⟨h1, h2⟩)
          · exact ⟨.inl h, fun e => hv.dis j h (e ▸ hc)⟩
          · exact ⟨.inr h2, h1⟩
        · rintro ⟨h | h, hne⟩
          · exact .inl h
          · exact .inr ⟨hne, h⟩
      have hlastE : cl.erase i ≠ [] → ops.size - 1 ∈ cl.erase i := fun hne => by
        have h1 := hv.last (fun e => by rw [e] at hc; cases hc)
        rw [hv.nodup.mem_erase_iff]
        refine ⟨fun e => hne ?_, h1⟩
        have h2 := (honly e.symm).2
        apply List.eq_nil_of_length_eq_zero
        rw [hlen]
        have hnd := hv.nodup
        match cl, hc, h2, hnd with
        | [x], _, _, _ => rfl
        | x :: y :: t, _, h2, hnd =>
          have e1 := h2 x (by simp)
          have e2 := h2 y (by simp)
          subst e1
          exact absurd (by simp [e2]) (List.nodup_cons.1 hnd).1
      have hv2 : InvA ops ql (cl.erase i) ql0 cl0 (listed.setIfInBounds i true) := hv.step hi hmemE (List.Sublist.refl _) List.erase_sublist hlastE
      rcases Nat.lt_or_ge 1 cl.length with h1 | h1
      · obtain ⟨n, hn⟩ : ∃ n, cl.length = n + 2 := ⟨cl.length - 2, by omega⟩
        have hnE : (cl.erase i).length = n + 1 := by omega
        have hf2 : ql.length + (cl.erase i).length ≤ fuel := by omega
        rw [hn] at h
        refine wpOp_free (wpOp_mono (fun a' w' ⟨_, h3⟩ => ih _ _ _ _ _ hv2 hf2 (by rw [hnE]; exact h3)) (HA.chain hsel hoi (D := wpAll T P ops K (n + 1) (cl.erase i)) (fun a w hC => ?_) hap h (T.refl _)))
        exact hC i hch
      · have hn : cl.length = 1 := by omega
        have hil : i = ops.size - 1 := by
          have h2 := hv.last (fun e => by rw [e] at hc; cases hc)
          match cl, hn, hc, h2 with
          | [x], _, hc, h2 => simp at hc h2; omega
        have hq := (honly hil).1
        subst hq
        have hE : cl.erase i = [] := List.eq_nil_of_length_eq_zero (by omega)
        rw [hn] at h
        have h3 : wpOp P ops noExit i K a w := h w (T.refl _) i hch
        rw [hE] at hv2
        exact wpOp_free (wpOp_mono (fun a' w' hk => fin fuel _ a' w' hv2 hk) h3)
/-- What the theorem asks of a region: those that only read 'ql', the others 'cl'. -/
def allB (ops : Array Oper) (ql cl : List Nat) : Bool :=
  Region.noSelect ops && (ql ++ cl).all (fun i => decide (i < ops.size)) && (List.range ops.size).all (fun i => (ql ++ cl).contains i) && decide ((ql ++ cl).length = ops.size) && decide ((ql ++ cl).Pairwise (· ≠ ·)) &&
  (List.range ops.size).all (fun i => ((ops[i]?).map fun o => o.after.all fun e => !Region.binds .any e || decide (e.on < i)).getD true) &&
  ql.all (fun q => (List.range ops.size).all fun j => j == q || (ql.contains j && decide (j < q)) || waits ops j q || apartB ops q j) &&
  (cl.isEmpty || (cl.contains (ops.size - 1) && (List.range (ops.size - 1)).all fun q => (List.range ops.size).any fun j => decide (q < j) && waits ops j q))
theorem region_of_ha {id : Nat} {Q : Exit → Act → World → Prop} {a : Act} {w : World} {l : List Oper} (m : List Bool) (hm : P.follows .mixedOrders = true) (hB : allB l.toArray (pickIx 0 l m) (chainIx 0 m) = true)
    (h : HA T P l.toArray (wpAll T P l.toArray (fun a w => Q .normal a w) (chainIx 0 m).length (chainIx 0 m)) (pickIx 0 l m) a w.drew) : (Code.region id l.toArray true).wp P Q a w := by
  simp only [allB, Bool.and_eq_true, List.all_eq_true, List.mem_range, decide_eq_true_eq, Bool.or_eq_true, beq_iff_eq] at hB
  obtain ⟨⟨⟨⟨⟨⟨⟨hs, hin⟩, hall⟩, hlen⟩, hnd⟩, hdown⟩, hfree⟩, hlast⟩ := hB
  have hsel := Region.noSelect_spec hs
  have hnd : (pickIx 0 l m ++ chainIx 0 m).Nodup := hnd
  rw [List.nodup_append] at hnd
  refine wp_region_any hm (any_mono (Q := fun e a w => e = .normal ∧ Q .normal a w) (fun e a w h => by obtain ⟨rfl, h⟩ := h; exact h) (fun ⟨a, w, h, _⟩ => by cases h) _ _ _ _ ?_)
  refine mainA (K := fun a w => Q .normal a w) (ql0 := pickIx 0 l m) (cl0 := chainIx 0 m) hsel ?_ ?_ (fun i hi hi2 => hnd.2.2 i hi2 i hi rfl) ?_ _ _ _ _ _ _ ⟨by simp, ?_, ?_, ?_, ?_, ?_, hnd.2.1, ?_, ?_⟩ (by rw [← hlen]; simp) h
  · intro i o ho e he hb
    have h1 := hdown i (Array.getElem?_eq_some_iff.1 ho).1
    rw [ho] at h1
    simp only [Option.map_some, Option.getD_some, Array.all_eq_true_iff_forall_mem] at h1
    have h2 := h1 e he
    rw [hb] at h2
    simpa using h2
  · intro q hq j hj hne hno
    rcases hfree q hq j hj with ((h1 | h1) | h1) | h1
    · exact absurd h1 hne
    · exact absurd ⟨List.mem_of_elem_eq_true h1.1, h1.2⟩ hno
    · exact .inl h1
    · exact .inr h1
  · intro hne q hq
    rcases hlast with h1 | h1
    · exact absurd (List.isEmpty_iff.1 h1) hne
    · have h2 := h1.2 q hq
      simp only [List.any_eq_true, List.mem_range, Bool.and_eq_true, decide_eq_true_eq] at h2
      obtain ⟨j, h3, h4, h5⟩ := h2
      exact ⟨j, h4, h3, h5⟩
  · intro i hi
    have := hall i hi
    have := List.mem_of_elem_eq_true this
    simp only [List.mem_append] at this
    simp at hi
    simp [hi, this]
  · intro i hi; exact ⟨hi, hin i (List.mem_append_left _ hi)⟩
  · intro i hi; exact ⟨hi, hin i (List.mem_append_right _ hi)⟩
  · exact pickIx_sorted _ _ _
  · intro i hi hi2; exact hnd.2.2 i hi i hi2 rfl
  · intro hne
    rcases hlast with h1 | h1
    · exact absurd (List.isEmpty_iff.1 h1) hne
    · exact List.mem_of_elem_eq_true h1.1
  · intro j o ho hj
    have hlt := (Array.getElem?_eq_some_iff.1 ho).1
    have e : (Array.replicate l.toArray.size false).getD j true = false := by simp only [Array.getD, Array.size_replicate, hlt, dite_true]; simp
    rw [e] at hj
    cases hj
theorem HA.of_plain {C : Act → World → Prop} {w0 w1 : World} {N : List As} (hs : St w0 N w1) : ∀ (l : List Oper) (ql : List Nat) (a : Act), l.map some = ql.map (ops[·]?) → l.all plainOp = true →
    wpQuiet P ops (fun w' => St w0 N w') (fun a' => C a' w1) l a → HA (relP w0 N) P ops C ql a w1
  | [], [], _, _, _, h => fun w hw => by have hw : w1 = w := hw; subst hw; exact h
  | [], _ :: _, _, e, _, _ => by simp at e
  | _ :: _, [], _, e, _, _ => by simp at e
  | o :: l, q :: ql, a, e, hp, h => by
    simp only [List.map_cons, List.cons.injEq] at e
    simp only [List.all_cons, Bool.and_eq_true] at hp
    unfold wpQuiet at h
    by_cases hw : Region.wanted o (yielded ops a.tmps) = true
    · rw [if_pos hw] at h
      obtain ⟨v, h1, h2⟩ := h
      exact ⟨o, v, e.1.symm, .inl ⟨hw, fun w hw => plain_eq hp.1 (hw hs) h1⟩, HA.of_plain hs l ql _ e.2 hp.2 h2⟩
    · rw [if_neg hw] at h
      exact ⟨o, undef, e.1.symm, .inr ⟨by simpa using hw, rfl⟩, HA.of_plain hs l ql _ e.2 hp.2 h⟩
/-- **A region that draws its order**, whose operations that only read call nothing and read of N; the others keep N, and come in any order that there may be. -/
theorem wp_all_plain {id n : Nat} {Q : Exit → Act → World → Prop} {a : Act} {w w0 : World} {N : List As} {l : List Oper} (m : List Bool) (hs : St w0 N w) (hm : P.follows .mixedOrders = true) (hB : (allB l.toArray (pickIx 0 l m) (chainIx 0 m) && (pickOps l m).all plainOp) = true) (hn : (chainIx 0 m).length = n)
    (h : Nonempty (StN w0 N) → wpQuiet P l.toArray (fun w' => ∃ p : StN w0 N, w' = p.w) (fun a' => wpAll (relP w0 N) P l.toArray (fun a' w' => Q .normal a' w') n (chainIx 0 m) a' w.drew) (pickOps l m) a) : (Code.region id l.toArray true).wp P Q a w := by
  subst hn
  rw [Bool.and_eq_true] at hB
  have hcls : (fun w' => ∃ p : StN w0 N, w' = p.w) = fun w' => St w0 N w' := funext fun w' => propext ⟨fun ⟨p, h⟩ => h ▸ p.st, fun h => ⟨⟨w', h⟩, rfl⟩⟩
  have h2 := h ⟨⟨_, hs⟩⟩
  rw [hcls] at h2
  exact region_of_ha m hm hB.1 (HA.of_plain hs.drew _ _ _ (pick_ix l m 0 (fun j => by simp)) hB.2 h2)
theorem wpAllP_next {w0 : World} {N : List As} {n : Nat} {cl : List Nat} {a : Act} {w : World} (cs : List Nat) (hc : choices ops cl = cs)
    (h : ∀ c ∈ cs, ∃ o, ops[c]? = some o ∧ wpList P ops (fun e a' w' => e = .normal ∧ St w0 N w' ∧ wpAll (relP w0 N) P ops K (n + 1) (cl.erase c) a' w') [o] a w) : wpAll (relP w0 N) P ops K (n + 2) cl a w := by
  intro c hcm
  rw [hc] at hcm
  obtain ⟨o, ho, hl⟩ := h c hcm
  exact wpOp_of_list ho (wpList_post (fun a' w' ⟨h1, h2⟩ => ⟨fun _ => h1, fun w'' hw => by have hw : w' = w'' := hw; subst hw; exact h2⟩) hl)
theorem wpAll_last {cl : List Nat} {a : Act} {w : World} (cs : List Nat) (hc : choices ops cl = cs)
    (h : ∀ c ∈ cs, ∃ o, ops[c]? = some o ∧ wpList P ops (fun e a' w' => e = .normal ∧ K a' w') [o] a w) : wpAll T P ops K 1 cl a w := by
  intro c hcm
  rw [hc] at hcm
  obtain ⟨o, ho, hl⟩ := h c hcm
  exact wpOp_of_list ho hl
/-! ### .. where those that only read may call -/
theorem HA.of_quiet {C : Act → World → Prop} {w1 : World} : ∀ (l : List Oper) (ql : List Nat) (a : Act), l.map some = ql.map (ops[·]?) →
    (∀ wb, Grew w1 wb → wpQuiet P ops (Grew wb) (fun a' => ∀ w', Grew wb w' → C a' w') l a) → HA relG P ops C ql a w1
  | [], [], _, _, h => fun w hw => h w1 (Grew.refl _) w hw
  | [], _ :: _, _, e, _ => by simp at e
  | _ :: _, [], _, e, _ => by simp at e
  | o :: l, q :: ql, a, e, h => by
    simp only [List.map_cons, List.cons.injEq] at e
    by_cases hw : Region.wanted o (yielded ops a.tmps) = true
    · obtain ⟨v, h1, h2⟩ := quiet_uniform (K := fun wb => wpQuiet P ops (Grew wb) (fun a' => ∀ w', Grew wb w' → C a' w') l) (fun wb hb => by
        have := h wb hb
        unfold wpQuiet at this
        rwa [if_pos hw] at this)
      exact ⟨o, v, e.1.symm, .inl ⟨hw, h1⟩, HA.of_quiet l ql _ e.2 h2⟩
    · refine ⟨o, undef, e.1.symm, .inr ⟨by simpa using hw, rfl⟩, HA.of_quiet l ql _ e.2 fun wb hb => ?_⟩
      have := h wb hb
      unfold wpQuiet at this
      rwa [if_neg hw] at this
end
end Go.Proofs.YtcnbmfaicbkhcaaGreatDoor

/-
  From a contract that returns true over a row's arguments to the row's condition on what is left: nothing below the call's own memory was turned. No program's function stands here.
-/
namespace Go.Proofs.YtcnbmfaicbkhcaaGreatDoor
open Go Go.RowKit Go.ChangeShapes Go.WideShapes Go.ChangeAt

theorem trodAll_keep {H : Type} {enc : TypeId × Value → H} {P : Program} (hl : laidOutB P = true) {W W' : World} (hb : Below W.heap.size W W') {sp : Nat → Bool} :
    ∀ {ts : List TypeId} {vs : List Value} {ds : List (DataW H)} {ps : List MemPlace}, (∀ t ∈ ts, P.readableRec t = true ∧ t < P.types.size) → DataW.TrodAll enc P W 0 (fun _ => true) true ts vs ds ps →
      (∀ x ∈ ps, x.block < W.heap.size) → (∀ x ∈ ps, sp x.block = true) → DataW.TrodAll enc P W' 0 sp true ts vs ds ps
  | [], [], [], ps, _, h, _, _ => h
  | t :: ts, v :: vs, d :: ds, ps, hr, ⟨p, q, h1, h2, e⟩, hlt, hs => by
    subst e
    exact ⟨p, q, WideElems.Trod_stays hl (hr t (by simp)).1 (hr t (by simp)).2 h1 (fun x hx => hb.same (hlt x (by simp [hx]))) (fun x hx => hs x (by simp [hx])),
      trodAll_keep hl hb (fun t ht => hr t (by simp [ht])) h2 (fun x hx => hlt x (by simp [hx])) (fun x hx => hs x (by simp [hx])), rfl⟩
  | [], [], _ :: _, _, _, h, _, _ => h.elim
  | [], _ :: _, _, _, _, h, _, _ => by cases h
  | _ :: _, [], _, _, _, h, _, _ => by cases h
  | _ :: _, _ :: _, [], _, _, h, _, _ => by cases h

/-- THE ROW's LAST STEP: the law answered true; below the call's own memory nothing turned. -/
theorem law_post {H : Type} {enc : TypeId × Value → H} {P : Program} (hl : laidOutB P = true) {f : Func} {s : ChangeSpec} {apart : Bool} {W W' : World} {args : Array Value} {ds gs : List (DataW H)} {before : List MemPlace}
    (hW : DataW.Whole enc P f.params.toList s.vars apart W args.toList ds gs before) (hr : ∀ t ∈ f.params.toList, P.readableRec t = true ∧ t < P.types.size) (hv : s.vars = [])
    {bt : TypeId} (hrt : f.resultTypes = #[bt]) (hbt : P.underlying bt = some .bool) (hfn : s.fn H ds = { results := [.lit (.bool true)], args := ds, vars := [] }) (hb : Below W.heap.size W W') :
    s.post enc P f apart true false false W args (.bool true) W' := by
  have hlt : ∀ p ∈ before, p.block < W.heap.size := fun p hp => hW.lt p hp
  have hold : ∀ p ∈ before, (fun b => decide (b < W.heap.size)) p.block = true := fun p hp => by simpa using hlt p hp
  obtain ⟨p, q, hA, hV, rfl, hfz, hnd⟩ := id hW
  rw [hv] at hV
  obtain ⟨rfl, rfl⟩ := trodVars_none hV
  have hargs : ∀ sp : Nat → Bool, (∀ x ∈ p ++ [], sp x.block = true) → DataW.TrodAll enc P W' 0 sp true f.params.toList args.toList (s.fn H (ds ++ [])).args p := fun sp hsp => by
    rw [List.append_nil, hfn]
    exact trodAll_keep hl hb hr hA (fun x hx => hlt x (by simp [hx])) (fun x hx => hsp x (by simp [hx]))
  have hres : ∀ (b : Nat) (sp : Nat → Bool) (hd : Bool), DataW.TrodAll enc P W' b sp hd f.resultTypes.toList ((Value.bool true).resultList f.resultTypes.size) (s.fn H (ds ++ [])).results [] := fun b sp hd => by
    rw [List.append_nil, hfn, hrt]
    exact trodAll_cons_mk (shut_bool hbt _) trodAll_mk0
  have hvars : ∀ sp : Nat → Bool, (∀ x ∈ p ++ [], sp x.block = true) → DataW.TrodVars enc P W' sp s.vars (s.fn H (ds ++ [])).vars [] := fun sp _ => by
    rw [List.append_nil, hfn, hv]
    exact rfl
  refine ⟨ds, [], p ++ [], [], p, [], hW, hres _ _ _, hargs _ hold, hvars _ hold, World.keptBut_mono (fun x hx => ⟨hx, ?_⟩) (hb.frame (· ∈ p ++ [])), fun _ => ?_⟩
  · simpa using hx
  · refine ⟨fun j t r h1 h2 => ?_, _, _, ([] ++ p) ++ [], ⟨[] ++ p, [], trodAll_append (hargs _ (fun _ _ => rfl)) (hres _ _ _), hvars _ (fun _ _ => rfl), rfl, ?_, ?_⟩, ?_⟩
    · exact ok_one (by rw [hrt]) rfl (okWide_bool_mk hbt _) j t r h1 h2
    · intro b off hp
      have hin : MemPlace.cell b off ∈ p ++ [] := by simpa using hp
      rw [hb.frozen (hlt _ hin)]
      exact hfz b off hin
    · intro ha
      simpa using hnd ha
    · intro x hx _
      simpa using hx

/-- An argument that is a slice of ints: what stands in it. -/
def IntArg (w0 : World) (v : Value) (zs : List Int) : Prop := ∃ A len cap, v = .slice A len cap ∧ zs.length = len ∧ len ≤ cap ∧ cap ≤ maxLen ∧ RdS w0 [] A (zs.map (Value.int .i64)) ∧ ∀ z ∈ zs, -9223372036854775808 ≤ z ∧ z ≤ 9223372036854775807
theorem open_int_arg {H : Type} {enc : TypeId × Value → H} {P : Program} {w : World} {t e : TypeId} (ht : P.underlying t = some (.slice e)) (he : P.underlying e = some (.int .i64)) (hc : P.cellsOf e = 1) {v : Value} {d : DataW H} {ps : List MemPlace}
    (hv : ∃ A l c, v = .slice A l c) (h : DataW.Trod enc P w 0 (fun _ => true) true t v d ps) : ∃ zs, IntArg w v zs := by
  obtain ⟨fuel, hf⟩ := h
  obtain ⟨A, l, c, rfl⟩ := hv
  rcases open_ints ht he hc hf with ⟨hcs, _⟩ | ⟨a, len, cap, zs, hcs, _, hlc, hcm, hz, _, hcell, hw⟩
  · have e : Value.slice A l c = .slice none 0 0 := by simpa [Value.cells] using hcs
    exact ⟨[], none, 0, 0, e, rfl, Nat.le_refl _, by unfold maxLen; omega, RdS.nil, fun z hz => by cases hz⟩
  · have e : Value.slice A l c = .slice (some a) len cap := by simpa [Value.cells] using hcs
    refine ⟨zs.take len, some a, len, cap, e, by simp at hz; simp; omega, hlc, hcm, fun k u hu => ?_, fun z hz' => bounds_i64 (hw z (List.mem_of_mem_take hz'))⟩
    simp at hz
    have hk : k < len := by
      rcases Nat.lt_or_ge k len with h | h
      · exact h
      · rw [List.getElem?_eq_none (by simp; omega)] at hu; cases hu
    have hp := ints_at hcell (by omega)
    obtain ⟨b, o, rfl, hp2⟩ := hp
    rw [List.getElem?_map, List.getElem?_take, if_pos hk, List.getElem?_eq_getElem (by omega)] at hu
    simp at hu
    subst hu
    refine ⟨_, rfl, rfl, Rd.old ?_⟩
    have := hp2 k (by omega)
    rw [this]
    simp [List.getD, show k < zs.length by omega]
end Go.Proofs.YtcnbmfaicbkhcaaGreatDoor

/-
  Rows of cells, laid flat. No program stands here.
-/
namespace Go.Proofs.YtcnbmfaicbkhcaaGreatDoor
open Go Go.RowKit

theorem flat_len {α : Type} {f : α → List Value} {p : Nat} (hf : ∀ x, (f x).length = p) : ∀ l : List α, (l.flatMap f).length = l.length * p
  | [] => by simp
  | x :: l => by rw [List.flatMap_cons, List.length_append, hf, flat_len hf l, List.length_cons, Nat.add_mul, Nat.one_mul, Nat.add_comm]
theorem flat_get {α : Type} {f : α → List Value} {p : Nat} (hf : ∀ x, (f x).length = p) : ∀ {l : List α} {i : Nat} {x : α}, l[i]? = some x → ∀ (j : Nat) (u : Value), (f x)[j]? = some u → (l.flatMap f)[i * p + j]? = some u
  | [], i, x, h, _, _, _ => by simp at h
  | y :: l, 0, x, h, j, u, hu => by
    simp at h
    subst h
    rw [List.flatMap_cons, Nat.zero_mul, Nat.zero_add, List.getElem?_append_left (List.getElem?_eq_some_iff.1 hu).1]
    exact hu
  | y :: l, i + 1, x, h, j, u, hu => by
    rw [List.flatMap_cons, List.getElem?_append_right (by rw [hf, Nat.add_mul]; omega), hf, show (i + 1) * p + j - p = i * p + j by rw [Nat.add_mul]; omega]
    exact flat_get hf (by simpa using h) j u hu
theorem flat_set {α : Type} {f : α → List Value} {p : Nat} (hf : ∀ x, (f x).length = p) : ∀ {l : List α} {i : Nat} (v : α), i < l.length → splice (l.flatMap f) (i * p) (f v) = (l.set i v).flatMap f
  | [], _, _, h => by simp at h
  | y :: l, 0, v, _ => by
    rw [List.set_cons_zero, List.flatMap_cons, List.flatMap_cons, Nat.zero_mul]
    unfold splice
    rw [List.take_zero, List.nil_append, Nat.zero_add, hf, ← hf y, List.drop_left]
  | y :: l, i + 1, v, h => by
    have ih := flat_set hf (l := l) (i := i) v (by simpa using h)
    rw [List.set_cons_succ, List.flatMap_cons, List.flatMap_cons, ← ih]
    unfold splice
    have e : (i + 1) * p = (f y).length + i * p := by rw [hf, Nat.add_mul]; omega
    rw [e, List.take_length_add_append, Nat.add_assoc, List.drop_length_add_append]
    simp
end Go.Proofs.YtcnbmfaicbkhcaaGreatDoor

/-
  One assertion out of the list to its head, and back. Of the state's assertions one or two alone.
-/
namespace Go.Proofs.YtcnbmfaicbkhcaaGreatDoor
open Go Go.RowKit
theorem St.only {w0 w : World} {p : As} : ∀ {L : List As}, St w0 (p :: L) w → St w0 [p] w
  | [], hs => hs
  | _ :: _, hs => St.only hs.rot.drop
theorem St.only2 {w0 w : World} {p q : As} : ∀ {L : List As}, St w0 (p :: q :: L) w → St w0 [p, q] w
  | [], hs => hs
  | r :: L, hs => St.only2 (L := L) (St.drop (hs.ent ((Ent.cons p (Ent.swap q r L)).trans (Ent.swap p r (q :: L)))))
section
variable {w0 w : World} {a b c d e f g : As} {L : List As}
theorem St.up2 (hs : St w0 (a :: b :: c :: L) w) : St w0 (c :: a :: b :: L) w := hs.ent (Ent.pull c [a, b] L)
theorem St.dn2 (hs : St w0 (c :: a :: b :: L) w) : St w0 (a :: b :: c :: L) w := hs.ent (Ent.push c [a, b] L)
theorem St.up3 (hs : St w0 (a :: b :: c :: d :: L) w) : St w0 (d :: a :: b :: c :: L) w := hs.ent (Ent.pull d [a, b, c] L)
theorem St.dn3 (hs : St w0 (d :: a :: b :: c :: L) w) : St w0 (a :: b :: c :: d :: L) w := hs.ent (Ent.push d [a, b, c] L)
theorem St.up4 (hs : St w0 (a :: b :: c :: d :: e :: L) w) : St w0 (e :: a :: b :: c :: d :: L) w := hs.ent (Ent.pull e [a, b, c, d] L)
theorem St.up5 (hs : St w0 (a :: b :: c :: d :: e :: f :: L) w) : St w0 (f :: a :: b :: c :: d :: e :: L) w := hs.ent (Ent.pull f [a, b, c, d, e] L)
theorem St.dn5 (hs : St w0 (f :: a :: b :: c :: d :: e :: L) w) : St w0 (a :: b :: c :: d :: e :: f :: L) w := hs.ent (Ent.push f [a, b, c, d, e] L)
end
theorem Ent.unflat : ∀ (M L : List As), Ent (M ++ L) (big M :: L)
  | [], _ => fun _ h => emp_star h
  | _ :: M, L => fun _ h => star_assoc' (star_mono (fun _ y => y) (fun x => Ent.unflat M L x) h)
end Go.Proofs.YtcnbmfaicbkhcaaGreatDoor

/-
  More operations of the walk over the state of XSl: results that lie in slots in memory. No program stands here.
-/
namespace Go.Proofs.YtcnbmfaicbkhcaaGreatDoor
open Go Go.RowKit

theorem wp_gen {P : Program} {c : Code} {Q : Exit → Act → World → Prop} {a : Act} {w : World} {R : World → Prop} (hr : R w) (h : ∀ w, R w → c.wp P Q a w) : c.wp P Q a w := h w hr
theorem splice_all {cs vs : List Value} (h : cs.length = vs.length) : splice cs 0 vs = vs := by simp [splice, ← h]
def aggB (P : Program) (t : TypeId) : Bool := match P.underlying t with
  | some (.struct _) | some (.array _ _) => true
  | _ => false
theorem run_loadVar_agg {P : Program} {t : TypeId} {b o : Nat} {cs : List Value} {w : World} (h1 : aggB P t = true) (hsz : (P.info? t).map (·.size) = some cs.length) (hr : ∀ j u, cs[j]? = some u → w.cell? ⟨b, o + j, none⟩ = some u) :
    (loadVar t ⟨b, o, none⟩).run P w = .ok (.agg cs.toArray) w := by
  have hagg : (isAgg t).run P w = .ok true w := by
    unfold aggB at h1
    cases hu : P.underlying t with
    | none => rw [hu] at h1; cases h1
    | some d =>
      rw [hu] at h1
      unfold isAgg
      rw [Sem.run_bind, run_underlying hu w]
      cases d <;> first | rfl | cases h1
  have hl : (loadCells ⟨b, o, none⟩ cs.length).run P w = .ok cs.toArray w := run_loadCells_list (P := P) w ⟨b, o, none⟩ cs fun j u hu => by rw [Addr.add_lit]; exact hr j u hu
  cases hq : P.info? t with
  | none => rw [hq] at hsz; cases hsz
  | some i =>
    have hsz' : i.size = cs.length := by rw [hq] at hsz; simpa using hsz
    simp only [loadVar, Sem.run_bind, hagg, Result.andThen_ok, if_true, sizeOf, typeInfo, run_program, hq, hsz', hl, Sem.run_pure]
/-- A slot of one's own, known whole. -/
theorem St.slot_run {P : Program} {w0 w : World} {t : TypeId} {g : Nat} {cs : List Value} {L : List As} (h1 : aggB P t = true) (hsz : (P.info? t).map (·.size) = some cs.length) (hs : St w0 (YtcnbmfaicbkhcaaGreatDoor.blk g cs.toArray t :: L) w) : (loadVar t ⟨g, 0, none⟩).run P w = .ok (.agg cs.toArray) w :=
  run_loadVar_agg h1 hsz fun j u hu => by
    have := Rd.blk (w0 := w0) (g := g) (k := j) (cs := cs.toArray) (t := t) (v := u) (L := L) (by simpa using hu) w hs
    rwa [Nat.zero_add]
theorem results_cell1 {fn : Func} {s : Tmp} {t : TypeId} (h : fn.results = #[.cell s t]) {tmps : Array Value} {P : Program} {w : World} {g : Nat} {v : Value} (hp : tmps.getD s undef = .pointer (some ⟨g, 0, none⟩)) (hr : (loadVar t ⟨g, 0, none⟩).run P w = .ok v w) :
    (results fn tmps).run P w = .ok v w := by
  rw [Array.getD_eq_getD_getElem?] at hp
  simp [results, h, hp, asAddr, hr]
theorem results_cell_tmp {fn : Func} {s u : Tmp} {t : TypeId} (h : fn.results = #[.cell s t, .tmp u]) {tmps : Array Value} {P : Program} {w : World} {g : Nat} {v : Value} (hp : tmps.getD s undef = .pointer (some ⟨g, 0, none⟩)) (hr : (loadVar t ⟨g, 0, none⟩).run P w = .ok v w) :
    (results fn tmps).run P w = .ok (.tuple #[v, tmps.getD u undef]) w := by
  rw [Array.getD_eq_getD_getElem?] at hp
  simp [results, h, hp, asAddr, hr]
theorem results_cell_tmp2 {fn : Func} {s u u' : Tmp} {t : TypeId} (h : fn.results = #[.cell s t, .tmp u, .tmp u']) {tmps : Array Value} {P : Program} {w : World} {g : Nat} {v : Value} (hp : tmps.getD s undef = .pointer (some ⟨g, 0, none⟩)) (hr : (loadVar t ⟨g, 0, none⟩).run P w = .ok v w) :
    (results fn tmps).run P w = .ok (.tuple #[v, tmps.getD u undef, tmps.getD u' undef]) w := by
  rw [Array.getD_eq_getD_getElem?] at hp
  simp [results, h, hp, asAddr, hr]
theorem bodyPost_at {P : Program} {fn : Func} {R : Ending → World → Prop} {a : Act} {w : World} {v : Value} (hr : (results fn a.tmps).run P w = .ok v w) (hd : a.defers = []) (h : R (.returned v) w) : bodyPost P fn R .ret a w := ⟨hd, v, hr, h⟩
theorem wpl_box_v {P : Program} {ops : Array Oper} {Q : Exit → Act → World → Prop} {a : Act} {w w0 : World} {rest : List Oper} {dst : Option Tmp} {ty : TypeId} {pos : String} {after : Array Edge} {L : List As} {t : TypeId} {x : Operand} {v : Value} (hx : a.eval x = v) (hs : St w0 L w)
    (next : ∀ g w', St w0 (YtcnbmfaicbkhcaaGreatDoor.blk g v.cells t :: L) w' → wpList P ops Q rest (a.put dst (.pointer (some ⟨g, 0, none⟩))) w') : wpList P ops Q (⟨dst, .box t x, ty, pos, after, none⟩ :: rest) a w := by
  subst hx; exact wpl_box hs next

/-! ### 'append(s, make([]T, m)...)' -/
theorem run_append_zeros_st {P : Program} {w0 w : World} {t tn e ty : TypeId} {size bytes : Nat} {z : Value} {kn kq : IntKind} {L : List As} (he : ElemOk P t e size bytes) (hz : (P.info? e).bind (·.zero) = some z) (htn : P.underlying tn = some (.int kn))
    {A : Option Addr} {n cap m : Nat} {xs : List Value} (hs : St w0 (own A n cap e size xs :: L) w) (hm : 0 < m) (h1 : ∀ u ∈ (Builtin.zeroCells z.cells m).toList, u.oneCell' = true) (h63 : n + m ≤ maxLen) (hbytes : (n + m) * bytes ≤ 140737488355328) :
    ∃ A' cap' w', (Builtin.append_ #[t, tn] ty #[.slice A n cap, .int kq (m : Nat)]).run P w = .ok (.slice A' (n + m) cap') w' ∧ St w0 (own A' (n + m) cap' e size (xs ++ (Builtin.zeroCells z.cells m).toList) :: L) w' := by
  obtain ⟨ht, i, z', hi, hz', hsize, hby, hzs, hsz⟩ := he
  obtain rfl : z' = z := by rw [hi] at hz; simpa [hz'] using hz
  have hrow := hs.own_row
  have hbase := hs.below.size
  subst hsize
  subst hby
  have hsmall : n + m ≤ 9223372036854775807 := by simp only [maxLen] at h63; omega
  have hl : (Builtin.zeroCells z'.cells m).toList.length = m * i.size := by rw [Array.length_toList, size_zeroCells, hzs]
  have hlen : (xs ++ (Builtin.zeroCells z'.cells m).toList).length = (n + m) * i.size := by rw [List.length_append, hrow.1, hl, Nat.add_mul]
  have grown : ∀ (old : Nat), old < n + m → ∀ (row : Option Nat),
      (w.drew.alloc (.cells (xs.toArray ++ Builtin.zeroCells z'.cells m ++ Builtin.zeroCells z'.cells (grownCap w (n + m) old e - (n + m))) e)).ownsRow w0.heap.size e i.size
        (.slice (some ⟨w.heap.size, 0, none⟩) (n + m) (grownCap w (n + m) old e)) (n + m) (xs ++ (Builtin.zeroCells z'.cells m).toList) ∧
      w.grownBy (w.drew.alloc (.cells (xs.toArray ++ Builtin.zeroCells z'.cells m ++ Builtin.zeroCells z'.cells (grownCap w (n + m) old e - (n + m))) e)) row := by
    intro old ho row
    have hge := grownCap_ge w (n + m) old e
    have hcm : grownCap w (n + m) old e ≤ maxLen := grownCap_le_maxLen w (n + m) old e h63
    refine ⟨⟨hlen, .inr ⟨w.heap.size, _, _, rfl, hbase, heap_alloc_new w.drew _, hge, hcm, ?_, ?_⟩⟩, ⟨rfl, rfl, rfl, by simp, fun k hk _ => Below.heap_alloc w.drew _ k hk⟩⟩
    · simp only [Array.size_append, List.size_toArray, size_zeroCells, hzs, hrow.1, ← Nat.add_mul]
      congr 1
      omega
    · simp only [Array.toList_append]
      rw [← hlen]
      exact List.take_left
  rcases hrow.2 with ⟨hv, hn0⟩ | ⟨g, cap0, cur, hv, hbg, hg, hnc, hcm, hcs, htake⟩
  · injection hv with hA hn' hc'
    subst hA; subst hc'; subst hn0
    have hx : xs = [] := List.eq_nil_of_length_eq_zero (by simpa using hrow.1)
    subst hx
    have hr := Lib.run_append_nil_zeros (P := P) w t tn ty e i z' kq kn ht htn hi hz' m hm hsz (by omega) (by simp only [Nat.zero_add] at hbytes; omega)
    have hgr := grown 0 (by omega) (Value.ownBlock (.slice none 0 0))
    simp only [Nat.zero_add, List.nil_append, Array.empty_append] at hgr ⊢
    exact ⟨_, _, _, hr, hs.own_grown hgr.1 hgr.2 (.inr rfl)⟩
  · injection hv with hA _ hcap
    subst hA; subst hcap
    by_cases hroom : n + m ≤ cap
    · have hfit : n * i.size + (Builtin.zeroCells z'.cells m).toList.length ≤ cur.size := by rw [hl, hcs, ← Nat.add_mul]; exact Nat.mul_le_mul_right _ hroom
      have hst := run_storeCells_at P g (n * i.size) e (Builtin.zeroCells z'.cells m).toList 0 cur w hg (by simpa using hfit) h1
      simp only [Nat.add_zero] at hst
      have hk : m ≠ 0 := by omega
      have hw : IntKind.i64.wrap (m : Int) = m := by rw [IntKind.wrap_i64]; omega
      have h48i : ¬ (281474976710656 < (m : Int) * (i.bytes : Int)) := by
        rw [← Int.natCast_mul]
        have : m * i.bytes ≤ (n + m) * i.bytes := Nat.mul_le_mul_right _ (by omega)
        omega
      have hneg : ¬ ((m : Int) < 0) := by omega
      have hns : ¬ (m * i.size = 0) := Nat.mul_ne_zero hk (by omega)
      have hr : (Builtin.append_ #[t, tn] ty #[.slice (some ⟨g, 0, none⟩) n cap, .int kq (m : Nat)]).run P w = .ok (.slice (some ⟨g, 0, none⟩) (n + m) cap) (w.setRow g (cur.toList.take (n * i.size) ++ (Builtin.zeroCells z'.cells m).toList ++ cur.toList.drop (n * i.size + (Builtin.zeroCells z'.cells m).toList.length)).toArray) := by
        simp [Builtin.append_, run_underlying ht, run_underlying htn, sizeOf, typeInfo, zeroValue, hi, hz', asInt, asIntOf, hw, hneg, hns, h48i, hroom, Addr.add_lit, hst]
      refine ⟨_, _, _, hr, hs.own_grown ⟨hlen, .inr ⟨g, cap, _, rfl, hbg, setRow_heap w g cur _ e _ hg, hroom, hcm, ?_, ?_⟩⟩ ⟨rfl, rfl, rfl, by simp, fun k _ hk => setRow_other w g k _ (fun e => hk (by simp [Value.ownBlock, e]))⟩ (.inl rfl)⟩
      · simp only [List.size_toArray, List.length_append, List.length_take, List.length_drop, Array.length_toList]
        simp only [Array.length_toList] at hl hfit
        omega
      · rw [htake, ← hlen]
        exact List.take_left
    · have holds : ∀ j u, xs[j]? = some u → w.cell? ((⟨g, 0, none⟩ : Addr).add j) = some u := hrow.cells (g := g) rfl
      have hf := run_firstCells_some (P := P) w.drew i.size n ⟨g, 0, none⟩ n cap xs hrow.1 holds
      have hr := Lib.run_append_grow_zeros (P := P) w t tn ty e i z' kq kn ht htn hi hz' (some ⟨g, 0, none⟩) n cap xs hf m hm hsz (by omega) (by omega)
        (by have : m * i.bytes ≤ (n + m) * i.bytes := Nat.mul_le_mul_right _ (by omega)
            omega) (growslice_fits (by omega) hbytes)
      have hgr := grown cap (by omega) (Value.ownBlock (.slice (some ⟨g, 0, none⟩) n cap))
      exact ⟨_, _, _, hr, hs.own_grown hgr.1 hgr.2 (.inr rfl)⟩
section
variable {P : Program} {ops : Array Oper} {Q : Exit → Act → World → Prop} {a : Act} {w w0 : World} {rest : List Oper} {dst : Option Tmp} {ty : TypeId} {pos : String} {after : Array Edge} {L : List As}
theorem wpl_append_zeros {t tn e : TypeId} {size bytes : Nat} {z : Value} {kn kq : IntKind} {s x : Operand} (he : ElemOk P t e size bytes) (hz : (P.info? e).bind (·.zero) = some z) (htn : P.underlying tn = some (.int kn))
    {A : Option Addr} {n cap m : Nat} {xs : List Value} (hsv : a.eval s = .slice A n cap) (hxv : a.eval x = .int kq (m : Nat)) (hs : St w0 (own A n cap e size xs :: L) w) (hm : 0 < m) (h1 : ∀ u ∈ (Builtin.zeroCells z.cells m).toList, u.oneCell' = true) (h63 : n + m ≤ maxLen) (hbytes : (n + m) * bytes ≤ 140737488355328)
    (next : ∀ A' cap' w', St w0 (own A' (n + m) cap' e size (xs ++ (Builtin.zeroCells z.cells m).toList) :: L) w' → wpList P ops Q rest (a.put dst (.slice A' (n + m) cap')) w') :
    wpList P ops Q (⟨dst, .call { callee := .builtin .append, args := #[s, x], argTypes := #[t, tn] }, ty, pos, after, none⟩ :: rest) a w :=
  wpList_plain rfl fun K hK => by
    obtain ⟨A', cap', w', hrun, hs'⟩ := run_append_zeros_st (ty := ty) (kq := kq) he hz htn hs hm h1 h63 hbytes
    unfold Oper.wp execOp
    simp only [resolve, invoke, builtin, Sem.run_bind, Sem.run_pure, Result.andThen_ok, List.map_toArray, List.map_cons, List.map_nil, hsv, hxv, hrun]
    exact hK _ _ (next A' cap' w' hs')
end
end Go.Proofs.YtcnbmfaicbkhcaaGreatDoor

/-
  More operations of the walk: an array's element by index, a value built of parts; many assertions laid flat. No program stands here.
-/
namespace Go.Proofs.YtcnbmfaicbkhcaaGreatDoor
open Go Go.RowKit

theorem Ent.flat : ∀ (M L : List As), Ent (big M :: L) (M ++ L)
  | [], _ => fun _ hx => star_emp hx
  | _ :: M, L => fun _ hx => star_mono (fun _ h => h) (Ent.flat M L) (star_assoc hx)
theorem St.mades {w0 w w' : World} {L M : List As} (hs : St w0 L w) (hm : St w M w') : St w0 (M ++ L) w' := (hs.beside hm).ent (Ent.flat M L)
theorem run_index {P : Program} {t e : TypeId} {len i : Nat} {cs : List Value} {v : Value} (ht : P.underlying t = some (.array len e)) (he : one1 P e = true) (hsz : (P.info? e).map (·.size) = some 1) (hi : i < len) (hv : cs[i]? = some v) (w : World) :
    (Instr.index t (.agg cs.toArray) (.int .i64 (i : Nat))).run P w = .ok v w := by
  cases hq : P.info? e with
  | none => rw [hq] at hsz; cases hsz
  | some x =>
    have hx : x.size = 1 := by rw [hq] at hsz; simpa using hsz
    have h1 : (0 : Int) ≤ (i : Int) ∧ (i : Int) < (len : Int) := by omega
    simp only [Instr.index, asIntOf, Sem.run_bind, Sem.run_pure, Result.andThen_ok, run_underlying ht, if_pos h1, sizeOf, typeInfo, run_program, hq, hx, part, one1_agg he w, Bool.false_eq_true, if_false, Int.toNat_natCast, Nat.mul_one, List.getElem?_toArray, hv]
section
variable {P : Program} {ops : Array Oper} {Q : Exit → Act → World → Prop} {a : Act} {w w0 : World} {rest : List Oper} {dst : Option Tmp} {ty : TypeId} {pos : String} {after : Array Edge} {L : List As}
theorem wpl_index {t e : TypeId} {len i : Nat} {x y : Operand} {cs : List Value} {v : Value} (ht : P.underlying t = some (.array len e)) (he : one1 P e = true) (hsz : (P.info? e).map (·.size) = some 1) (hx : a.eval x = .agg cs.toArray) (hy : a.eval y = .int .i64 (i : Nat)) (hi : i < len) (hv : cs[i]? = some v)
    (next : wpList P ops Q rest (a.put dst v) w) : wpList P ops Q (⟨dst, .index t x y, ty, pos, after, none⟩ :: rest) a w :=
  wpList_plain rfl fun K hK => by
    unfold Oper.wp execOp
    simp only [Sem.run_bind, hx, hy, run_index ht he hsz hi hv w, Result.andThen_ok, Sem.run_pure]
    exact hK _ _ next
theorem wpl_buildS {t : TypeId} {parts : List (Nat × Operand)} {vs : List (Nat × Value)} {z : Value} (hz : ∀ w, (Instr.build t vs.toArray).run P w = .ok z w) (hp : parts.map (fun x => (x.1, a.eval x.2)) = vs) (next : wpList P ops Q rest (a.put dst z) w) : wpList P ops Q (⟨dst, .build t parts.toArray, ty, pos, after, none⟩ :: rest) a w :=
  wpList_plain rfl fun K hK => by
    subst hp
    unfold Oper.wp execOp
    simp only [List.map_toArray, Sem.run_bind, hz w, Result.andThen_ok, Sem.run_pure]
    exact hK _ _ next
end
theorem run_build_none {P : Program} {t e : TypeId} {size bytes : Nat} (he : ElemOk P t e size bytes) (w : World) : (Instr.buildSlice t 0 #[]).run P w = .ok (.slice (some ⟨w.heap.size, 0, none⟩) 0 0) (w.alloc (.cells #[] e)) := by
  obtain ⟨ht, i, z, hi, hz, hsize, hby, hzs, hsz⟩ := he
  simp [Instr.buildSlice, Sem.run_bind, run_underlying ht w, Result.andThen_ok, sizeOf, typeInfo, run_program, hi, Sem.run_pure, Instr.fill, newRow]
  congr 2
  apply Array.toList_inj.1
  simp
theorem wpl_build_none {P : Program} {ops : Array Oper} {Q : Exit → Act → World → Prop} {a : Act} {w w0 : World} {rest : List Oper} {dst : Option Tmp} {ty : TypeId} {pos : String} {after : Array Edge} {L : List As} {t e : TypeId} {size bytes : Nat} (he : ElemOk P t e size bytes) (hs : St w0 L w)
    (next : ∀ A w', St w0 (own A 0 0 e size [] :: L) w' → wpList P ops Q rest (a.put dst (.slice A 0 0)) w') : wpList P ops Q (⟨dst, .buildSlice t 0 #[], ty, pos, after, none⟩ :: rest) a w :=
  wpList_plain rfl fun K hK => by
    have hs2 : St w0 (own (some ⟨w.heap.size, 0, none⟩) 0 0 e size [] :: L) (w.alloc (.cells #[] e)) := (hs.alloc #[] e).conv fun h hb => ⟨by simp, .inr ⟨_, #[], rfl, Nat.le_refl _, Nat.zero_le _, by simp, by simp, hb⟩⟩
    unfold Oper.wp execOp
    simp only [Sem.run_bind, List.map_toArray, List.map_nil, run_build_none he w, Result.andThen_ok, Sem.run_pure]
    exact hK _ _ (next _ _ hs2)
end Go.Proofs.YtcnbmfaicbkhcaaGreatDoor

/-
  Arguments that are slices of rows: what stands in their cells. No function of the program stands here.
-/
namespace Go.Proofs.YtcnbmfaicbkhcaaGreatDoor
open Go Go.RowKit Go.ChangeShapes Go.WideShapes Go.Deep

theorem rows_get {X : Type} {encX : X → List Value} {C : Nat} (hlen : ∀ x, (encX x).length = C) : ∀ {xs : List X} {i : Nat} {x : X}, xs[i]? = some x → ∀ j u, (encX x)[j]? = some u → (xs.flatMap encX)[i * C + j]? = some u
  | [], i, v, h, _, _, _ => by simp at h
  | x :: xs, 0, v, h, j, u, hu => by
    simp at h
    subst h
    have hj : j < (encX x).length := (List.getElem?_eq_some_iff.1 hu).1
    simp only [List.flatMap_cons]
    rw [Nat.zero_mul, Nat.zero_add, List.getElem?_append_left hj, hu]
  | x :: xs, i + 1, v, h, j, u, hu => by
    have := rows_get hlen (xs := xs) (i := i) (x := v) (by simpa using h) j u hu
    simp only [List.flatMap_cons]
    rw [List.getElem?_append_right (by rw [hlen, Nat.add_mul]; omega)]
    rw [← this]
    congr 1
    rw [hlen, Nat.add_mul]
    omega
/-- An argument that is a slice of rows. -/
def RowsArg {X : Type} (encX : X → List Value) (Q : X → Prop) (w0 : World) (v : Value) (xs : List X) : Prop :=
  ∃ A cap, v = .slice A xs.length cap ∧ xs.length ≤ cap ∧ cap ≤ maxLen ∧ RdS w0 [] A (xs.flatMap encX) ∧ ∀ x ∈ xs, Q x
end Go.Proofs.YtcnbmfaicbkhcaaGreatDoor
