/-
  SL: a small separation logic over the model's heap: lists of assertions on blocks, a base world that is never turned, and what stores, new blocks and draws do to them. No program stands here.
-/
import Derived.WalkKit
import Derived.WalkSpells
import Derived.WalkLawsBesides
import Derived.Maps.AppendAt
import Derived.Deep.Draws
namespace Go.Proofs.Ytkcbjkadalebjaa
open Go Go.RowKit

/-- A heaplet: some blocks. -/
def Hl := Nat → Option Obj
def As := Hl → Prop
def Hl.dis (a b : Hl) : Prop := ∀ k, a k = none ∨ b k = none
def Hl.un (a b : Hl) : Hl := fun k => (a k).or (b k)

theorem Hl.dis.symm {a b : Hl} (h : Hl.dis a b) : Hl.dis b a := fun k => (h k).symm
theorem Hl.un_comm {a b : Hl} (h : Hl.dis a b) : Hl.un a b = Hl.un b a := by
  funext k
  rcases h k with e | e <;> simp only [Hl.un, e] <;> cases a k <;> cases b k <;> simp_all
theorem Hl.un_assoc (a b c : Hl) : Hl.un (Hl.un a b) c = Hl.un a (Hl.un b c) := by
  funext k
  simp only [Hl.un]
  cases a k <;> simp
theorem Hl.un_some {a b : Hl} {k : Nat} {o : Obj} (h : Hl.un a b k = some o) : a k = some o ∨ b k = some o := by
  simp only [Hl.un] at h
  cases ha : a k <;> simp_all
theorem Hl.dis_un {a b c : Hl} (h : Hl.dis a (Hl.un b c)) : Hl.dis a b ∧ Hl.dis a c := by
  constructor <;> intro k <;> rcases h k with e | e
  · exact .inl e
  · simp only [Hl.un] at e; cases hb : b k <;> simp_all
  · exact .inl e
  · simp only [Hl.un] at e; cases hb : b k <;> simp_all

def star (p q : As) : As := fun h => ∃ a b, Hl.dis a b ∧ h = Hl.un a b ∧ p a ∧ q b
def emp : As := fun h => ∀ k, h k = none
/-- All of some assertions, each of blocks of its own. -/
def big : List As → As
  | [] => emp
  | p :: l => star p (big l)
/-- An assertion that bears a plain fact. -/
def pur (p : Prop) : As := fun h => p ∧ emp h
def pts (g : Nat) (o : Obj) : As := fun h => h = fun k => if k = g then some o else none
/-- A block that is known whole. -/
def blk (g : Nat) (cs : Array Value) (t : TypeId) : As := pts g (.cells cs t (0, 0))

theorem star_comm {p q : As} {h : Hl} : star p q h → star q p h := fun ⟨a, b, hd, e, hp, hq⟩ => ⟨b, a, hd.symm, by rw [e, Hl.un_comm hd], hq, hp⟩
theorem star_left {p q r : As} {h : Hl} : star p (star q r) h → star q (star p r) h := by
  rintro ⟨a, b, hd, e, hp, c, d, hd', e', hq, hr⟩
  subst e'
  obtain ⟨h1, h2⟩ := Hl.dis_un hd
  refine ⟨c, Hl.un a d, ?_, ?_, hq, a, d, h2, rfl, hp, hr⟩
  · intro k
    rcases hd' k with x | x
    · exact .inl x
    · rcases h1 k with y | y
      · right; simp [Hl.un, x, y]
      · exact .inl y
  · rw [e, ← Hl.un_assoc, Hl.un_comm h1, Hl.un_assoc]
theorem star_assoc {p q r : As} {h : Hl} (hh : star (star p q) r h) : star p (star q r) h := by
  obtain ⟨a, b, hd, e, ⟨c, d, hd', e', hp, hq⟩, hr⟩ := hh
  subst e'
  obtain ⟨h1, h2⟩ := Hl.dis_un hd.symm
  refine ⟨c, Hl.un d b, ?_, by rw [e, Hl.un_assoc], hp, d, b, h2.symm, rfl, hq, hr⟩
  intro k
  rcases hd' k with x | x
  · exact .inl x
  · rcases h1 k with y | y
    · right; simp [Hl.un, x, y]
    · exact .inl y
theorem star_assoc' {p q r : As} {h : Hl} (hh : star p (star q r) h) : star (star p q) r h := by
  obtain ⟨a, b, hd, e, hp, c, d, hd', e', hq, hr⟩ := hh
  subst e'
  obtain ⟨h1, h2⟩ := Hl.dis_un hd
  refine ⟨Hl.un a c, d, ?_, by rw [e, Hl.un_assoc], ⟨a, c, h1, rfl, hp, hq⟩, hr⟩
  intro k
  rcases hd' k with x | x
  · rcases h2 k with y | y
    · left; simp [Hl.un, x, y]
    · exact .inr y
  · exact .inr x
theorem star_mono {p q p' q' : As} (h1 : ∀ h, p h → p' h) (h2 : ∀ h, q h → q' h) {h : Hl} : star p q h → star p' q' h := fun ⟨a, b, hd, e, hp, hq⟩ => ⟨a, b, hd, e, h1 _ hp, h2 _ hq⟩
theorem emp_star {p : As} {h : Hl} (hh : p h) : star emp p h := ⟨fun _ => none, h, fun _ => .inl rfl, by funext k; simp [Hl.un], fun _ => rfl, hh⟩
theorem star_emp {p : As} {h : Hl} (hh : star emp p h) : p h := by
  obtain ⟨a, b, _, e, ha, hp⟩ := hh
  have : h = b := by rw [e]; funext k; simp [Hl.un, ha k]
  rw [this]; exact hp
theorem pur_star {x : Prop} {p : As} {h : Hl} (hx : x) (hh : p h) : star (pur x) p h := star_mono (fun _ he => ⟨hx, he⟩) (fun _ hp => hp) (emp_star hh)
theorem star_pur {x : Prop} {p : As} {h : Hl} (hh : star (pur x) p h) : x ∧ p h := by
  obtain ⟨a, b, hd, e, ⟨hx, ha⟩, hp⟩ := hh
  exact ⟨hx, star_emp ⟨a, b, hd, e, ha, hp⟩⟩

/-- One list of assertions gives another. -/
def Ent (L M : List As) : Prop := ∀ h, big L h → big M h
theorem Ent.refl (L : List As) : Ent L L := fun _ h => h
theorem Ent.trans {L M N : List As} (h : Ent L M) (k : Ent M N) : Ent L N := fun x hx => k x (h x hx)
theorem Ent.cons {L M : List As} (p : As) (h : Ent L M) : Ent (p :: L) (p :: M) := fun _ hx => star_mono (fun _ y => y) h hx
theorem Ent.swap (p q : As) (L : List As) : Ent (p :: q :: L) (q :: p :: L) := fun _ hx => star_left hx
theorem Ent.head {p q : As} {L : List As} (h : ∀ x, p x → q x) : Ent (p :: L) (q :: L) := fun _ hx => star_mono h (fun _ y => y) hx
theorem Ent.skip {p q : As} {L M : List As} (h : Ent L (p :: M)) : Ent (q :: L) (p :: q :: M) := (Ent.cons q h).trans (Ent.swap q p M)
theorem Ent.open2 {p q r : As} {L : List As} (h : ∀ x, p x → star q r x) : Ent (p :: L) (q :: r :: L) := fun _ hx => star_assoc (star_mono h (fun _ y => y) hx)
theorem Ent.shut2 {p q r : As} {L : List As} (h : ∀ x, star q r x → p x) : Ent (q :: r :: L) (p :: L) := fun _ hx => star_mono h (fun _ y => y) (star_assoc' hx)
/-- Pick one after the other: 'L' is some order of 'M'. -/
theorem Ent.step {p : As} {L L' M : List As} (h : Ent L (p :: L')) (k : Ent L' M) : Ent L (p :: M) := h.trans (Ent.cons p k)

/-- THE STATE: below the base nothing has turned; the assertions hold, of blocks from the base on (what else is there is let go). -/
structure St (w0 : World) (L : List As) (w : World) : Prop where
  below : Below w0.heap.size w0 w
  sat : ∃ (h r : Hl), Hl.dis h r ∧ (∀ k, Hl.un h r k = if k < w0.heap.size then none else w.heap[k]?) ∧ big L h

theorem St.start (w0 : World) : St w0 [] w0 :=
  ⟨Below.refl _ _, fun _ => none, fun _ => none, fun _ => .inl rfl, fun k => by
    simp only [Hl.un]
    split
    · rfl
    · rw [Array.getElem?_eq_none (by omega)]; rfl, fun _ => rfl⟩
theorem St.ent {w0 w : World} {L M : List As} (hs : St w0 L w) (h : Ent L M) : St w0 M w :=
  ⟨hs.below, let ⟨x, r, hd, hx, hb⟩ := hs.sat; ⟨x, r, hd, hx, h x hb⟩⟩
theorem St.drewN {w0 w : World} {L : List As} (hs : St w0 L w) (n : Nat) : St w0 L (w.drewN n) := ⟨⟨hs.below.os, hs.below.tape, hs.below.output, hs.below.size, hs.below.block⟩, hs.sat⟩
theorem St.drew {w0 w : World} {L : List As} (hs : St w0 L w) : St w0 L w.drew := ⟨hs.below.drew, hs.sat⟩
/-- What is let go. -/
theorem St.drop {w0 w : World} {p : As} {L : List As} (hs : St w0 (p :: L) w) : St w0 L w := by
  obtain ⟨x, r, hd, hx, a, b, hab, e, hp, hb⟩ := hs.sat
  subst e
  obtain ⟨h1, h2⟩ := Hl.dis_un hd.symm
  refine ⟨hs.below, b, Hl.un a r, ?_, ?_, hb⟩
  · intro k
    rcases hab k with y | y
    · rcases h2 k with z | z
      · right; simp [Hl.un, y, z]
      · exact .inl z
    · exact .inl y
  · intro k
    rw [← hx k, ← Hl.un_assoc, Hl.un_comm hab]
/-- From the state's assertions to the heap. -/
theorem St.heap {w0 w : World} {p : As} {L : List As} (hs : St w0 (p :: L) w) : ∃ a : Hl, p a ∧ ∀ k o, a k = some o → w0.heap.size ≤ k ∧ w.heap[k]? = some o := by
  obtain ⟨x, r, hd, hx, a, b, hab, e, hp, hb⟩ := hs.sat
  refine ⟨a, hp, fun k o ho => ?_⟩
  have h := hx k
  subst e
  simp only [Hl.un, ho] at h
  simp at h
  exact ⟨h.1, h.2.symm⟩
theorem St.fact {w0 w : World} {p : As} {L : List As} {x : Prop} (hs : St w0 (p :: L) w) (h : ∀ a, p a → x) : x := let ⟨a, hp, _⟩ := hs.heap; h a hp
theorem St.pure {w0 w : World} {x : Prop} {L : List As} (hs : St w0 (pur x :: L) w) : x ∧ St w0 L w := ⟨hs.fact fun _ h => h.1, hs.ent fun _ h => (star_pur h).2⟩
theorem St.put {w0 w : World} {x : Prop} {L : List As} (hs : St w0 L w) (hx : x) : St w0 (pur x :: L) w := hs.ent fun _ h => pur_star hx h
theorem St.blk {w0 w : World} {g : Nat} {cs : Array Value} {t : TypeId} {L : List As} (hs : St w0 (blk g cs t :: L) w) : w0.heap.size ≤ g ∧ w.heap[g]? = some (.cells cs t (0, 0)) := by
  obtain ⟨a, hp, h⟩ := hs.heap
  exact h g _ (by rw [show a = _ from hp]; simp)

/-- A world whose blocks are the old one's, but for those of the first assertion, and new ones. -/
theorem St.turn {w0 w w' : World} {p q : As} {L : List As} (hs : St w0 (p :: L) w)
    (h : ∀ a : Hl, p a → (∀ k o, a k = some o → w0.heap.size ≤ k ∧ w.heap[k]? = some o) →
      ∃ b : Hl, q b ∧ w'.os = w.os ∧ w'.tape = w.tape ∧ w'.output = w.output ∧ w.heap.size ≤ w'.heap.size ∧
        (∀ k, a k = none → k < w.heap.size → b k = none ∧ w'.heap[k]? = w.heap[k]?) ∧ (∀ k o, b k = some o → w0.heap.size ≤ k ∧ w'.heap[k]? = some o)) : St w0 (q :: L) w' := by
  obtain ⟨x, r, hd, hx, a, c, hac, e, hp, hc⟩ := hs.sat
  subst e
  obtain ⟨h1, h2⟩ := Hl.dis_un hd.symm
  have ha : ∀ k o, a k = some o → w0.heap.size ≤ k ∧ w.heap[k]? = some o := by
    intro k o ho
    have hk := hx k
    simp only [Hl.un, ho] at hk
    simp at hk
    exact ⟨hk.1, hk.2.symm⟩
  have hc' : ∀ k o, c k = some o → w0.heap.size ≤ k ∧ w.heap[k]? = some o := by
    intro k o ho
    have hk := hx k
    have hn : a k = none := (hac k).resolve_right (by rw [ho]; simp)
    simp only [Hl.un, ho, hn] at hk
    simp at hk
    exact ⟨hk.1, hk.2.symm⟩
  obtain ⟨b, hq, ho, ht, hu, hsz, hold, hnew⟩ := h a hp ha
  have hlow : ∀ k, k < w0.heap.size → a k = none := fun k hk => by
    cases hak : a k with
    | none => rfl
    | some o => exact absurd (ha k o hak).1 (by omega)
  have lt_of : ∀ k o, w.heap[k]? = some o → k < w.heap.size := fun k o hk => (Array.getElem?_eq_some_iff.1 hk).1
  have hbc : Hl.dis b c := by
    intro k
    cases hck : c k with
    | none => exact .inr rfl
    | some o =>
      have hn : a k = none := (hac k).resolve_right (by rw [hck]; simp)
      exact .inl (hold k hn (lt_of _ _ (hc' k o hck).2)).1
  refine ⟨hs.below.trans ⟨ho, ht, hu, hsz, fun k hk => (hold k (hlow k hk) (Nat.lt_of_lt_of_le hk hs.below.size)).2⟩, Hl.un b c, fun k => if k < w0.heap.size then none else if (Hl.un b c k).isSome then none else w'.heap[k]?, ?_, ?_, b, c, hbc, rfl, hq, hc⟩
  · intro k
    cases hk : Hl.un b c k with
    | none => exact .inl rfl
    | some o => right; show (if k < w0.heap.size then none else if (Hl.un b c k).isSome then none else w'.heap[k]?) = none; simp [hk]
  · intro k
    have key : ∀ o, Hl.un b c k = some o → ¬ k < w0.heap.size ∧ w'.heap[k]? = some o := by
      intro o hk
      rcases Hl.un_some hk with e | e
      · have := hnew k o e; exact ⟨by omega, this.2⟩
      · have h3 := hc' k o e
        have hn : a k = none := (hac k).resolve_right (by rw [e]; simp)
        exact ⟨by omega, by rw [(hold k hn (lt_of _ _ h3.2)).2, h3.2]⟩
    show (Hl.un b c k).or (if k < w0.heap.size then none else if (Hl.un b c k).isSome then none else w'.heap[k]?) = _
    cases hk : Hl.un b c k with
    | none => simp
    | some o => have := key o hk; simp [this.1, this.2]
/-- Nothing but new blocks. -/
theorem St.more {w0 w w' : World} {q : As} {L : List As} (hs : St w0 L w) (hb : Below w.heap.size w w') (b : Hl) (hq : q b) (hn : ∀ k o, b k = some o → w.heap.size ≤ k ∧ w'.heap[k]? = some o) : St w0 (q :: L) w' := by
  have h1 : St w0 (emp :: L) w := hs.ent fun _ h => emp_star h
  refine h1.turn fun a ha _ => ⟨b, hq, hb.os, hb.tape, hb.output, hb.size, fun k _ hk => ⟨?_, hb.block k hk⟩, fun k o hk => ⟨Nat.le_trans hs.below.size (hn k o hk).1, (hn k o hk).2⟩⟩
  cases hbk : b k with
  | none => rfl
  | some o => exact absurd (hn k o hbk).1 (by omega)
theorem St.alloc {w0 w : World} {L : List As} (hs : St w0 L w) (cs : Array Value) (t : TypeId) : St w0 (Ytkcbjkadalebjaa.blk w.heap.size cs t :: L) (w.alloc (.cells cs t)) :=
  hs.more ((Below.refl _ _).alloc (Nat.le_refl _) _) _ rfl fun k o hk => by
    split at hk
    · rename_i e; subst e; injection hk with hk; subst hk; exact ⟨Nat.le_refl _, heap_alloc_new w _⟩
    · cases hk
theorem St.allocObj {w0 w : World} {L : List As} (hs : St w0 L w) (o : Obj) : St w0 (pts w.heap.size o :: L) (w.alloc o) :=
  hs.more ((Below.refl _ _).alloc (Nat.le_refl _) _) _ rfl fun k o' hk => by
    split at hk
    · rename_i e; subst e; injection hk with hk; subst hk; exact ⟨Nat.le_refl _, heap_alloc_new w _⟩
    · cases hk
/-- A store into a known block. -/
theorem St.set {w0 w : World} {g : Nat} {cs : Array Value} {t : TypeId} {L : List As} (hs : St w0 (Ytkcbjkadalebjaa.blk g cs t :: L) w) (i : Nat) (u : Value) : St w0 (Ytkcbjkadalebjaa.blk g (cs.setIfInBounds i u) t :: L) (w.setCell ⟨g, i, none⟩ u) := by
  have hb := hs.blk
  refine hs.turn fun a ha _ => ⟨_, rfl, rfl, rfl, rfl, by simp [World.setCell], fun k hk hlt => ?_, fun k o hk => ?_⟩
  · have hne : k ≠ g := by
      rintro rfl
      rw [show a = _ from ha] at hk
      simp at hk
    exact ⟨by simp [hne], Below.heap_setCell w ⟨g, i, none⟩ u k hne⟩
  · split at hk
    · rename_i e
      subst e
      injection hk with hk
      subst hk
      refine ⟨hb.1, ?_⟩
      simp [World.setCell, Array.getElem?_modify, hb.2]
    · cases hk
/-- The first assertion said otherwise. -/
theorem St.conv {w0 w : World} {p q : As} {L : List As} (hs : St w0 (p :: L) w) (h : ∀ x, p x → q x) : St w0 (q :: L) w := hs.ent (Ent.head h)

/-! ### What a cell holds, what a store makes of it -/
/-- By the assertions the cell holds v. -/
def Rd (w0 : World) (L : List As) (a : Addr) (v : Value) : Prop := ∀ w, St w0 L w → w.cell? a = some v
theorem Rd.tail {w0 : World} {p : As} {L : List As} {a : Addr} {v : Value} (h : Rd w0 L a v) : Rd w0 (p :: L) a v := fun _ hs => h _ hs.drop
theorem Rd.blk {w0 : World} {g k : Nat} {cs : Array Value} {t : TypeId} {v : Value} {L : List As} (h : cs[k]? = some v) : Rd w0 (Ytkcbjkadalebjaa.blk g cs t :: L) ⟨g, k, none⟩ v := fun w hs => by rw [cell_of_row w g k cs t (0, 0) hs.blk.2]; exact h
/-- What the base world holds. -/
theorem Rd.old {w0 : World} {L : List As} {a : Addr} {v : Value} (h : w0.cell? a = some v) : Rd w0 L a v := fun _ hs => by rw [hs.below.cell (World.block_lt_of_cell? _ _ h)]; exact h
theorem Rd.conv {w0 : World} {p q : As} {L : List As} {a : Addr} {v : Value} (h : Rd w0 (q :: L) a v) (hc : ∀ x, p x → q x) : Rd w0 (p :: L) a v := fun _ hs => h _ (hs.conv hc)
theorem Rd.ent {w0 : World} {L M : List As} {a : Addr} {v : Value} (h : Rd w0 M a v) (hc : Ent L M) : Rd w0 L a v := fun _ hs => h _ (hs.ent hc)
theorem St.rot {w0 w : World} {p q : As} {L : List As} (hs : St w0 (p :: q :: L) w) : St w0 (q :: p :: L) w := hs.ent (Ent.swap _ _ _)
theorem Ent.push (p : As) : ∀ (L K : List As), Ent (p :: (L ++ K)) (L ++ p :: K)
  | [], _ => Ent.refl _
  | q :: L, K => (Ent.swap p q (L ++ K)).trans (Ent.cons q (Ent.push p L K))
theorem Ent.pull (p : As) : ∀ (L K : List As), Ent (L ++ p :: K) (p :: (L ++ K))
  | [], _ => Ent.refl _
  | q :: L, K => (Ent.cons q (Ent.pull p L K)).trans (Ent.swap q p (L ++ K))
/-- A store of v at a turns the assertions L into M. -/
def Wr (w0 : World) (L : List As) (a : Addr) (v : Value) (M : List As) : Prop := ∀ K w, St w0 (L ++ K) w → (∃ u, w.cell? a = some u) ∧ w.frozen? a = false ∧ St w0 (M ++ K) (w.setCell a v)
theorem Wr.blk {w0 : World} {g k : Nat} {cs : Array Value} {t : TypeId} {v : Value} {L : List As} (h : k < cs.size) : Wr w0 (Ytkcbjkadalebjaa.blk g cs t :: L) ⟨g, k, none⟩ v (Ytkcbjkadalebjaa.blk g (cs.setIfInBounds k v) t :: L) := fun K w hs => by
  have hs' : St _ (Ytkcbjkadalebjaa.blk g cs t :: (L ++ K)) w := hs
  refine ⟨⟨cs[k], by rw [cell_of_row w g k cs t (0, 0) hs'.blk.2]; exact Array.getElem?_eq_getElem h⟩, ?_, hs'.set k v⟩
  simp [World.frozen?, hs'.blk.2]
theorem Wr.tail {w0 : World} {p : As} {L M : List As} {a : Addr} {v : Value} (h : Wr w0 L a v M) : Wr w0 (p :: L) a v (p :: M) := fun K w hs => by
  obtain ⟨h1, h2, h3⟩ := h (p :: K) w (St.ent hs (Ent.push p L K))
  exact ⟨h1, h2, h3.ent (Ent.pull p M K)⟩
theorem Wr.ent {w0 : World} {a : Addr} {v : Value} {L L' M M' : List As} (h : Wr w0 L' a v M') (h1 : ∀ K, Ent (L ++ K) (L' ++ K)) (h2 : ∀ K, Ent (M' ++ K) (M ++ K)) : Wr w0 L a v M := fun K _ hs => let ⟨x, y, z⟩ := h K _ (hs.ent (h1 K)); ⟨x, y, z.ent (h2 K)⟩
theorem Wr.conv {w0 : World} {a : Addr} {v : Value} {p q p' q' : As} {L : List As} (h : Wr w0 (p' :: L) a v (q' :: L)) (h1 : ∀ x, p x → p' x) (h2 : ∀ x, q' x → q x) : Wr w0 (p :: L) a v (q :: L) := h.ent (fun _ => Ent.head h1) (fun _ => Ent.head h2)
theorem Wr.use {w0 : World} {a : Addr} {v : Value} {L M : List As} {w : World} (h : Wr w0 L a v M) (hs : St w0 L w) : (∃ u, w.cell? a = some u) ∧ w.frozen? a = false ∧ St w0 M (w.setCell a v) := by
  have := h [] w (by simpa using hs)
  simpa using this

/-! ### Slices that the call itself makes -/
/-- The slice '.slice A n cap' is the call's own, its elements' cells are xs. -/
def own (A : Option Addr) (n cap : Nat) (e : TypeId) (size : Nat) (xs : List Value) : As := fun h =>
  xs.length = n * size ∧ ((A = none ∧ n = 0 ∧ cap = 0 ∧ emp h) ∨ ∃ g cur, A = some ⟨g, 0, none⟩ ∧ n ≤ cap ∧ cap ≤ maxLen ∧ cur.size = cap * size ∧ cur.toList.take (n * size) = xs ∧ blk g cur e h)
theorem St.own_nil {w0 w : World} {L : List As} (hs : St w0 L w) (e : TypeId) (size : Nat) : St w0 (own none 0 0 e size [] :: L) w := hs.ent fun _ h => star_mono (fun _ he => ⟨by simp, .inl ⟨rfl, rfl, rfl, he⟩⟩) (fun _ x => x) (emp_star h)
theorem St.own_len {w0 w : World} {A : Option Addr} {n cap : Nat} {e : TypeId} {size : Nat} {xs : List Value} {L : List As} (hs : St w0 (own A n cap e size xs :: L) w) : xs.length = n * size ∧ n ≤ cap ∧ cap ≤ maxLen :=
  hs.fact fun _ h => ⟨h.1, by rcases h.2 with ⟨_, rfl, rfl, _⟩ | ⟨g, cur, _, h1, h2, _⟩; exact ⟨Nat.le_refl _, by simp [maxLen]⟩; exact ⟨h1, h2⟩⟩
theorem St.own_at {w0 w : World} {A : Option Addr} {n cap : Nat} {e : TypeId} {size : Nat} {xs : List Value} {L : List As} (hs : St w0 (own A n cap e size xs :: L) w) (hn : 0 < n) : ∃ g, A = some ⟨g, 0, none⟩ :=
  hs.fact fun _ h => by
    rcases h.2 with ⟨_, h0, _⟩ | ⟨g, cur, hA, _⟩
    · omega
    · exact ⟨g, hA⟩
theorem St.own_row {w0 w : World} {A : Option Addr} {n cap : Nat} {e : TypeId} {size : Nat} {xs : List Value} {L : List As} (hs : St w0 (own A n cap e size xs :: L) w) : w.ownsRow w0.heap.size e size (.slice A n cap) n xs := by
  obtain ⟨a, ⟨hl, h⟩, hh⟩ := hs.heap
  refine ⟨hl, ?_⟩
  rcases h with ⟨rfl, rfl, rfl, _⟩ | ⟨g, cur, rfl, h1, h2, h3, h4, h5⟩
  · exact .inl ⟨rfl, rfl⟩
  · have := hh g (.cells cur e (0, 0)) (by rw [show a = _ from h5]; simp)
    exact .inr ⟨g, cap, cur, rfl, this.1, this.2, h1, h2, h3, h4⟩
theorem Rd.own {w0 : World} {g n cap k : Nat} {e : TypeId} {size : Nat} {xs : List Value} {v : Value} {L : List As} (h : xs[k]? = some v) : Rd w0 (Ytkcbjkadalebjaa.own (some ⟨g, 0, none⟩) n cap e size xs :: L) ⟨g, k, none⟩ v := fun w hs => by
  have := hs.own_row.cells (g := g) rfl k v h
  have hadd : (⟨g, 0, none⟩ : Addr).add k = ⟨g, k, none⟩ := by unfold Addr.add; split <;> simp_all
  rwa [hadd] at this
theorem Wr.own {w0 : World} {g n cap k : Nat} {e : TypeId} {size : Nat} {xs : List Value} {v : Value} {L : List As} (h : k < xs.length) : Wr w0 (Ytkcbjkadalebjaa.own (some ⟨g, 0, none⟩) n cap e size xs :: L) ⟨g, k, none⟩ v (Ytkcbjkadalebjaa.own (some ⟨g, 0, none⟩) n cap e size (xs.set k v) :: L) := fun K w hs => by
  have hs' : St _ (Ytkcbjkadalebjaa.own (some ⟨g, 0, none⟩) n cap e size xs :: (L ++ K)) w := hs
  obtain ⟨a, ⟨hl, hx⟩, hh⟩ := hs'.heap
  rcases hx with ⟨h0, _⟩ | ⟨g', cur, hg, h1, h2, h3, h4, h5⟩
  · cases h0
  injection hg with hg
  injection hg with hg
  subst hg
  have hk : k < n * size := by rw [← hl]; exact h
  have hcur : k < cur.size := by rw [h3]; exact Nat.lt_of_lt_of_le hk (Nat.mul_le_mul_right _ h1)
  have hc := hh g (.cells cur e (0, 0)) (by rw [show a = _ from h5]; simp)
  refine ⟨⟨cur[k], by rw [cell_of_row w g k cur e (0, 0) hc.2]; exact Array.getElem?_eq_getElem hcur⟩, by simp [World.frozen?, hc.2], ?_⟩
  refine hs'.turn fun b hb _ => ⟨fun j => if j = g then some (.cells (cur.setIfInBounds k v) e (0, 0)) else none, ?_, rfl, rfl, rfl, by simp [World.setCell], fun j hj hlt => ?_, fun j o hj => ?_⟩
  · refine ⟨by simpa using hl, .inr ⟨g, cur.setIfInBounds k v, rfl, h1, h2, by simpa using h3, ?_, rfl⟩⟩
    rw [Array.toList_setIfInBounds, List.take_set, h4]
  · rcases hb.2 with ⟨h0, _⟩ | ⟨g', cur', hg', _, _, _, _, h5'⟩
    · cases h0
    injection hg' with hg'
    injection hg' with hg'
    subst hg'
    have hne : j ≠ g := by
      rintro rfl
      rw [show b = _ from h5'] at hj
      simp at hj
    exact ⟨by simp [hne], Below.heap_setCell w ⟨g, k, none⟩ v j hne⟩
  · have hj' : (if j = g then some (Obj.cells (cur.setIfInBounds k v) e) else none) = some o := hj
    clear hj
    split at hj'
    · rename_i e'
      subst e'
      injection hj' with hj'
      subst hj'
      refine ⟨hc.1, ?_⟩
      simp [World.setCell, Array.getElem?_modify, hc.2]
    · cases hj'
/-- Behind an append: the row owned, what has turned. -/
theorem St.own_grown {w0 w w' : World} {A A' : Option Addr} {n cap n' cap' : Nat} {e : TypeId} {size : Nat} {xs xs' : List Value} {L : List As} (hs : St w0 (own A n cap e size xs :: L) w)
    (hr : w'.ownsRow w0.heap.size e size (.slice A' n' cap') n' xs') (hg : w.grownBy w' (Value.slice A n cap).ownBlock)
    (hat : (Value.slice A' n' cap').ownBlock = (Value.slice A n cap).ownBlock ∨ (Value.slice A' n' cap').ownBlock = some w.heap.size) : St w0 (own A' n' cap' e size xs' :: L) w' := by
  refine hs.turn fun a ha hh => ?_
  obtain ⟨hl', hr'⟩ := hr
  have hlow : ∀ g, (Value.slice A n cap).ownBlock = some g → a g ≠ none ∧ w0.heap.size ≤ g := by
    intro g hgg
    rcases ha.2 with ⟨rfl, _⟩ | ⟨g', cur, rfl, _, _, _, _, h5⟩
    · simp [Value.ownBlock] at hgg
    · simp [Value.ownBlock] at hgg
      subst hgg
      rw [show a = _ from h5]
      refine ⟨by simp, ?_⟩
      exact (hh g' (.cells cur e (0, 0)) (by rw [show a = _ from h5]; simp)).1
  have hold : ∀ k, a k = none → k < w.heap.size → w'.heap[k]? = w.heap[k]? := fun k hk hlt => hg.block k hlt (fun e => (hlow k e.symm).1 hk)
  rcases hr' with ⟨hv, hn⟩ | ⟨g, cap0, cur, hv, hb, hc, h1, h2, h3, h4⟩
  · injection hv with hA hn' hc'
    subst hA; subst hc'
    exact ⟨fun _ => none, ⟨hl', .inl ⟨rfl, hn', rfl, fun _ => rfl⟩⟩, hg.os, hg.tape, hg.output, hg.size, fun k hk hlt => ⟨rfl, hold k hk hlt⟩, fun _ _ hk => by cases hk⟩
  · injection hv with hA _ hcap
    subst hA; subst hcap
    refine ⟨fun k => if k = g then some (.cells cur e (0, 0)) else none, ⟨hl', .inr ⟨g, cur, rfl, h1, h2, h3, h4, rfl⟩⟩, hg.os, hg.tape, hg.output, hg.size, fun k hk hlt => ⟨?_, hold k hk hlt⟩, fun k o hk => ?_⟩
    · have : k ≠ g := by
        rintro rfl
        rcases hat with e | e
        · exact (hlow k (by rw [← e]; rfl)).1 hk
        · simp [Value.ownBlock] at e; omega
      simp [this]
    · have hk' : (if k = g then some (Obj.cells cur e) else none) = some o := hk
      clear hk
      split at hk'
      · rename_i e'
        subst e'
        injection hk' with hk'
        subst hk'
        exact ⟨hb, hc⟩
      · cases hk'
/-- A slice that reads as some cells, wherever it lies. -/
def RdS (w0 : World) (L : List As) (A : Option Addr) (xs : List Value) : Prop := ∀ k u, xs[k]? = some u → ∃ ad, A = some ad ∧ ad.spot = none ∧ Rd w0 L ⟨ad.block, ad.off + k, none⟩ u
theorem RdS.tail {w0 : World} {p : As} {L : List As} {A : Option Addr} {xs : List Value} (h : RdS w0 L A xs) : RdS w0 (p :: L) A xs := fun k u hu => let ⟨ad, h1, h2, h3⟩ := h k u hu; ⟨ad, h1, h2, h3.tail⟩
theorem RdS.ent {w0 : World} {L M : List As} {A : Option Addr} {xs : List Value} (h : RdS w0 M A xs) (hc : Ent L M) : RdS w0 L A xs := fun k u hu => let ⟨ad, h1, h2, h3⟩ := h k u hu; ⟨ad, h1, h2, h3.ent hc⟩
theorem RdS.nil {w0 : World} {L : List As} {A : Option Addr} : RdS w0 L A [] := fun k u hu => by simp at hu
theorem RdS.own {w0 w : World} {A : Option Addr} {n cap : Nat} {e : TypeId} {size : Nat} {xs : List Value} {L : List As} (hs : St w0 (Ytkcbjkadalebjaa.own A n cap e size xs :: L) w) : RdS w0 (Ytkcbjkadalebjaa.own A n cap e size xs :: L) A xs := fun k u hu => by
  obtain ⟨g, rfl⟩ := hs.own_at (by
    have := hs.own_len.1
    rcases Nat.eq_zero_or_pos n with h0 | h0
    · subst h0; simp at this; subst this; simp at hu
    · exact h0)
  exact ⟨_, rfl, rfl, by simpa using Rd.own hu⟩
theorem RdS.blk {w0 : World} {g : Nat} {cs : Array Value} {t : TypeId} {L : List As} : RdS w0 (Ytkcbjkadalebjaa.blk g cs t :: L) (some ⟨g, 0, none⟩) cs.toList := fun k u hu => ⟨_, rfl, rfl, by simpa using Rd.blk (by simpa using hu)⟩
/-- .. at one place. -/
theorem RdS.at_ {w0 : World} {L : List As} {A : Option Addr} {xs : List Value} (h : RdS w0 L A xs) {k : Nat} (hk : k < xs.length) : ∃ b o, A = some ⟨b, o, none⟩ ∧ Rd w0 L ⟨b, o + k, none⟩ (xs[k]'hk) := by
  obtain ⟨⟨b, o, s⟩, h1, h2, h3⟩ := h k _ (List.getElem?_eq_getElem hk)
  simp only at h2
  subst h2
  exact ⟨b, o, h1, h3⟩
end Go.Proofs.Ytkcbjkadalebjaa
