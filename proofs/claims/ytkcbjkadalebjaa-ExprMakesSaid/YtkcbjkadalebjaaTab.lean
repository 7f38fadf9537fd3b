/-
  The memory of a set of numbers: a table of nodes, each a block of its own, found by level and place. No function of the program stands here.
-/
import Derived.Test.YtkcbjkadalebjaaQuiet
import Derived.Test.YtkcbjkadalebjaaWd
namespace Go.Proofs.Ytkcbjkadalebjaa
open Go Go.RowKit

/-! ### Many blocks at once -/
theorem big_perm {α : Type} {f : α → As} {ks ms : List α} (h : ks.Perm ms) : ∀ x, big (ks.map f) x → big (ms.map f) x := by
  induction h with
  | nil => exact fun _ h => h
  | cons a _ ih => exact fun x hx => star_mono (fun _ h => h) ih hx
  | swap a b l => exact fun x hx => star_left hx
  | trans _ _ ih1 ih2 => exact fun x hx => ih2 x (ih1 x hx)
theorem big_pull {α : Type} [BEq α] [LawfulBEq α] {f : α → As} {ks : List α} {k : α} (h : k ∈ ks) : ∀ x, big (ks.map f) x → star (f k) (big ((ks.erase k).map f)) x :=
  big_perm (f := f) (List.perm_cons_erase h)
theorem big_push {α : Type} [BEq α] [LawfulBEq α] {f : α → As} {ks : List α} {k : α} (h : k ∈ ks) : ∀ x, star (f k) (big ((ks.erase k).map f)) x → big (ks.map f) x :=
  big_perm (f := f) (List.perm_cons_erase h).symm
theorem big_congr {α : Type} {f g : α → As} {ks : List α} (h : ∀ k ∈ ks, f k = g k) : big (ks.map f) = big (ks.map g) := by
  rw [List.map_congr_left h]

/-! ### The table -/
abbrev Key := Nat × Nat
def kidV (G : Key → Option Nat) (l p d : Nat) : Value := .pointer (if l = 0 then none else (G (l - 1, 64 * p + d)).map fun g => ⟨g, 0, none⟩)
def nodeCells (G : Key → Option Nat) (W : Key → Nat) (n : Nat) (k : Key) : List Value :=
  .int .u64 (W k : Nat) :: (((List.range 64).map fun d => kidV G k.1 k.2 d) ++ (if k.1 = 3 then [.int .i64 (n : Nat)] else []))
def nodeTy (k : Key) : TypeId := if k.1 = 3 then 69 else 67
def ndBlk (G : Key → Option Nat) (W : Key → Nat) (n : Nat) (k : Key) : As := blk ((G k).getD 0) (nodeCells G W n k).toArray (nodeTy k)
def tbl (ks : List Key) (G : Key → Option Nat) (W : Key → Nat) (n : Nat) : As := big (ks.map (ndBlk G W n))

theorem nodeCells_word (G : Key → Option Nat) (W : Key → Nat) (n : Nat) (k : Key) : (nodeCells G W n k)[0]? = some (.int .u64 (W k : Nat)) := rfl
theorem nodeCells_kid (G : Key → Option Nat) (W : Key → Nat) (n : Nat) (k : Key) {d : Nat} (hd : d < 64) : (nodeCells G W n k)[1 + d]? = some (kidV G k.1 k.2 d) := by
  rw [Nat.add_comm, nodeCells, List.getElem?_cons_succ, List.getElem?_append_left (by simpa using hd)]
  simp [hd]
theorem nodeCells_n (G : Key → Option Nat) (W : Key → Nat) (n p : Nat) : (nodeCells G W n (3, p))[65]? = some (.int .i64 (n : Nat)) := by
  rw [nodeCells, List.getElem?_cons_succ, List.getElem?_append_right (by simp)]
  simp
theorem nodeCells_len (G : Key → Option Nat) (W : Key → Nat) (n : Nat) (k : Key) : 65 ≤ (nodeCells G W n k).length := by
  simp [nodeCells]

section
variable {w0 w : World} {L : List As} {ks : List Key} {G : Key → Option Nat} {W : Key → Nat} {n g : Nat} {k : Key}
theorem Rd.tbl_word (hk : k ∈ ks) (hg : G k = some g) : Rd w0 (tbl ks G W n :: L) ⟨g, 0, none⟩ (.int .u64 (W k : Nat)) :=
  Rd.ent (Rd.blk (g := g) (t := nodeTy k) (cs := (nodeCells G W n k).toArray) (by simpa using nodeCells_word G W n k)) (by
    have := Ent.open2 (L := L) (big_pull (f := ndBlk G W n) hk)
    rw [ndBlk, hg] at this
    exact this)
theorem Rd.tbl_kid (hk : k ∈ ks) (hg : G k = some g) {d : Nat} (hd : d < 64) : Rd w0 (tbl ks G W n :: L) ⟨g, 1 + d, none⟩ (kidV G k.1 k.2 d) :=
  Rd.ent (Rd.blk (g := g) (t := nodeTy k) (cs := (nodeCells G W n k).toArray) (by simpa using nodeCells_kid G W n k hd)) (by
    have := Ent.open2 (L := L) (big_pull (f := ndBlk G W n) hk)
    rw [ndBlk, hg] at this
    exact this)
theorem Rd.tbl_n {p : Nat} (hk : (3, p) ∈ ks) (hg : G (3, p) = some g) : Rd w0 (tbl ks G W n :: L) ⟨g, 65, none⟩ (.int .i64 (n : Nat)) :=
  Rd.ent (Rd.blk (g := g) (t := nodeTy (3, p)) (cs := (nodeCells G W n (3, p)).toArray) (by simpa using nodeCells_n G W n p)) (by
    have := Ent.open2 (L := L) (big_pull (f := ndBlk G W n) hk)
    rw [ndBlk, hg] at this
    exact this)
/-- A store into a node's block, what the other blocks hold staying. -/
theorem Wr.tbl_at {G' : Key → Option Nat} {W' : Key → Nat} {n' i : Nat} {v : Value} (hn : ks.Nodup) (hk : k ∈ ks) (hg : G k = some g) (hi : i < (nodeCells G W n k).length)
    (hsame : ∀ j ∈ ks, j ≠ k → ndBlk G' W' n' j = ndBlk G W n j) (hset : ndBlk G' W' n' k = Ytkcbjkadalebjaa.blk g ((nodeCells G W n k).set i v).toArray (nodeTy k)) :
    Wr w0 (tbl ks G W n :: L) ⟨g, i, none⟩ v (tbl ks G' W' n' :: L) := by
  have h1 : Wr w0 (Ytkcbjkadalebjaa.blk g (nodeCells G W n k).toArray (nodeTy k) :: big ((ks.erase k).map (ndBlk G W n)) :: L) ⟨g, i, none⟩ v (Ytkcbjkadalebjaa.blk g ((nodeCells G W n k).toArray.setIfInBounds i v) (nodeTy k) :: big ((ks.erase k).map (ndBlk G W n)) :: L) :=
    Wr.blk (by simpa using hi)
  refine h1.ent (fun K => ?_) (fun K => ?_)
  · have := Ent.open2 (L := L ++ K) (big_pull (f := ndBlk G W n) hk)
    rw [ndBlk, hg] at this
    exact this
  · have e : big ((ks.erase k).map (ndBlk G W n)) = big ((ks.erase k).map (ndBlk G' W' n')) := (big_congr fun j hj => by
      have hj2 := (List.Nodup.mem_erase_iff hn).1 hj
      exact hsame j hj2.2 hj2.1).symm
    have := Ent.shut2 (L := L ++ K) (big_push (f := ndBlk G' W' n') hk)
    rw [hset, ← e] at this
    rw [List.setIfInBounds_toArray]
    exact this
end

def upd {β : Type} (F : Key → β) (k : Key) (b : β) : Key → β := fun j => if j = k then b else F j
theorem upd_same {β : Type} (F : Key → β) (k : Key) (b : β) : upd F k b k = b := if_pos rfl
theorem upd_other {β : Type} (F : Key → β) {k j : Key} (b : β) (h : j ≠ k) : upd F k b j = F j := if_neg h

section
variable {w0 w : World} {L : List As} {ks : List Key} {G : Key → Option Nat} {W : Key → Nat} {n g : Nat} {k : Key}
/-- A node's word is turned. -/
theorem Wr.tbl_word (hn : ks.Nodup) (hk : k ∈ ks) (hg : G k = some g) (x : Nat) : Wr w0 (tbl ks G W n :: L) ⟨g, 0, none⟩ (.int .u64 (x : Nat)) (tbl ks G (upd W k x) n :: L) := by
  refine Wr.tbl_at hn hk hg (by have := nodeCells_len G W n k; omega) (fun j _ hj => ?_) ?_
  · unfold ndBlk nodeCells; rw [upd_other _ _ hj]
  · unfold ndBlk nodeCells; rw [upd_same, hg]; rfl
/-- How many there are is turned. -/
theorem Wr.tbl_n {T : Nat} (hn : ks.Nodup) (hk : (3, 0) ∈ ks) (hg : G (3, 0) = some T) (htop : ∀ j ∈ ks, j.1 = 3 → j.2 = 0) (m : Nat) : Wr w0 (tbl ks G W n :: L) ⟨T, 65, none⟩ (.int .i64 (m : Nat)) (tbl ks G W m :: L) := by
  refine Wr.tbl_at hn hk hg ?_ (fun j hj hj2 => ?_) ?_
  · simp [nodeCells]
  · have : j.1 ≠ 3 := fun h => hj2 (Prod.ext h (htop j hj h))
    unfold ndBlk nodeCells
    rw [if_neg this, if_neg this]
  · unfold ndBlk nodeCells
    rw [hg]
    simp
/-- A new node's cells. -/
def zeroCells : List Value := .int .u64 0 :: List.replicate 64 (.pointer none)
theorem kidV_other {G : Key → Option Nat} {k' : Key} {b : Option Nat} {l p d : Nat} (h : l = 0 ∨ (l - 1, 64 * p + d) ≠ k') : kidV (upd G k' b) l p d = kidV G l p d := by
  unfold kidV
  rcases h with h | h
  · rw [if_pos h, if_pos h]
  · rw [upd_other _ _ h]
theorem nodeCells_other {G : Key → Option Nat} {W : Key → Nat} {n : Nat} {k k' : Key} {b : Option Nat} (h : ∀ d, d < 64 → k.1 = 0 ∨ (k.1 - 1, 64 * k.2 + d) ≠ k') : nodeCells (upd G k' b) W n k = nodeCells G W n k := by
  unfold nodeCells
  congr 2
  exact List.map_congr_left fun d hd => kidV_other (h d (by simpa using hd))
theorem map_range_set {f f' : Nat → Value} {m d : Nat} (h : ∀ e, e ≠ d → f' e = f e) : (List.range m).map f' = ((List.range m).map f).set d (f' d) := by
  apply List.ext_getElem (by simp)
  intro i h1 h2
  rw [List.getElem_set]
  by_cases hi : d = i
  · subst hi; simp
  · rw [if_neg hi]
    simpa using h i (fun h => hi h.symm)
/-- A kid's pointer is turned. -/
theorem nodeCells_set {G : Key → Option Nat} {W : Key → Nat} {n l p d : Nat} {b : Option Nat} (hl : l ≠ 0) (hd : d < 64) :
    nodeCells (upd G (l - 1, 64 * p + d) b) W n (l, p) = (nodeCells G W n (l, p)).set (1 + d) (.pointer (b.map fun g => ⟨g, 0, none⟩)) := by
  unfold nodeCells
  rw [Nat.add_comm 1 d, List.set_cons_succ, List.set_append_left _ _ (by simpa using hd)]
  congr 2
  rw [map_range_set (d := d) (f := fun e => kidV G l p e) (fun e he => kidV_other (.inr (by intro h; injection h; omega)))]
  congr 1
  simp [kidV, hl, upd_same]
/-- A new node below one that has none there. -/
theorem Wr.tbl_new {l p d g' : Nat} (hn : ks.Nodup) (hk : (l, p) ∈ ks) (hg : G (l, p) = some g) (hl : l ≠ 0) (hl3 : l ≤ 3) (hd : d < 64) (hno : (l - 1, 64 * p + d) ∉ ks) (hw : W (l - 1, 64 * p + d) = 0)
    (hkids : l - 1 ≠ 0 → ∀ e, e < 64 → G (l - 1 - 1, 64 * (64 * p + d) + e) = none) :
    Wr w0 (Ytkcbjkadalebjaa.blk g' zeroCells.toArray 67 :: tbl ks G W n :: L) ⟨g, 1 + d, none⟩ (.pointer (some ⟨g', 0, none⟩)) (tbl ((l - 1, 64 * p + d) :: ks) (upd G (l - 1, 64 * p + d) (some g')) W n :: L) := by
  have hne : (l, p) ≠ (l - 1, 64 * p + d) := by intro h; injection h; omega
  have h1 : Wr w0 (tbl ks G W n :: L) ⟨g, 1 + d, none⟩ (.pointer (some ⟨g', 0, none⟩)) (tbl ks (upd G (l - 1, 64 * p + d) (some g')) W n :: L) := by
    refine Wr.tbl_at hn hk hg (by have := nodeCells_len G W n (l, p); omega) (fun j hj hj2 => ?_) ?_
    · have hjk : j ≠ (l - 1, 64 * p + d) := fun h => hno (h ▸ hj)
      unfold ndBlk
      rw [upd_other _ _ hjk, nodeCells_other fun e he => ?_]
      by_cases h0 : j.1 = 0
      · exact .inl h0
      · refine .inr fun h => hj2 ?_
        injection h with h3 h4
        exact Prod.ext (by simp only; omega) (by simp only; omega)
    · unfold ndBlk
      rw [upd_other _ _ hne, hg, nodeCells_set hl hd]
      rfl
  refine (h1.tail (p := Ytkcbjkadalebjaa.blk g' zeroCells.toArray 67)).ent (fun K => Ent.refl _) (fun K => ?_)
  refine Ent.shut2 (fun x hx => ?_)
  have e : ndBlk (upd G (l - 1, 64 * p + d) (some g')) W n (l - 1, 64 * p + d) = Ytkcbjkadalebjaa.blk g' zeroCells.toArray 67 := by
    have h3 : ¬ (l - 1 = 3) := by omega
    unfold ndBlk nodeTy nodeCells
    rw [upd_same, hw, if_neg h3, if_neg h3]
    simp only [Option.getD_some, List.append_nil]
    congr 2
    unfold zeroCells
    congr 1
    apply List.ext_getElem (by simp)
    intro i hi1 hi2
    simp only [List.length_map, List.length_range] at hi1
    rw [List.getElem_replicate, List.getElem_map, List.getElem_range]
    unfold kidV
    by_cases h0 : l - 1 = 0
    · rw [if_pos h0]
    · rw [if_neg h0, upd_other _ _ (by intro h; injection h; omega), hkids h0 i hi1]
      rfl
  show star (ndBlk _ W n _) (big (ks.map _)) x
  rw [e]
  exact hx
/-- A node below is let go. -/
theorem Wr.tbl_drop {l p d : Nat} (hn : ks.Nodup) (hk : (l, p) ∈ ks) (hg : G (l, p) = some g) (hl : l ≠ 0) (hd : d < 64) (hno : (l - 1, 64 * p + d) ∈ ks) :
    Wr w0 (tbl ks G W n :: L) ⟨g, 1 + d, none⟩ (.pointer none) (tbl (ks.erase (l - 1, 64 * p + d)) (upd G (l - 1, 64 * p + d) none) W n :: L) := by
  have hne : (l, p) ≠ (l - 1, 64 * p + d) := by intro h; injection h; omega
  have hn2 : (ks.erase (l - 1, 64 * p + d)).Nodup := hn.erase _
  have hk2 : (l, p) ∈ ks.erase (l - 1, 64 * p + d) := (List.Nodup.mem_erase_iff hn).2 ⟨hne, hk⟩
  have h1 : Wr w0 (tbl (ks.erase (l - 1, 64 * p + d)) G W n :: L) ⟨g, 1 + d, none⟩ (.pointer none) (tbl (ks.erase (l - 1, 64 * p + d)) (upd G (l - 1, 64 * p + d) none) W n :: L) := by
    refine Wr.tbl_at hn2 hk2 hg (by have := nodeCells_len G W n (l, p); omega) (fun j hj hj2 => ?_) ?_
    · have hjk : j ≠ (l - 1, 64 * p + d) := ((List.Nodup.mem_erase_iff hn).1 hj).1
      unfold ndBlk
      rw [upd_other _ _ hjk, nodeCells_other fun e he => ?_]
      by_cases h0 : j.1 = 0
      · exact .inl h0
      · refine .inr fun h => hj2 ?_
        injection h with h3 h4
        exact Prod.ext (by simp only; omega) (by simp only; omega)
    · unfold ndBlk
      rw [upd_other _ _ hne, hg, nodeCells_set hl hd]
      rfl
  intro K w hs
  have hs2 := (hs.ent (Ent.open2 (L := L ++ K) (big_pull (f := ndBlk G W n) hno))).drop
  exact h1 K w hs2
/-- A kid of the lowest level is nil as it is. -/
theorem Wr.tbl_low {p d : Nat} (hn : ks.Nodup) (hk : (0, p) ∈ ks) (hg : G (0, p) = some g) (hd : d < 64) : Wr w0 (tbl ks G W n :: L) ⟨g, 1 + d, none⟩ (.pointer none) (tbl ks G W n :: L) := by
  refine Wr.tbl_at hn hk hg (by have := nodeCells_len G W n (0, p); omega) (fun _ _ _ => rfl) ?_
  unfold ndBlk
  rw [hg]
  simp only [Option.getD_some]
  congr 2
  have hlt : 1 + d < (nodeCells G W n (0, p)).length := by have := nodeCells_len G W n (0, p); omega
  have h1 := nodeCells_kid G W n (0, p) hd
  rw [List.getElem?_eq_getElem hlt] at h1
  have h2 : (nodeCells G W n (0, p))[1 + d] = .pointer none := Option.some.inj h1
  rw [← h2, List.set_getElem_self]
end
end Go.Proofs.Ytkcbjkadalebjaa
