/-
  Expressions, plain law: nodes, what numbers a node has, words of nodes. No program stands here.
-/
import Derived.Test.YtkcbjkadalebjaaWd
set_option maxRecDepth 100000
namespace Go.Proofs.Ytkcbjkadalebjaa
open Go

/-- A node of an arena: its kind (1 a set, 2 and, 3 or, 4 xor, 5 not), its kids. -/
structure NodeE where
  k : Nat
  kids : List Nat
def notW (x : Nat) : Nat := 18446744073709551615 - x
/-- What kids' words come to. -/
def joinW (k : Nat) (l : List Nat) : Nat := l.foldl (fun w v => if k = 2 then w &&& v else if k = 3 then w ||| v else w ^^^ v) (if k = 2 then 18446744073709551615 else 0)
def joinB (k : Nat) (l : List Bool) : Bool := l.foldl (fun w v => if k = 2 then w && v else if k = 3 then w || v else w ^^ v) (decide (k = 2))
/-- A node's word, of the words ahead of it; sets' words by their numbers. -/
def wordE (sw : Nat → Nat) (x : NodeE) (ws : List Nat) : Nat :=
  if x.k = 1 then sw (x.kids.headD 0) else if x.k = 5 then notW (ws.getD (x.kids.headD 0) 0) else joinW x.k (x.kids.map fun i => ws.getD i 0)
def wordsE (sw : Nat → Nat) (l : List NodeE) : List Nat := l.foldl (fun ws x => ws ++ [wordE sw x ws]) []
/-- Has a node a number? -/
def tellE (sb : Nat → Bool) (x : NodeE) (bs : List Bool) : Bool :=
  if x.k = 1 then sb (x.kids.headD 0) else if x.k = 5 then !bs.getD (x.kids.headD 0) false else joinB x.k (x.kids.map fun i => bs.getD i false)
def tellsE (sb : Nat → Bool) (l : List NodeE) : List Bool := l.foldl (fun bs x => bs ++ [tellE sb x bs]) []
theorem notW_lt (x : Nat) : notW x < 2 ^ 64 := by unfold notW; omega
theorem notW_bit {x d : Nat} (hx : x < 2 ^ 64) (hd : d < 64) : (notW x).testBit d = !x.testBit d := by
  have e : notW x = 2 ^ 64 - (x + 1) := by unfold notW; omega
  rw [e, Nat.testBit_two_pow_sub_succ hx, decide_eq_true hd, Bool.true_and]
theorem full_bit {d : Nat} (hd : d < 64) : (18446744073709551615 : Nat).testBit d = true := by
  have : (18446744073709551615 : Nat) = 2 ^ 64 - 1 := by decide
  rw [this, Nat.testBit_two_pow_sub_one, decide_eq_true hd]
theorem joinW_bit_aux {k d : Nat} : ∀ (l : List Nat) (w : Nat) (b : Bool), w.testBit d = b →
    (l.foldl (fun w v => if k = 2 then w &&& v else if k = 3 then w ||| v else w ^^^ v) w).testBit d = (l.map fun v => v.testBit d).foldl (fun w v => if k = 2 then w && v else if k = 3 then w || v else w ^^ v) b
  | [], _, _, h => h
  | v :: l, w, b, h => by
    simp only [List.foldl_cons, List.map_cons]
    refine joinW_bit_aux l _ _ ?_
    split
    · rw [Nat.testBit_and, h]
    · split
      · rw [Nat.testBit_or, h]
      · rw [Nat.testBit_xor, h]
theorem joinW_bit {k d : Nat} (hd : d < 64) (l : List Nat) : (joinW k l).testBit d = joinB k (l.map fun v => v.testBit d) := by
  unfold joinW joinB
  refine joinW_bit_aux l _ _ ?_
  split
  · rename_i h; rw [full_bit hd, decide_eq_true h]
  · rename_i h; rw [decide_eq_false h]; exact Nat.zero_testBit d
theorem joinW_lt_aux {k : Nat} : ∀ (l : List Nat) (w : Nat), w < 2 ^ 64 → (∀ v ∈ l, v < 2 ^ 64) →
    l.foldl (fun w v => if k = 2 then w &&& v else if k = 3 then w ||| v else w ^^^ v) w < 2 ^ 64
  | [], _, h, _ => h
  | v :: l, w, h, hl => by
    rw [List.foldl_cons]
    have hv := hl v List.mem_cons_self
    refine joinW_lt_aux l _ ?_ fun u hu => hl u (List.mem_cons_of_mem _ hu)
    split
    · exact Nat.and_lt_two_pow _ hv
    · split
      · exact Nat.or_lt_two_pow h hv
      · exact Nat.xor_lt_two_pow h hv
theorem joinW_lt {k : Nat} {l : List Nat} (h : ∀ v ∈ l, v < 2 ^ 64) : joinW k l < 2 ^ 64 := joinW_lt_aux l _ (by split <;> decide) h
theorem getD_bit (ws : List Nat) (i d : Nat) : (ws.getD i 0).testBit d = (ws.map fun v => v.testBit d).getD i false := by
  rw [List.getD_eq_getElem?_getD, List.getD_eq_getElem?_getD, List.getElem?_map]
  cases ws[i]? with
  | none => exact Nat.zero_testBit d
  | some v => rfl
theorem getD_lt {ws : List Nat} (h : ∀ v ∈ ws, v < 2 ^ 64) (i : Nat) : ws.getD i 0 < 2 ^ 64 := by
  rw [List.getD_eq_getElem?_getD]
  cases he : ws[i]? with
  | none => decide
  | some v => exact h v (List.mem_of_getElem? he)
theorem wordE_lt {sw : Nat → Nat} (hs : ∀ s, sw s < 2 ^ 64) (x : NodeE) {ws : List Nat} (h : ∀ v ∈ ws, v < 2 ^ 64) : wordE sw x ws < 2 ^ 64 := by
  unfold wordE
  split
  · exact hs _
  · split
    · exact notW_lt _
    · exact joinW_lt fun v hv => by
        obtain ⟨i, _, rfl⟩ := List.mem_map.1 hv
        exact getD_lt h i
theorem wordE_bit {sw : Nat → Nat} {d : Nat} (hd : d < 64) (x : NodeE) {ws : List Nat} (h : ∀ v ∈ ws, v < 2 ^ 64) : (wordE sw x ws).testBit d = tellE (fun s => (sw s).testBit d) x (ws.map fun v => v.testBit d) := by
  unfold wordE tellE
  split
  · rfl
  · split
    · rw [notW_bit (getD_lt h _) hd, getD_bit]
    · rw [joinW_bit hd, List.map_map]
      congr 1
      refine List.map_congr_left fun i _ => ?_
      exact getD_bit ws i d
theorem wordsE_aux {sw : Nat → Nat} (hs : ∀ s, sw s < 2 ^ 64) {d : Nat} (hd : d < 64) : ∀ (l : List NodeE) (ws : List Nat), (∀ v ∈ ws, v < 2 ^ 64) →
    (∀ v ∈ l.foldl (fun ws x => ws ++ [wordE sw x ws]) ws, v < 2 ^ 64) ∧
    (l.foldl (fun ws x => ws ++ [wordE sw x ws]) ws).map (fun v => v.testBit d) = l.foldl (fun bs x => bs ++ [tellE (fun s => (sw s).testBit d) x bs]) (ws.map fun v => v.testBit d)
  | [], _, h => ⟨h, rfl⟩
  | x :: l, ws, h => by
    rw [List.foldl_cons, List.foldl_cons]
    have := wordsE_aux hs hd l (ws ++ [wordE sw x ws]) fun v hv => by
      rcases List.mem_append.1 hv with h1 | h1
      · exact h v h1
      · rw [List.mem_singleton.1 h1]; exact wordE_lt hs x h
    refine ⟨this.1, ?_⟩
    rw [this.2, List.map_append, List.map_cons, List.map_nil, wordE_bit hd x h]
/-- Words of nodes, number by number. -/
theorem wordsE_bit {sw : Nat → Nat} (hs : ∀ s, sw s < 2 ^ 64) {d : Nat} (hd : d < 64) (l : List NodeE) (n : Nat) : ((wordsE sw l).getD n 0).testBit d = (tellsE (fun s => (sw s).testBit d) l).getD n false := by
  rw [getD_bit]
  congr 1
  exact (wordsE_aux hs hd l [] fun _ h => nomatch h).2
theorem wordsE_lt {sw : Nat → Nat} (hs : ∀ s, sw s < 2 ^ 64) (l : List NodeE) : ∀ v ∈ wordsE sw l, v < 2 ^ 64 := (wordsE_aux hs (d := 0) (by decide) l [] fun _ h => nomatch h).1
end Go.Proofs.Ytkcbjkadalebjaa
