/-
  Expressions (expr.Arena), 6: what nodes may have on a level (plain law); join.
-/
import Derived.Test.YtkcbjkadalebjaaEx5
set_option maxRecDepth 100000
namespace Go.Proofs.Ytkcbjkadalebjaa
open Go Go.RowKit

/-- A node's word of a level (lv: a level above 0), of those ahead of it. -/
def mayK (lv : Bool) (k : Nat) : Nat := if k = 4 ∧ lv = true then 3 else k
def mayF (lv : Bool) (sw : Nat → Nat) (x : NodeE) (f : Nat → Nat) : Nat :=
  if x.k = 1 then sw (x.kids.headD 0) else if x.k = 5 then (if lv then 18446744073709551615 else notW (f (x.kids.headD 0))) else joinW (mayK lv x.k) (x.kids.map f)
def maysE (lv : Bool) (sw : Nat → Nat) (l : List NodeE) : List Nat := l.foldl (fun ws x => ws ++ [mayF lv sw x fun i => ws.getD i 0]) []
theorem mays_words (sw : Nat → Nat) (l : List NodeE) : maysE false sw l = wordsE sw l := by
  unfold maysE wordsE
  congr 1
  funext ws x
  unfold mayF wordE mayK
  simp
theorem mayF_lt {lv : Bool} {sw : Nat → Nat} (hs : ∀ s, sw s < 2 ^ 64) (x : NodeE) {f : Nat → Nat} (h : ∀ i, f i < 2 ^ 64) : mayF lv sw x f < 2 ^ 64 := by
  unfold mayF
  split
  · exact hs _
  · split
    · split
      · decide
      · exact notW_lt _
    · exact joinW_lt fun v hv => by
        obtain ⟨i, _, rfl⟩ := List.mem_map.1 hv
        exact h i
theorem mayF_congr {lv : Bool} {sw : Nat → Nat} {x : NodeE} {f g : Nat → Nat} (h : x.k ≠ 1 → ∀ y ∈ x.kids, f y = g y) (h5 : x.k = 5 → x.kids.length = 1) : mayF lv sw x f = mayF lv sw x g := by
  unfold mayF
  split
  · rfl
  · rename_i h1
    split
    · rename_i hk
      split
      · rfl
      · congr 1
        refine h h1 _ ?_
        have := h5 hk
        cases hh : x.kids with
        | nil => rw [hh] at this; cases this
        | cons a t => simp
    · congr 1
      exact List.map_congr_left fun y hy => h h1 y hy
theorem mays_aux {lv : Bool} {sw : Nat → Nat} : ∀ (l : List NodeE) (ws : List Nat), ∃ t, l.foldl (fun ws x => ws ++ [mayF lv sw x fun i => ws.getD i 0]) ws = ws ++ t ∧ t.length = l.length ∧
    ∀ i x, l[i]? = some x → t[i]? = some (mayF lv sw x fun j => ((ws ++ t).take (ws.length + i)).getD j 0)
  | [], ws => ⟨[], by simp, rfl, fun i x h => by simp at h⟩
  | x :: l, ws => by
    obtain ⟨t, h1, h2, h3⟩ := mays_aux l (ws ++ [mayF lv sw x fun i => ws.getD i 0])
    refine ⟨mayF lv sw x (fun i => ws.getD i 0) :: t, by rw [List.foldl_cons, h1]; simp, by simp [h2], fun i y hy => ?_⟩
    cases i with
    | zero =>
      simp at hy
      subst hy
      simp
    | succ i =>
      have := h3 i y (by simpa using hy)
      rw [List.getElem?_cons_succ, this, show ws.length + (i + 1) = (ws ++ [mayF lv sw x fun i => ws.getD i 0]).length + i by simp; omega]
      simp
theorem mays_len (lv : Bool) (sw : Nat → Nat) (l : List NodeE) : (maysE lv sw l).length = l.length := by
  obtain ⟨t, h1, h2, _⟩ := mays_aux (lv := lv) (sw := sw) l []
  unfold maysE
  rw [h1, List.nil_append, h2]
/-- Each node's word comes of its kids' words. -/
theorem mays_at {lv : Bool} {sw : Nat → Nat} {l : List NodeE} {m : Nat} (hok : ArOk l m) {i : Nat} {x : NodeE} (hx : l[i]? = some x) {f : Nat → Nat} (hf : x.k ≠ 1 → ∀ y ∈ x.kids, f y = (maysE lv sw l).getD y 0) : (maysE lv sw l).getD i 0 = mayF lv sw x f := by
  obtain ⟨t, h1, h2, h3⟩ := mays_aux (lv := lv) (sw := sw) l []
  have he : maysE lv sw l = t := by unfold maysE; rw [h1, List.nil_append]
  rw [he] at hf ⊢
  rw [List.getD_eq_getElem?_getD, h3 i x hx]
  refine mayF_congr (fun hk y hy => ?_) (hok.not i x hx)
  rw [hf hk y hy]
  simp only [List.nil_append, List.length_nil, Nat.zero_add]
  rw [List.getD_eq_getElem?_getD, List.getD_eq_getElem?_getD, List.getElem?_take_of_lt (hok.low i x hx hk y hy)]
theorem mays_lt {lv : Bool} {sw : Nat → Nat} (hs : ∀ s, sw s < 2 ^ 64) (l : List NodeE) (i : Nat) : (maysE lv sw l).getD i 0 < 2 ^ 64 := by
  suffices h : ∀ (l : List NodeE) (ws : List Nat), (∀ v ∈ ws, v < 2 ^ 64) → ∀ v ∈ l.foldl (fun ws x => ws ++ [mayF lv sw x fun i => ws.getD i 0]) ws, v < 2 ^ 64 from getD_lt (h l [] fun _ h => nomatch h) i
  intro l
  induction l with
  | nil => intro ws h; exact h
  | cons x l ih =>
    intro ws h
    rw [List.foldl_cons]
    refine ih _ fun v hv => ?_
    rcases List.mem_append.1 hv with h1 | h1
    · exact h v h1
    · rw [List.mem_singleton.1 h1]; exact mayF_lt hs x fun i => getD_lt h i

/-! ### join -/
def joinA (k : Nat) (l : List Nat) (w : Nat) : Nat := l.foldl (fun w v => if k = 2 then w &&& v else if k = 3 then w ||| v else w ^^^ v) w
theorem joinA_snoc (k : Nat) (l : List Nat) (v w : Nat) : joinA k (l ++ [v]) w = if k = 2 then joinA k l w &&& v else if k = 3 then joinA k l w ||| v else joinA k l w ^^^ v := by simp [joinA]
theorem joinA_lt {k : Nat} {l : List Nat} {w : Nat} (hw : w < 2 ^ 64) (h : ∀ v ∈ l, v < 2 ^ 64) : joinA k l w < 2 ^ 64 := joinW_lt_aux l w hw h
theorem xor_u64 (x y : Nat) (hx : x < 2 ^ 64) (hy : y < 2 ^ 64) : bits .xor .u64 (x : Int) (y : Int) = ((x ^^^ y : Nat) : Int) := by
  have h : x ^^^ y < 2 ^ 64 := Nat.xor_lt_two_pow hx hy
  show IntKind.u64.wrap ((BitVec.ofInt 64 (x : Int) ^^^ BitVec.ofInt 64 (y : Int)).toNat : Int) = _
  rw [BitVec.toNat_xor, ofInt_u64 x (by omega), ofInt_u64 y (by omega), IntKind.wrap_u64]
  omega
attribute [local irreducible] wpList Calls Code.wp joinA joinW mayF maysE
set_option maxHeartbeats 1000000 in
theorem join_c {w : World} {k n cap : Nat} (hk : k = 2 ∨ k = 3 ∨ k = 4) {A : Option Addr} {xs : List Nat} (hn : Hid (xs.length = n)) (hn2 : n ≤ 64) (hr : ∀ (j x : Nat), xs[j]? = some x → ∃ b, A = some ⟨b, 0, none⟩ ∧ w.cell? ⟨b, j, none⟩ = some (.int .u64 (x : Nat))) (hlt : ∀ v ∈ xs, v < 2 ^ 64)
    {y : Nat} (hy : Hid (joinW k xs = y)) :
    Calls Try.prog 51 #[.int .i64 (k : Nat), .slice A n cap] w fun e w' => e = .returned (.int .u64 (y : Nat)) ∧ w' = w := by
  rcases hk with rfl | rfl | rfl
  · skip
    have HJ : Hid (joinA 2 (xs.take 0) 18446744073709551615 = 18446744073709551615) := by rw [List.take_zero]; unfold joinA; rfl
    have HY : Hid (joinA 2 xs 18446744073709551615 = y) := by rw [← hy.out]; unfold joinW joinA; rfl
    have HB : Hid (∀ j, joinA 2 (xs.take j) 18446744073709551615 < 2 ^ 64) := fun j => joinA_lt (by decide) fun v hv => hlt v (List.mem_of_mem_take hv)
    go_enter Try.func51, Try.ntmps51
    go_wp2
    go_loop [5, 14] (fun xv cv => ∃ j v : Nat, j ≤ n ∧ cv = .int .i64 (j : Nat) ∧ xv = .int .u64 (v : Nat) ∧ Hid (joinA 2 (xs.take j) 18446744073709551615 = v)) (fun _ cv => n - (intOf cv).toNat)
    case atStart => exact ⟨0, 18446744073709551615, Nat.zero_le _, rfl, by first | rfl | decide, HJ⟩
    case round =>
      obtain ⟨j, v, hj, rfl, rfl, HV⟩ := hrel
      by_cases hl2 : j < n
      · obtain ⟨x, hx⟩ : ∃ x, xs[j]? = some x := ⟨_, List.getElem?_eq_getElem (by rw [hn.out]; exact hl2)⟩
        obtain ⟨b, rfl, hc⟩ := hr j x hx
        have ho := and_u64 v x (by rw [← HV.out]; exact HB.out j) (hlt x (List.mem_of_getElem? hx))
        have HS : Hid (joinA 2 (xs.take (j + 1)) 18446744073709551615 = v &&& x) := by
          rw [Hid, List.take_add_one, hx]
          show joinA 2 (xs.take j ++ [x]) 18446744073709551615 = _
          rw [joinA_snoc, HV.out]
          rfl
        clear hx
        go_wp2
        go_round
        case rel => exact ⟨j + 1, v &&& x, by omega, by go_num, rfl, HS⟩
        case measure => simp [intOf] <;> omega
      · have hjn : j = n := by omega
        subst hjn
        go_wp2
        go_ret
        have h3 := HV.out
        rw [List.take_of_length_le (by rw [hn.out]; exact Nat.le_refl _), HY.out] at h3
        subst h3
        exact ⟨rfl, rfl⟩
  · skip
    have HJ : Hid (joinA 3 (xs.take 0) 0 = 0) := by rw [List.take_zero]; unfold joinA; rfl
    have HY : Hid (joinA 3 xs 0 = y) := by rw [← hy.out]; unfold joinW joinA; rfl
    have HB : Hid (∀ j, joinA 3 (xs.take j) 0 < 2 ^ 64) := fun j => joinA_lt (by decide) fun v hv => hlt v (List.mem_of_mem_take hv)
    go_enter Try.func51, Try.ntmps51
    go_wp2
    go_loop [5, 14] (fun xv cv => ∃ j v : Nat, j ≤ n ∧ cv = .int .i64 (j : Nat) ∧ xv = .int .u64 (v : Nat) ∧ Hid (joinA 3 (xs.take j) 0 = v)) (fun _ cv => n - (intOf cv).toNat)
    case atStart => exact ⟨0, 0, Nat.zero_le _, rfl, by first | rfl | decide, HJ⟩
    case round =>
      obtain ⟨j, v, hj, rfl, rfl, HV⟩ := hrel
      by_cases hl2 : j < n
      · obtain ⟨x, hx⟩ : ∃ x, xs[j]? = some x := ⟨_, List.getElem?_eq_getElem (by rw [hn.out]; exact hl2)⟩
        obtain ⟨b, rfl, hc⟩ := hr j x hx
        have ho := or_u64 v x (by rw [← HV.out]; exact HB.out j) (hlt x (List.mem_of_getElem? hx))
        have HS : Hid (joinA 3 (xs.take (j + 1)) 0 = v ||| x) := by
          rw [Hid, List.take_add_one, hx]
          show joinA 3 (xs.take j ++ [x]) 0 = _
          rw [joinA_snoc, HV.out]
          rfl
        clear hx
        go_wp2
        go_round
        case rel => exact ⟨j + 1, v ||| x, by omega, by go_num, rfl, HS⟩
        case measure => simp [intOf] <;> omega
      · have hjn : j = n := by omega
        subst hjn
        go_wp2
        go_ret
        have h3 := HV.out
        rw [List.take_of_length_le (by rw [hn.out]; exact Nat.le_refl _), HY.out] at h3
        subst h3
        exact ⟨rfl, rfl⟩
  · skip
    have HJ : Hid (joinA 4 (xs.take 0) 0 = 0) := by rw [List.take_zero]; unfold joinA; rfl
    have HY : Hid (joinA 4 xs 0 = y) := by rw [← hy.out]; unfold joinW joinA; rfl
    have HB : Hid (∀ j, joinA 4 (xs.take j) 0 < 2 ^ 64) := fun j => joinA_lt (by decide) fun v hv => hlt v (List.mem_of_mem_take hv)
    go_enter Try.func51, Try.ntmps51
    go_wp2
    go_loop [5, 14] (fun xv cv => ∃ j v : Nat, j ≤ n ∧ cv = .int .i64 (j : Nat) ∧ xv = .int .u64 (v : Nat) ∧ Hid (joinA 4 (xs.take j) 0 = v)) (fun _ cv => n - (intOf cv).toNat)
    case atStart => exact ⟨0, 0, Nat.zero_le _, rfl, by first | rfl | decide, HJ⟩
    case round =>
      obtain ⟨j, v, hj, rfl, rfl, HV⟩ := hrel
      by_cases hl2 : j < n
      · obtain ⟨x, hx⟩ : ∃ x, xs[j]? = some x := ⟨_, List.getElem?_eq_getElem (by rw [hn.out]; exact hl2)⟩
        obtain ⟨b, rfl, hc⟩ := hr j x hx
        have ho := xor_u64 v x (by rw [← HV.out]; exact HB.out j) (hlt x (List.mem_of_getElem? hx))
        have HS : Hid (joinA 4 (xs.take (j + 1)) 0 = v ^^^ x) := by
          rw [Hid, List.take_add_one, hx]
          show joinA 4 (xs.take j ++ [x]) 0 = _
          rw [joinA_snoc, HV.out]
          rfl
        clear hx
        go_wp2
        go_round
        case rel => exact ⟨j + 1, v ^^^ x, by omega, by go_num, rfl, HS⟩
        case measure => simp [intOf] <;> omega
      · have hjn : j = n := by omega
        subst hjn
        go_wp2
        go_ret
        have h3 := HV.out
        rw [List.take_of_length_le (by rw [hn.out]; exact Nat.le_refl _), HY.out] at h3
        subst h3
        exact ⟨rfl, rfl⟩
end Go.Proofs.Ytkcbjkadalebjaa
