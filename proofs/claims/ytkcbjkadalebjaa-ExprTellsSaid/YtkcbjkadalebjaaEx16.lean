/-
  The document's Words and Tells.
-/
import Derived.Test.YtkcbjkadalebjaaExLo
set_option maxRecDepth 100000
namespace Go.Proofs.Ytkcbjkadalebjaa
open Go Go.RowKit
attribute [local irreducible] wpList Calls Code.wp joinA joinW wordS exTell

/-- Words in memory. -/
def WdsR (w : World) (A : Option Addr) (ws : List Nat) : Prop := ∀ (j x : Nat), ws[j]? = some x → ∃ b, A = some ⟨b, 0, none⟩ ∧ w.cell? ⟨b, j, none⟩ = some (.int .u64 (x : Nat))
theorem WdsR.own {w0 w : World} {A : Option Addr} {n c : Nat} {e : TypeId} {ws : List Nat} {L : List As} (hs : St w0 (own A n c e 1 (u64s ws) :: L) w) : WdsR w A ws := fun j x hx => by
  have hl : 0 < n := by
    have h1 := hs.own_len.1
    rw [u64s_len, Nat.mul_one] at h1
    have := (List.getElem?_eq_some_iff.1 hx).1
    omega
  obtain ⟨b, rfl⟩ := hs.own_at hl
  refine ⟨b, rfl, Rd.own ?_ _ hs⟩
  unfold u64s
  rw [List.getElem?_map, hx]
  rfl
theorem WdsR.grew {w w' : World} {A : Option Addr} {ws : List Nat} (h : WdsR w A ws) (hg : Grew w w') : WdsR w' A ws := fun j x hx => let ⟨b, h1, h2⟩ := h j x hx; ⟨b, h1, hg.cell h2⟩
set_option maxHeartbeats 1000000 in
theorem rjoin_c {w : World} {k n m cap cap2 : Nat} (hk3 : k = 2 ∨ k = 3 ∨ k = 4) {B A : Option Addr} {kids ws : List Nat} (hn : Hid (kids.length = n)) (hn2 : n ≤ 64) (hk : KidsR w B (natI kids)) (hm : Hid (ws.length = m)) (hr : WdsR w A ws) (hlt : ∀ v ∈ ws, v < 2 ^ 64)
    (HI : Hid (∀ i ∈ kids, i < m)) {y : Nat} (hy : Hid (joinW k (kids.map fun i => ws.getD i 0) = y)) :
    Calls Try.prog 57 #[.int .i64 (k : Nat), .slice B n cap, .slice A m cap2] w fun e w' => e = .returned (.int .u64 (y : Nat)) ∧ Grew w w' := by
  rcases hk3 with rfl | rfl | rfl
  · skip
    have HJ : Hid (joinA 2 ((kids.map fun i => ws.getD i 0).take 0) 18446744073709551615 = 18446744073709551615) := by rw [List.take_zero]; unfold joinA; rfl
    have HY : Hid (joinA 2 (kids.map fun i => ws.getD i 0) 18446744073709551615 = y) := by rw [← hy.out]; unfold joinW joinA; rfl
    have HB : Hid (∀ j, joinA 2 ((kids.map fun i => ws.getD i 0).take j) 18446744073709551615 < 2 ^ 64) := fun j => joinA_lt (by decide) fun v hv => by
      obtain ⟨i, _, rfl⟩ := List.mem_map.1 (List.mem_of_mem_take hv)
      exact getD_lt hlt i
    go_enter Try.func57, Try.ntmps57
    go_wp2
    go_loop [7, 8] (fun xv cv => ∃ j v : Nat, j ≤ n ∧ cv = .int .i64 (j : Nat) ∧ xv = .int .u64 (v : Nat) ∧ Hid (joinA 2 ((kids.map fun i => ws.getD i 0).take j) 18446744073709551615 = v)) (fun _ cv => n - (intOf cv).toNat)
    case atStart => exact ⟨0, 18446744073709551615, Nat.zero_le _, rfl, by first | rfl | decide, HJ⟩
    case round =>
      obtain ⟨j, v, hj, rfl, rfl, HV⟩ := hrel
      by_cases hl2 : j < n
      · obtain ⟨i, hi⟩ : ∃ i, kids[j]? = some i := ⟨_, List.getElem?_eq_getElem (by rw [hn.out]; exact hl2)⟩
        have him := HI.out i (List.mem_of_getElem? hi)
        obtain ⟨b, o, rfl, hc⟩ := hk j (i : Int) (by unfold natI; rw [List.getElem?_map, hi]; rfl)
        obtain ⟨x, hx⟩ : ∃ x, ws[i]? = some x := ⟨_, List.getElem?_eq_getElem (by rw [hm.out]; exact him)⟩
        have hx2 : ws.getD i 0 = x := by rw [List.getD_eq_getElem?_getD, hx]; rfl
        obtain ⟨b2, rfl, hc2⟩ := hr i x hx
        have ho := and_u64 v x (by rw [← HV.out]; exact HB.out j) (by rw [← hx2]; exact getD_lt hlt i)
        have HS : Hid (joinA 2 ((kids.map fun i => ws.getD i 0).take (j + 1)) 18446744073709551615 = v &&& x) := by
          rw [Hid, List.take_add_one, List.getElem?_map, hi]
          show joinA 2 ((kids.map fun i => ws.getD i 0).take j ++ [ws.getD i 0]) 18446744073709551615 = _
          rw [joinA_snoc, HV.out, hx2]
          rfl
        clear hi hx hx2
        go_wp2
        go_round
        case rel => exact ⟨j + 1, v &&& x, by omega, by go_num, rfl, HS⟩
        case measure => simp [intOf] <;> omega
      · have hjn : j = n := by omega
        subst hjn
        go_wp2
        go_ret
        have h3 := HV.out
        rw [List.take_of_length_le (by rw [List.length_map, hn.out]; exact Nat.le_refl _), HY.out] at h3
        subst h3
        exact ⟨rfl, Grew.refl _⟩
  · skip
    have HJ : Hid (joinA 3 ((kids.map fun i => ws.getD i 0).take 0) 0 = 0) := by rw [List.take_zero]; unfold joinA; rfl
    have HY : Hid (joinA 3 (kids.map fun i => ws.getD i 0) 0 = y) := by rw [← hy.out]; unfold joinW joinA; rfl
    have HB : Hid (∀ j, joinA 3 ((kids.map fun i => ws.getD i 0).take j) 0 < 2 ^ 64) := fun j => joinA_lt (by decide) fun v hv => by
      obtain ⟨i, _, rfl⟩ := List.mem_map.1 (List.mem_of_mem_take hv)
      exact getD_lt hlt i
    go_enter Try.func57, Try.ntmps57
    go_wp2
    go_loop [7, 8] (fun xv cv => ∃ j v : Nat, j ≤ n ∧ cv = .int .i64 (j : Nat) ∧ xv = .int .u64 (v : Nat) ∧ Hid (joinA 3 ((kids.map fun i => ws.getD i 0).take j) 0 = v)) (fun _ cv => n - (intOf cv).toNat)
    case atStart => exact ⟨0, 0, Nat.zero_le _, rfl, by first | rfl | decide, HJ⟩
    case round =>
      obtain ⟨j, v, hj, rfl, rfl, HV⟩ := hrel
      by_cases hl2 : j < n
      · obtain ⟨i, hi⟩ : ∃ i, kids[j]? = some i := ⟨_, List.getElem?_eq_getElem (by rw [hn.out]; exact hl2)⟩
        have him := HI.out i (List.mem_of_getElem? hi)
        obtain ⟨b, o, rfl, hc⟩ := hk j (i : Int) (by unfold natI; rw [List.getElem?_map, hi]; rfl)
        obtain ⟨x, hx⟩ : ∃ x, ws[i]? = some x := ⟨_, List.getElem?_eq_getElem (by rw [hm.out]; exact him)⟩
        have hx2 : ws.getD i 0 = x := by rw [List.getD_eq_getElem?_getD, hx]; rfl
        obtain ⟨b2, rfl, hc2⟩ := hr i x hx
        have ho := or_u64 v x (by rw [← HV.out]; exact HB.out j) (by rw [← hx2]; exact getD_lt hlt i)
        have HS : Hid (joinA 3 ((kids.map fun i => ws.getD i 0).take (j + 1)) 0 = v ||| x) := by
          rw [Hid, List.take_add_one, List.getElem?_map, hi]
          show joinA 3 ((kids.map fun i => ws.getD i 0).take j ++ [ws.getD i 0]) 0 = _
          rw [joinA_snoc, HV.out, hx2]
          rfl
        clear hi hx hx2
        go_wp2
        go_round
        case rel => exact ⟨j + 1, v ||| x, by omega, by go_num, rfl, HS⟩
        case measure => simp [intOf] <;> omega
      · have hjn : j = n := by omega
        subst hjn
        go_wp2
        go_ret
        have h3 := HV.out
        rw [List.take_of_length_le (by rw [List.length_map, hn.out]; exact Nat.le_refl _), HY.out] at h3
        subst h3
        exact ⟨rfl, Grew.refl _⟩
  · skip
    have HJ : Hid (joinA 4 ((kids.map fun i => ws.getD i 0).take 0) 0 = 0) := by rw [List.take_zero]; unfold joinA; rfl
    have HY : Hid (joinA 4 (kids.map fun i => ws.getD i 0) 0 = y) := by rw [← hy.out]; unfold joinW joinA; rfl
    have HB : Hid (∀ j, joinA 4 ((kids.map fun i => ws.getD i 0).take j) 0 < 2 ^ 64) := fun j => joinA_lt (by decide) fun v hv => by
      obtain ⟨i, _, rfl⟩ := List.mem_map.1 (List.mem_of_mem_take hv)
      exact getD_lt hlt i
    go_enter Try.func57, Try.ntmps57
    go_wp2
    go_loop [7, 8] (fun xv cv => ∃ j v : Nat, j ≤ n ∧ cv = .int .i64 (j : Nat) ∧ xv = .int .u64 (v : Nat) ∧ Hid (joinA 4 ((kids.map fun i => ws.getD i 0).take j) 0 = v)) (fun _ cv => n - (intOf cv).toNat)
    case atStart => exact ⟨0, 0, Nat.zero_le _, rfl, by first | rfl | decide, HJ⟩
    case round =>
      obtain ⟨j, v, hj, rfl, rfl, HV⟩ := hrel
      by_cases hl2 : j < n
      · obtain ⟨i, hi⟩ : ∃ i, kids[j]? = some i := ⟨_, List.getElem?_eq_getElem (by rw [hn.out]; exact hl2)⟩
        have him := HI.out i (List.mem_of_getElem? hi)
        obtain ⟨b, o, rfl, hc⟩ := hk j (i : Int) (by unfold natI; rw [List.getElem?_map, hi]; rfl)
        obtain ⟨x, hx⟩ : ∃ x, ws[i]? = some x := ⟨_, List.getElem?_eq_getElem (by rw [hm.out]; exact him)⟩
        have hx2 : ws.getD i 0 = x := by rw [List.getD_eq_getElem?_getD, hx]; rfl
        obtain ⟨b2, rfl, hc2⟩ := hr i x hx
        have ho := xor_u64 v x (by rw [← HV.out]; exact HB.out j) (by rw [← hx2]; exact getD_lt hlt i)
        have HS : Hid (joinA 4 ((kids.map fun i => ws.getD i 0).take (j + 1)) 0 = v ^^^ x) := by
          rw [Hid, List.take_add_one, List.getElem?_map, hi]
          show joinA 4 ((kids.map fun i => ws.getD i 0).take j ++ [ws.getD i 0]) 0 = _
          rw [joinA_snoc, HV.out, hx2]
          rfl
        clear hi hx hx2
        go_wp2
        go_round
        case rel => exact ⟨j + 1, v ^^^ x, by omega, by go_num, rfl, HS⟩
        case measure => simp [intOf] <;> omega
      · have hjn : j = n := by omega
        subst hjn
        go_wp2
        go_ret
        have h3 := HV.out
        rw [List.take_of_length_le (by rw [List.length_map, hn.out]; exact Nat.le_refl _), HY.out] at h3
        subst h3
        exact ⟨rfl, Grew.refl _⟩
set_option maxHeartbeats 1000000 in
theorem rjoin_not {w : World} {m cap cap2 i x : Nat} {B A : Option Addr} {ws : List Nat} (hk : KidsR w B (natI [i])) (hm : Hid (ws.length = m)) (hr : WdsR w A ws) (hlt : ∀ v ∈ ws, v < 2 ^ 64) (hx : ws[i]? = some x) :
    Calls Try.prog 57 #[.int .i64 5, .slice B 1 cap, .slice A m cap2] w fun e w' => e = .returned (.int .u64 (notW x : Nat)) ∧ Grew w w' := by
  obtain ⟨b, o, rfl, hc⟩ := hk 0 (i : Int) rfl
  rw [Nat.add_zero] at hc
  obtain ⟨b2, rfl, hc2⟩ := hr i x hx
  have hx64 := hlt x (List.mem_of_getElem? hx)
  have him : i < m := by rw [← hm.out]; exact (List.getElem?_eq_some_iff.1 hx).1
  have HNO := not_u64 hx64
  clear hx hk hr hlt hm
  go_enter Try.func57, Try.ntmps57
  go_wp2
  go_loop [7, 8] (fun xv cv => (cv = .int .i64 0 ∧ xv = .int .u64 0) ∨ (cv = .int .i64 1 ∧ xv = .int .u64 (notW x : Nat))) (fun _ cv => 1 - (intOf cv).toNat)
  case atStart => exact .inl ⟨rfl, rfl⟩
  case round =>
    rcases hrel with ⟨rfl, rfl⟩ | ⟨rfl, rfl⟩
    · go_wp2
      go_round
      case rel => exact .inr ⟨rfl, rfl⟩
      case measure => simp [intOf] <;> omega
    · go_wp2
      go_ret
      exact ⟨rfl, Grew.refl _⟩
end Go.Proofs.Ytkcbjkadalebjaa
