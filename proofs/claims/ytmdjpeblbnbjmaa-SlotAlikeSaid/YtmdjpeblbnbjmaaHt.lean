/-
  The contracts of values found by sums (hash): Home, find.
-/
import Derived.Test.YtmdjpeblbnbjmaaHtLaw
import Derived.Test.YtmdjpeblbnbjmaaDnLaw
set_option maxRecDepth 100000
namespace Go.Proofs.Ytmdjpeblbnbjmaa
open Go Go.RowKit
attribute [local irreducible] wpList Calls Code.wp okI okN pS memS getG homeN

/-! ### Home -/
theorem and_pow {k : Nat} (hk : k ≤ 18) : bits .and .i64 ((2 ^ k : Nat) : Int) ((2 ^ k : Nat) - 1 : Int) = 0 := by
  have h1 : 1 ≤ 2 ^ k := Nat.one_le_two_pow
  have h2 : 2 ^ k ≤ 2 ^ 18 := Nat.pow_le_pow_right (by decide) hk
  rw [show ((2 ^ k : Nat) - 1 : Int) = ((2 ^ k - 1 : Nat) : Int) by omega]
  show IntKind.i64.wrap ((BitVec.ofInt 64 ((2 ^ k : Nat) : Int) &&& BitVec.ofInt 64 ((2 ^ k - 1 : Nat) : Int)).toNat : Int) = 0
  rw [BitVec.toNat_and, ofInt_u64 _ (by omega), ofInt_u64 _ (by omega), Nat.and_two_pow_sub_one_eq_mod, Nat.mod_self]
  decide
theorem home_c {w : World} {i n : Nat} (hi : i < 65536) (hn : Pow n) :
    Calls Try.prog 101 #[.int .i64 (i : Nat), .int .i64 (n : Nat)] w fun e w' => e = .returned (.int .i64 (homeN n i : Nat)) ∧ w = w' := by
  obtain ⟨k, hk3, hk, rfl⟩ := hn
  have HA := Lib.hid (and_pow hk)
  have hp := Pow.pos ⟨k, hk3, hk, rfl⟩
  have HH : Hid (i * 2654435761 % 4294967296 / (4294967296 / 2 ^ k) = homeN (2 ^ k) i) := by unfold homeN; rfl
  generalize 2 ^ k = n at hp HA HH ⊢
  have d0 : decide ((i : Int) < 0) = false := decide_eq_false (by omega)
  have d1 : decide (65536 ≤ (i : Int)) = false := decide_eq_false (by omega)
  have d2 : decide ((n : Int) < 8) = false := decide_eq_false (by omega)
  have d3 : decide (1048576 < (n : Int)) = false := decide_eq_false (by omega)
  have hq : 0 < 4294967296 / n := Nat.div_pos (by omega) (by omega)
  have hA : (bits .and .i64 (n : Int) ((n : Int) - 1) != 0) = false := by rw [HA.out]; rfl
  have hz : ¬ ((4294967296 : Int) / (n : Int) = 0) := by
    intro h
    have e : ((4294967296 / n : Nat) : Int) = (4294967296 : Int) / (n : Int) := by simp
    rw [h] at e
    omega
  have hqn : 4294967296 / n ≤ 4294967296 := Nat.div_le_self _ _
  have hr : i * 2654435761 % 4294967296 / (4294967296 / n) < 4294967296 := Nat.lt_of_le_of_lt (Nat.div_le_self _ _) (Nat.mod_lt _ (by decide))
  have HE : Hid (wrap64 (IntKind.u64.wrap (((i : Int) * 2654435761 % 4294967296).tdiv (4294967296 / (n : Int)))) = ((i * 2654435761 % 4294967296 / (4294967296 / n) : Nat) : Int)) := by
    rw [Hid, show ((i : Int) * 2654435761 % 4294967296) = ((i * 2654435761 % 4294967296 : Nat) : Int) by simp, show ((4294967296 : Int) / (n : Int)) = ((4294967296 / n : Nat) : Int) by simp, ← Int.ofNat_tdiv]
    generalize i * 2654435761 % 4294967296 / (4294967296 / n) = r at hr
    rw [IntKind.wrap_u64, wrap64]
    omega
  clear HA
  rw [← HH.out]
  clear HH
  go_enter Try.func101, Try.ntmps101
  go_wp2
  rw [HE.out]
  go_ret
  exact ⟨rfl, rfl⟩

/-! ### The table's block -/
def HS.kn : HS → Int
  | .e => 0
  | .f _ _ => 1
  | .t => 2
def HS.ix : HS → Int
  | .f i _ => (i : Nat)
  | _ => 0
def HS.vl : HS → V3
  | .f _ v => v
  | _ => V3.z
def c5 (s : HS) : List Value := .int .i64 s.kn :: .int .i64 s.ix :: c3 s.vl
def cs5 (l : List HS) : List Value := l.flatMap c5
theorem c5_len (s : HS) : (c5 s).length = 5 := rfl
theorem cs5_len (l : List HS) : (cs5 l).length = l.length * 5 := flat_len c5_len l
theorem c5_one (s : HS) : ∀ u ∈ c5 s, u.oneCell' = true := by
  intro u hu
  rcases List.mem_cons.1 hu with rfl | hu
  · rfl
  · rcases List.mem_cons.1 hu with rfl | hu
    · rfl
    · exact one3 s.vl u hu
abbrev htC (S : List Nat) (left : Nat) (A : Option Addr) (n cap : Nat) : Array Value := #[.int .i64 (S.length : Nat), .int .i64 (left : Nat), .slice A n cap]
def HtB (D : Nat) (S : List Nat) (g : Nat → V3) : As := fun h => ∃ l left A cap, (HtOk l.length l S g left ∧ 4 * (S.length + left) ≤ 3 * l.length) ∧ star (blk D (htC S left A l.length cap) 140) (own A l.length cap 172 5 (cs5 l)) h
theorem St.htopen {w0 w : World} {D : Nat} {S : List Nat} {g : Nat → V3} {L : List As} (hs : St w0 (HtB D S g :: L) w) :
    ∃ l left A cap, (HtOk l.length l S g left ∧ 4 * (S.length + left) ≤ 3 * l.length) ∧ St w0 (Ytmdjpeblbnbjmaa.blk D (htC S left A l.length cap) 140 :: own A l.length cap 172 5 (cs5 l) :: L) w := by
  obtain ⟨hb, h, r, hd, hu, a, b, hab, rfl, ⟨l, left, A, cap, hok, ht⟩, hl⟩ := hs
  have h1 : St w0 (star (Ytmdjpeblbnbjmaa.blk D (htC S left A l.length cap) 140) (own A l.length cap 172 5 (cs5 l)) :: L) w := ⟨hb, _, r, hd, hu, a, b, hab, rfl, ht, hl⟩
  exact ⟨l, left, A, cap, hok, h1.ent (Ent.open2 fun _ h => h)⟩
theorem St.htshut {w0 w : World} {D : Nat} {S : List Nat} {g : Nat → V3} {l : List HS} {left : Nat} {L : List As} {A : Option Addr} {cap : Nat} (hok : HtOk l.length l S g left) (hr : 4 * (S.length + left) ≤ 3 * l.length) (hs : St w0 (Ytmdjpeblbnbjmaa.blk D (htC S left A l.length cap) 140 :: own A l.length cap 172 5 (cs5 l) :: L) w) : St w0 (HtB D S g :: L) w :=
  (hs.ent (Ent.shut2 fun _ h => h)).conv fun _ h => ⟨l, left, A, cap, ⟨hok, hr⟩, h⟩
theorem Rd.ht2 {w0 : World} {D n cap left : Nat} {S : List Nat} {A : Option Addr} {L : List As} {t : TypeId} : Rd w0 (Ytmdjpeblbnbjmaa.blk D (htC S left A n cap) t :: L) ⟨D, 2, none⟩ (.slice A n cap) := Rd.blk rfl
theorem Rd.ht0 {w0 : World} {D n cap left : Nat} {S : List Nat} {A : Option Addr} {L : List As} {t : TypeId} : Rd w0 (Ytmdjpeblbnbjmaa.blk D (htC S left A n cap) t :: L) ⟨D, 0, none⟩ (.int .i64 (S.length : Nat)) := Rd.blk rfl
theorem Rd.ht1 {w0 : World} {D n cap left : Nat} {S : List Nat} {A : Option Addr} {L : List As} {t : TypeId} : Rd w0 (Ytmdjpeblbnbjmaa.blk D (htC S left A n cap) t :: L) ⟨D, 1, none⟩ (.int .i64 (left : Nat)) := Rd.blk rfl
theorem Rd.row5 {w0 : World} {g n cap i : Nat} {vs : List HS} {v : HS} {t : TypeId} {L : List As} (h : vs[i]? = some v) : ∀ j u, (c5 v)[j]? = some u → Rd w0 (Ytmdjpeblbnbjmaa.own (some ⟨g, 0, none⟩) n cap t 5 (cs5 vs) :: L) ⟨g, i * 5 + j, none⟩ u :=
  fun j u hu => Rd.own (flat_get c5_len h j u hu)
def val5 (s : HS) : Value := .agg (c5 s).toArray
theorem size5 (s : HS) : (Try.prog.info? 172).map (·.size) = some (val5 s).cells.size := by kernel_rfl
theorem size5n (s : HS) : (Try.prog.info? 172).map (·.size) = some (c5 s).length := by kernel_rfl
theorem agg5 : aggB Try.prog 172 = true := by kernel_rfl
theorem zero5 : (Try.prog.info? 172).bind (·.zero) = some (val5 .e) := by kernel_rfl
theorem WrA.slot5 {w0 : World} {g : Nat} {u v : HS} {t : TypeId} {L : List As} : WrA w0 (Ytmdjpeblbnbjmaa.blk g (c5 u).toArray t :: L) ⟨g, 0, none⟩ (val5 v).cells.toList (Ytmdjpeblbnbjmaa.blk g (c5 v).toArray t :: L) := by
  have := WrA.blk (w0 := w0) (g := g) (o := 0) (cs := c5 u) (t := t) (vs := c5 v) (L := L) (by simp [c5_len]) (c5_one v)
  rwa [splice_all (by simp [c5_len])] at this
/-- How far a slot is from home. -/
theorem at_back {n : Nat} (h : Pow n) (i : Nat) {d : Nat} (hd : d < n) : (at_ n i d + n - homeN n i) % n = d := by
  have hh := homeN_lt h i
  have hp := h.pos
  by_cases hc : homeN n i + d < n
  · unfold at_
    rw [Nat.mod_eq_of_lt hc, show homeN n i + d + n - homeN n i = d + n by omega, Nat.add_mod_right, Nat.mod_eq_of_lt hd]
  · unfold at_
    have e : (homeN n i + d) % n = homeN n i + d - n := by rw [Nat.mod_eq_sub_mod (by omega), Nat.mod_eq_of_lt (by omega)]
    rw [e, show homeN n i + d - n + n - homeN n i = d by omega, Nat.mod_eq_of_lt hd]
/-- On the way to a full table's end there is an empty slot. -/
theorem Path.short {n : Nat} {l : List HS} {i d p : Nat} (h : Pow n) (hp : Path n l i d) (hpn : p < n) (he : l[p]? = some HS.e) : d < n := by
  obtain ⟨q, hq, rfl⟩ := at_onto h i hpn
  refine Classical.byContradiction fun hc => ?_
  obtain ⟨s, h1, h2, _⟩ := hp q (by omega)
  rw [he] at h1
  injection h1 with h1
  subst h1
  cases h2
theorem rem_nat (k n : Nat) (hn : 0 < n) (hn2 : n ≤ 262144) : wrap64 (((k : Int) + 1).tmod (n : Int)) = (((k + 1) % n : Nat) : Int) := by
  rw [show ((k : Int) + 1) = ((k + 1 : Nat) : Int) by omega, ← Int.ofNat_tmod]
  have := Nat.mod_lt (k + 1) hn
  generalize (k + 1) % n = r at this
  unfold wrap64
  omega
theorem home_v {w : World} {i n : Nat} {x : Int} (hi : i < 65536) (hn : Pow n) (hx : Hid (((at_ n i 0 : Nat) : Int) = x)) :
    Calls Try.prog 101 #[.int .i64 (i : Nat), .int .i64 (n : Nat)] w fun e w' => e = .returned (.int .i64 x) ∧ w = w' := by
  rw [← hx.out, at_zero hn]; exact home_c hi hn
end Go.Proofs.Ytmdjpeblbnbjmaa
