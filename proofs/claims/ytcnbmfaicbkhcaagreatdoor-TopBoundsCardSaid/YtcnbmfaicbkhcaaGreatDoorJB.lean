/-
  XJB: joined of XBitA XTab XHset XHib XHib2 XHib3 XHlaw XHib4 XIntv.
-/
import Derived.Test.YtcnbmfaicbkhcaaGreatDoorJA
import Derived.Test.YtcnbmfaicbkhcaaGreatDoorProg
import Derived.Outline
import Derived.Lib.Hide
import Derived.Lib.Walk
import Derived.Lib.BitFns
import Derived.Deep.DeepCutAuto
import Derived.Deep.RegionWith
/-
  The contracts of the words that need no table: bits.one, all, With, Without, Has.
-/
set_option maxRecDepth 100000
namespace Go.Proofs.YtcnbmfaicbkhcaaGreatDoor
open Go Go.RowKit

theorem ret_int {k : IntKind} {a b : Int} (h : a = b) : Ending.returned (.int k a) = .returned (.int k b) := by rw [h]
theorem ret_bool {a b : Bool} (h : a = b) : Ending.returned (.bool a) = .returned (.bool b) := by rw [h]
theorem wrap_u64_nat {n : Nat} (h : n < 2 ^ 64) : IntKind.u64.wrap (n : Int) = n := by rw [IntKind.wrap_u64]; omega
theorem oneW_in {i : Int} (h : 0 ≤ i) (h2 : i < 64) : IntKind.u64.wrap (2 ^ i.toNat) = (oneW i : Nat) := by
  have e : oneW i = 2 ^ i.toNat := by unfold oneW; rw [if_pos ⟨h, h2⟩]
  have h3 := oneW_lt i
  rw [← wrap_u64_nat h3, e]
  simp
theorem oneW_out {i : Int} (h : ¬ (0 ≤ i ∧ i < 64)) : (0 : Int) = (oneW i : Nat) := by unfold oneW; rw [if_neg h]; rfl
theorem one_c (i : Int) (w : World) : Calls Tryz.prog 209 #[.int .i64 i] w fun e w' => e = .returned (.int .u64 (oneW i : Nat)) ∧ w = w' := by
  by_cases h : 0 ≤ i ∧ i < 64
  · obtain ⟨h1, h2⟩ := h
    go_enter Tryz.func209, Tryz.ntmps209
    go_wp2
    go_ret
    exact ⟨ret_int (oneW_in h1 h2), rfl⟩
  · have H := oneW_out h
    have HH := Lib.hid H
    clear H
    go_enter Tryz.func209, Tryz.ntmps209
    go_wp2
    all_goals
      go_ret
      exact ⟨ret_int HH.out, rfl⟩
theorem or_u64 (x y : Nat) (hx : x < 2 ^ 64) (hy : y < 2 ^ 64) : bits .or .u64 (x : Int) (y : Int) = ((x ||| y : Nat) : Int) := u64_or_nat x y hx hy
theorem and_u64 (x y : Nat) (hx : x < 2 ^ 64) (hy : y < 2 ^ 64) : bits .and .u64 (x : Int) (y : Int) = ((x &&& y : Nat) : Int) := u64_and_nat x y hx hy
theorem andNot_u64 (x y : Nat) (hx : x < 2 ^ 64) (hy : y < 2 ^ 64) : bits .andNot .u64 (x : Int) (y : Int) = ((subW x y : Nat) : Int) := u64_andNot_nat x y hx hy
theorem all_step {zs : List Int} {k : Nat} (hk : k < zs.length) : bits .or .u64 ((allW (zs.take k) : Nat) : Int) ((oneW zs[k] : Nat) : Int) = ((allW (zs.take (k + 1)) : Nat) : Int) := by
  rw [or_u64 _ _ (allW_lt _) (oneW_lt _), ← allW_snoc, List.take_succ_eq_append_getElem hk]
theorem all_c {w0 w : World} {L : List As} {A : Option Addr} {zs : List Int} {c : Nat} (hs : St w0 L w) (hr : RdS w0 L A (zs.map (Value.int .i64))) (hl : zs.length ≤ maxLen) :
    Calls Tryz.prog 287 #[.slice A zs.length c] w fun e w' => e = .returned (.int .u64 (allW zs : Nat)) ∧ w = w' := by
  unfold maxLen at hl
  go_enter Tryz.func287, Tryz.ntmps287
  go_wp2
  go_loop [3, 8] (fun x i => ∃ k : Nat, k ≤ zs.length ∧ i = .int .i64 k ∧ x = .int .u64 (allW (zs.take k) : Nat)) (fun _ i => zs.length - (intOf i).toNat)
  case atStart => exact ⟨0, Nat.zero_le _, rfl, rfl⟩
  case round =>
    obtain ⟨k, hk, rfl, rfl⟩ := hrel
    by_cases hlt : k < zs.length
    · obtain ⟨b, o, rfl, hc⟩ := hr.at_ (k := k) (by simpa using hlt)
      have hc := hc w hs
      simp at hc
      go_wp2_with (first | (go_at_call 209; refine (one_c _ _).mono ?_; rintro e w' ⟨rfl, rfl⟩))
      go_round
      case rel => exact ⟨k + 1, by omega, by go_num, by rw [all_step hlt]⟩
      case measure => simp [intOf]; omega
    · have he : zs.take k = zs := List.take_of_length_le (by omega)
      have HE := Lib.hid he
      clear he
      go_wp2
      go_ret
      exact ⟨by rw [HE.out]; rfl, rfl⟩
theorem with_c {w0 w : World} {L : List As} {A : Option Addr} {zs : List Int} {c : Nat} {x : Nat} (hx : x < 2 ^ 64) (hs : St w0 L w) (hr : RdS w0 L A (zs.map (Value.int .i64))) (hl : zs.length ≤ maxLen) :
    Calls Tryz.prog 232 #[.int .u64 x, .slice A zs.length c] w fun e w' => e = .returned (.int .u64 (x ||| allW zs : Nat)) ∧ w = w' := by
  go_enter Tryz.func232, Tryz.ntmps232
  go_wp2_with (first | (go_at_call 287; refine (all_c hs hr hl).mono ?_; rintro e w' ⟨rfl, rfl⟩))
  go_ret
  exact ⟨ret_int (or_u64 _ _ hx (allW_lt _)), rfl⟩
theorem without_c {w0 w : World} {L : List As} {A : Option Addr} {zs : List Int} {c : Nat} {x : Nat} (hx : x < 2 ^ 64) (hs : St w0 L w) (hr : RdS w0 L A (zs.map (Value.int .i64))) (hl : zs.length ≤ maxLen) :
    Calls Tryz.prog 298 #[.int .u64 x, .slice A zs.length c] w fun e w' => e = .returned (.int .u64 (subW x (allW zs) : Nat)) ∧ w = w' := by
  go_enter Tryz.func298, Tryz.ntmps298
  go_wp2_with (first | (go_at_call 287; refine (all_c hs hr hl).mono ?_; rintro e w' ⟨rfl, rfl⟩))
  go_ret
  exact ⟨ret_int (andNot_u64 _ _ hx (allW_lt _)), rfl⟩
theorem has_c {x : Nat} (hx : x < 2 ^ 64) (i : Int) (w : World) : Calls Tryz.prog 132 #[.int .u64 x, .int .i64 i] w fun e w' => e = .returned (.bool (hasW x i)) ∧ w = w' := by
  go_enter Tryz.func132, Tryz.ntmps132
  go_wp2_with (first | (go_at_call 209; refine (one_c _ _).mono ?_; rintro e w' ⟨rfl, rfl⟩))
  go_ret
  refine ⟨ret_bool ?_, rfl⟩
  rw [and_u64 _ _ hx (oneW_lt i), ← hasW_and]
  rw [Bool.eq_iff_iff]; simp
theorem elem24 : ElemOk Tryz.prog 22 3 1 8 := ElemOk.of Tryz.underlying22 (z := .int .i64 0) (by kernel_rfl) rfl (by decide)
theorem ints_one (x : Int) : ∀ u ∈ [Value.int .i64 x], u.oneCell' = true := by simp; rfl
theorem i64_and (a b : Nat) (ha : a < 9223372036854775808) (hb : b < 9223372036854775808) : bits .and .i64 (a : Int) (b : Int) = ((a &&& b : Nat) : Int) := by
  have hx : a &&& b < 2 ^ 63 := Nat.and_lt_two_pow _ (by omega)
  show IntKind.i64.wrap ((BitVec.ofInt 64 (a : Int) &&& BitVec.ofInt 64 (b : Int)).toNat : Int) = _
  rw [BitVec.toNat_and, ofInt_u64 a (by omega), ofInt_u64 b (by omega), IntKind.wrap_i64]
  omega
theorem i64_and63 (a : Nat) (ha : a < 9223372036854775808) : bits .and .i64 (a : Int) 63 = ((a % 64 : Nat) : Int) := by
  rw [show (63 : Int) = ((63 : Nat) : Int) from rfl, i64_and a 63 ha (by omega), nat_mask6]
theorem i64_or (a b : Nat) (ha : a < 9223372036854775808) (hb : b < 9223372036854775808) : bits .or .i64 (a : Int) (b : Int) = ((a ||| b : Nat) : Int) := by
  have hx : a ||| b < 2 ^ 63 := Nat.or_lt_two_pow (by omega) (by omega)
  show IntKind.i64.wrap ((BitVec.ofInt 64 (a : Int) ||| BitVec.ofInt 64 (b : Int)).toNat : Int) = _
  rw [BitVec.toNat_or, ofInt_u64 a (by omega), ofInt_u64 b (by omega), IntKind.wrap_i64]
  omega
theorem or_add {x y i : Nat} (hx : x < 2 ^ i) (hy : y % 2 ^ i = 0) : x ||| y = x + y := by rw [Nat.or_comm, nat_join i y x hy hx, Nat.add_comm]
theorem with_v {w0 w : World} {L : List As} {A : Option Addr} {zs : List Int} {c n : Nat} {x v : Nat} (hx : x < 2 ^ 64) (h : Hid (x ||| allW zs = v)) (hn : Hid (zs.length = n)) (hs : St w0 L w) (hr : RdS w0 L A (zs.map (Value.int .i64))) (hl : n ≤ maxLen) :
    Calls Tryz.prog 232 #[.int .u64 x, .slice A n c] w fun e w' => e = .returned (.int .u64 (v : Nat)) ∧ w = w' := by
  rw [← h.out]
  have hn := hn.out
  subst hn
  exact with_c hx hs hr hl
theorem without_v {w0 w : World} {L : List As} {A : Option Addr} {zs : List Int} {c n : Nat} {x v : Nat} (hx : x < 2 ^ 64) (h : Hid (subW x (allW zs) = v)) (hn : Hid (zs.length = n)) (hs : St w0 L w) (hr : RdS w0 L A (zs.map (Value.int .i64))) (hl : n ≤ maxLen) :
    Calls Tryz.prog 298 #[.int .u64 x, .slice A n c] w fun e w' => e = .returned (.int .u64 (v : Nat)) ∧ w = w' := by
  rw [← h.out]
  have hn := hn.out
  subst hn
  exact without_c hx hs hr hl
theorem has_v {x : Nat} (hx : x < 2 ^ 64) {i : Int} {b : Bool} (h : Hid (hasW x i = b)) (w : World) : Calls Tryz.prog 132 #[.int .u64 x, .int .i64 i] w fun e w' => e = .returned (.bool b) ∧ w = w' := by
  rw [← h.out]; exact has_c hx i w
/-- One number more, one less: the row is the call's own. -/
theorem with_1 {w0 w : World} {L : List As} {g : Nat} {d : Int} {x v : Nat} (hx : x < 2 ^ 64) (h : Hid (x ||| allW [d] = v)) (hs : St w0 (blk g #[.int .i64 d] 3 :: L) w) :
    Calls Tryz.prog 232 #[.int .u64 x, .slice (some ⟨g, 0, none⟩) 1 1] w fun e w' => e = .returned (.int .u64 (v : Nat)) ∧ w = w' :=
  with_v (zs := [d]) hx h rfl hs RdS.blk (by decide)
theorem without_1 {w0 w : World} {L : List As} {g : Nat} {d : Int} {x v : Nat} (hx : x < 2 ^ 64) (h : Hid (subW x (allW [d]) = v)) (hs : St w0 (blk g #[.int .i64 d] 3 :: L) w) :
    Calls Tryz.prog 298 #[.int .u64 x, .slice (some ⟨g, 0, none⟩) 1 1] w fun e w' => e = .returned (.int .u64 (v : Nat)) ∧ w = w' :=
  without_v (zs := [d]) hx h rfl hs RdS.blk (by decide)
end Go.Proofs.YtcnbmfaicbkhcaaGreatDoor

/-
  The memory of a set of numbers: a table of nodes, each a block of its own, found by level and place. No function of the program stands here.
-/
namespace Go.Proofs.YtcnbmfaicbkhcaaGreatDoor
open Go Go.RowKit

/-! ### Many blocks at once -/
theorem big_perm {α : Type} {f : α → As} {ks ms : List α} (h : ks.Perm ms) : ∀ x, big (ks.map f) x → big (ms.map f) x := by
  induction h with
  | nil => exact fun _ h => h
  | cons a _ ih => exact fun x hx => star_mono (fun _ h => h) ih hx
  | swap a b l => exact fun x hx => star_left hx
  | trans _ _ ih1 ih2 => exact fun x hx => ih2 x (ih1 x hx)
theorem big_pull {α : Type} [BEq α] [LawfulBEq α] {f : α → As} {ks : List α} {k : α} (h : k ∈ ks) : ∀ x, big (ks.map f) x → star (f k) (big ((ks.erase k).map f)) x :=
  big_perm (f := f) (List.perm_cons_erase h)
theorem big_push {α : Type} [BEq α] [LawfulBEq α] {f : α → As} {ks : List α} {k : α} (h : k ∈ ks) : ∀ x, star (f k) (big ((ks.erase k).map f)) x → big (ks.map f) x :=
  big_perm (f := f) (List.perm_cons_erase h).symm
theorem big_congr {α : Type} {f g : α → As} {ks : List α} (h : ∀ k ∈ ks, f k = g k) : big (ks.map f) = big (ks.map g) := by
  rw [List.map_congr_left h]

/-! ### The table -/
abbrev Key := Nat × Nat
def kidV (G : Key → Option Nat) (l p d : Nat) : Value := .pointer (if l = 0 then none else (G (l - 1, 64 * p + d)).map fun g => ⟨g, 0, none⟩)
def nodeCells (G : Key → Option Nat) (W : Key → Nat) (n : Nat) (k : Key) : List Value :=
  .int .u64 (W k : Nat) :: (((List.range 64).map fun d => kidV G k.1 k.2 d) ++ (if k.1 = 3 then [.int .i64 (n : Nat)] else []))
def nodeTy (k : Key) : TypeId := if k.1 = 3 then 325 else 270
def ndBlk (G : Key → Option Nat) (W : Key → Nat) (n : Nat) (k : Key) : As := blk ((G k).getD 0) (nodeCells G W n k).toArray (nodeTy k)
def tbl (ks : List Key) (G : Key → Option Nat) (W : Key → Nat) (n : Nat) : As := big (ks.map (ndBlk G W n))

theorem nodeCells_word (G : Key → Option Nat) (W : Key → Nat) (n : Nat) (k : Key) : (nodeCells G W n k)[0]? = some (.int .u64 (W k : Nat)) := rfl
theorem nodeCells_kid (G : Key → Option Nat) (W : Key → Nat) (n : Nat) (k : Key) {d : Nat} (hd : d < 64) : (nodeCells G W n k)[1 + d]? = some (kidV G k.1 k.2 d) := by
  rw [Nat.add_comm, nodeCells, List.getElem?_cons_succ, List.getElem?_append_left (by simpa using hd)]
  simp [hd]
theorem nodeCells_n (G : Key → Option Nat) (W : Key → Nat) (n p : Nat) : (nodeCells G W n (3, p))[65]? = some (.int .i64 (n : Nat)) := by
  rw [nodeCells, List.getElem?_cons_succ, List.getElem?_append_right (by simp)]
  simp
theorem nodeCells_len (G : Key → Option Nat) (W : Key → Nat) (n : Nat) (k : Key) : 65 ≤ (nodeCells G W n k).length := by
  simp [nodeCells]

section
variable {w0 w : World} {L : List As} {ks : List Key} {G : Key → Option Nat} {W : Key → Nat} {n g : Nat} {k : Key}
theorem Rd.tbl_word (hk : k ∈ ks) (hg : G k = some g) : Rd w0 (tbl ks G W n :: L) ⟨g, 0, none⟩ (.int .u64 (W k : Nat)) :=
  Rd.ent (Rd.blk (g := g) (t := nodeTy k) (cs := (nodeCells G W n k).toArray) (by simpa using nodeCells_word G W n k)) (by
    have := Ent.open2 (L := L) (big_pull (f := ndBlk G W n) hk)
    rw [ndBlk, hg] at this
    exact this)
theorem Rd.tbl_kid (hk : k ∈ ks) (hg : G k = some g) {d : Nat} (hd : d < 64) : Rd w0 (tbl ks G W n :: L) ⟨g, 1 + d, none⟩ (kidV G k.1 k.2 d) :=
  Rd.ent (Rd.blk (g := g) (t := nodeTy k) (cs := (nodeCells G W n k).toArray) (by simpa using nodeCells_kid G W n k hd)) (by
    have := Ent.open2 (L := L) (big_pull (f := ndBlk G W n) hk)
    rw [ndBlk, hg] at this
    exact this)
theorem Rd.tbl_n {p : Nat} (hk : (3, p) ∈ ks) (hg : G (3, p) = some g) : Rd w0 (tbl ks G W n :: L) ⟨g, 65, none⟩ (.int .i64 (n : Nat)) :=
  Rd.ent (Rd.blk (g := g) (t := nodeTy (3, p)) (cs := (nodeCells G W n (3, p)).toArray) (by simpa using nodeCells_n G W n p)) (by
    have := Ent.open2 (L := L) (big_pull (f := ndBlk G W n) hk)
    rw [ndBlk, hg] at this
    exact this)
/-- A store into a node's block, what the other blocks hold staying. -/
theorem Wr.tbl_at {G' : Key → Option Nat} {W' : Key → Nat} {n' i : Nat} {v : Value} (hn : ks.Nodup) (hk : k ∈ ks) (hg : G k = some g) (hi : i < (nodeCells G W n k).length)
    (hsame : ∀ j ∈ ks, j ≠ k → ndBlk G' W' n' j = ndBlk G W n j) (hset : ndBlk G' W' n' k = YtcnbmfaicbkhcaaGreatDoor.blk g ((nodeCells G W n k).set i v).toArray (nodeTy k)) :
    Wr w0 (tbl ks G W n :: L) ⟨g, i, none⟩ v (tbl ks G' W' n' :: L) := by
  have h1 : Wr w0 (YtcnbmfaicbkhcaaGreatDoor.blk g (nodeCells G W n k).toArray (nodeTy k) :: big ((ks.erase k).map (ndBlk G W n)) :: L) ⟨g, i, none⟩ v (YtcnbmfaicbkhcaaGreatDoor.blk g ((nodeCells G W n k).toArray.setIfInBounds i v) (nodeTy k) :: big ((ks.erase k).map (ndBlk G W n)) :: L) :=
    Wr.blk (by simpa using hi)
  refine h1.ent (fun K => ?_) (fun K => ?_)
  · have := Ent.open2 (L := L ++ K) (big_pull (f := ndBlk G W n) hk)
    rw [ndBlk, hg] at this
    exact this
  · have e : big ((ks.erase k).map (ndBlk G W n)) = big ((ks.erase k).map (ndBlk G' W' n')) := (big_congr fun j hj => by
      have hj2 := (List.Nodup.mem_erase_iff hn).1 hj
      exact hsame j hj2.2 hj2.1).symm
    have := Ent.shut2 (L := L ++ K) (big_push (f := ndBlk G' W' n') hk)
    rw [hset, ← e] at this
    rw [List.setIfInBounds_toArray]
    exact this
end

def upd {β : Type} (F : Key → β) (k : Key) (b : β) : Key → β := fun j => if j = k then b else F j
theorem upd_same {β : Type} (F : Key → β) (k : Key) (b : β) : upd F k b k = b := if_pos rfl
theorem upd_other {β : Type} (F : Key → β) {k j : Key} (b : β) (h : j ≠ k) : upd F k b j = F j := if_neg h

section
variable {w0 w : World} {L : List As} {ks : List Key} {G : Key → Option Nat} {W : Key → Nat} {n g : Nat} {k : Key}
/-- A node's word is turned. -/
theorem Wr.tbl_word (hn : ks.Nodup) (hk : k ∈ ks) (hg : G k = some g) (x : Nat) : Wr w0 (tbl ks G W n :: L) ⟨g, 0, none⟩ (.int .u64 (x : Nat)) (tbl ks G (upd W k x) n :: L) := by
  refine Wr.tbl_at hn hk hg (by have := nodeCells_len G W n k; omega) (fun j _ hj => ?_) ?_
  · unfold ndBlk nodeCells; rw [upd_other _ _ hj]
  · unfold ndBlk nodeCells; rw [upd_same, hg]; rfl
/-- How many there are is turned. -/
theorem Wr.tbl_n {T : Nat} (hn : ks.Nodup) (hk : (3, 0) ∈ ks) (hg : G (3, 0) = some T) (htop : ∀ j ∈ ks, j.1 = 3 → j.2 = 0) (m : Nat) : Wr w0 (tbl ks G W n :: L) ⟨T, 65, none⟩ (.int .i64 (m : Nat)) (tbl ks G W m :: L) := by
  refine Wr.tbl_at hn hk hg ?_ (fun j hj hj2 => ?_) ?_
  · simp [nodeCells]
  · have : j.1 ≠ 3 := fun h => hj2 (Prod.ext h (htop j hj h))
    unfold ndBlk nodeCells
    rw [if_neg this, if_neg this]
  · unfold ndBlk nodeCells
    rw [hg]
    simp
/-- A new node's cells. -/
def zeroCells : List Value := .int .u64 0 :: List.replicate 64 (.pointer none)
theorem kidV_other {G : Key → Option Nat} {k' : Key} {b : Option Nat} {l p d : Nat} (h : l = 0 ∨ (l - 1, 64 * p + d) ≠ k') : kidV (upd G k' b) l p d = kidV G l p d := by
  unfold kidV
  rcases h with h | h
  · rw [if_pos h, if_pos h]
  · rw [upd_other _ _ h]
theorem nodeCells_other {G : Key → Option Nat} {W : Key → Nat} {n : Nat} {k k' : Key} {b : Option Nat} (h : ∀ d, d < 64 → k.1 = 0 ∨ (k.1 - 1, 64 * k.2 + d) ≠ k') : nodeCells (upd G k' b) W n k = nodeCells G W n k := by
  unfold nodeCells
  congr 2
  exact List.map_congr_left fun d hd => kidV_other (h d (by simpa using hd))
theorem map_range_set {f f' : Nat → Value} {m d : Nat} (h : ∀ e, e ≠ d → f' e = f e) : (List.range m).map f' = ((List.range m).map f).set d (f' d) := by
  apply List.ext_getElem (by simp)
  intro i h1 h2
  rw [List.getElem_set]
  by_cases hi : d = i
  · subst hi; simp
  · rw [if_neg hi]
    simpa using h i (fun h => hi h.symm)
/-- A kid's pointer is turned. -/
theorem nodeCells_set {G : Key → Option Nat} {W : Key → Nat} {n l p d : Nat} {b : Option Nat} (hl : l ≠ 0) (hd : d < 64) :
    nodeCells (upd G (l - 1, 64 * p + d) b) W n (l, p) = (nodeCells G W n (l, p)).set (1 + d) (.pointer (b.map fun g => ⟨g, 0, none⟩)) := by
  unfold nodeCells
  rw [Nat.add_comm 1 d, List.set_cons_succ, List.set_append_left _ _ (by simpa using hd)]
  congr 2
  rw [map_range_set (d := d) (f := fun e => kidV G l p e) (fun e he => kidV_other (.inr (by intro h; injection h; omega)))]
  congr 1
  simp [kidV, hl, upd_same]
/-- A new node below one that has none there. -/
theorem Wr.tbl_new {l p d g' : Nat} (hn : ks.Nodup) (hk : (l, p) ∈ ks) (hg : G (l, p) = some g) (hl : l ≠ 0) (hl3 : l ≤ 3) (hd : d < 64) (hno : (l - 1, 64 * p + d) ∉ ks) (hw : W (l - 1, 64 * p + d) = 0)
    (hkids : l - 1 ≠ 0 → ∀ e, e < 64 → G (l - 1 - 1, 64 * (64 * p + d) + e) = none) :
    Wr w0 (YtcnbmfaicbkhcaaGreatDoor.blk g' zeroCells.toArray 270 :: tbl ks G W n :: L) ⟨g, 1 + d, none⟩ (.pointer (some ⟨g', 0, none⟩)) (tbl ((l - 1, 64 * p + d) :: ks) (upd G (l - 1, 64 * p + d) (some g')) W n :: L) := by
  have hne : (l, p) ≠ (l - 1, 64 * p + d) := by intro h; injection h; omega
  have h1 : Wr w0 (tbl ks G W n :: L) ⟨g, 1 + d, none⟩ (.pointer (some ⟨g', 0, none⟩)) (tbl ks (upd G (l - 1, 64 * p + d) (some g')) W n :: L) := by
    refine Wr.tbl_at hn hk hg (by have := nodeCells_len G W n (l, p); omega) (fun j hj hj2 => ?_) ?_
    · have hjk : j ≠ (l - 1, 64 * p + d) := fun h => hno (h ▸ hj)
      unfold ndBlk
      rw [upd_other _ _ hjk, nodeCells_other fun e he => ?_]
      by_cases h0 : j.1 = 0
      · exact .inl h0
      · refine .inr fun h => hj2 ?_
        injection h with h3 h4
        exact Prod.ext (by simp only; omega) (by simp only; omega)
    · unfold ndBlk
      rw [upd_other _ _ hne, hg, nodeCells_set hl hd]
      rfl
  refine (h1.tail (p := YtcnbmfaicbkhcaaGreatDoor.blk g' zeroCells.toArray 270)).ent (fun K => Ent.refl _) (fun K => ?_)
  refine Ent.shut2 (fun x hx => ?_)
  have e : ndBlk (upd G (l - 1, 64 * p + d) (some g')) W n (l - 1, 64 * p + d) = YtcnbmfaicbkhcaaGreatDoor.blk g' zeroCells.toArray 270 := by
    have h3 : ¬ (l - 1 = 3) := by omega
    unfold ndBlk nodeTy nodeCells
    rw [upd_same, hw, if_neg h3, if_neg h3]
    simp only [Option.getD_some, List.append_nil]
    congr 2
    unfold zeroCells
    congr 1
    apply List.ext_getElem (by simp)
    intro i hi1 hi2
    simp only [List.length_map, List.length_range] at hi1
    rw [List.getElem_replicate, List.getElem_map, List.getElem_range]
    unfold kidV
    by_cases h0 : l - 1 = 0
    · rw [if_pos h0]
    · rw [if_neg h0, upd_other _ _ (by intro h; injection h; omega), hkids h0 i hi1]
      rfl
  show star (ndBlk _ W n _) (big (ks.map _)) x
  rw [e]
  exact hx
/-- A node below is let go. -/
theorem Wr.tbl_drop {l p d : Nat} (hn : ks.Nodup) (hk : (l, p) ∈ ks) (hg : G (l, p) = some g) (hl : l ≠ 0) (hd : d < 64) (hno : (l - 1, 64 * p + d) ∈ ks) :
    Wr w0 (tbl ks G W n :: L) ⟨g, 1 + d, none⟩ (.pointer none) (tbl (ks.erase (l - 1, 64 * p + d)) (upd G (l - 1, 64 * p + d) none) W n :: L) := by
  have hne : (l, p) ≠ (l - 1, 64 * p + d) := by intro h; injection h; omega
  have hn2 : (ks.erase (l - 1, 64 * p + d)).Nodup := hn.erase _
  have hk2 : (l, p) ∈ ks.erase (l - 1, 64 * p + d) := (List.Nodup.mem_erase_iff hn).2 ⟨hne, hk⟩
  have h1 : Wr w0 (tbl (ks.erase (l - 1, 64 * p + d)) G W n :: L) ⟨g, 1 + d, none⟩ (.pointer none) (tbl (ks.erase (l - 1, 64 * p + d)) (upd G (l - 1, 64 * p + d) none) W n :: L) := by
    refine Wr.tbl_at hn2 hk2 hg (by have := nodeCells_len G W n (l, p); omega) (fun j hj hj2 => ?_) ?_
    · have hjk : j ≠ (l - 1, 64 * p + d) := ((List.Nodup.mem_erase_iff hn).1 hj).1
      unfold ndBlk
      rw [upd_other _ _ hjk, nodeCells_other fun e he => ?_]
      by_cases h0 : j.1 = 0
      · exact .inl h0
      · refine .inr fun h => hj2 ?_
        injection h with h3 h4
        exact Prod.ext (by simp only; omega) (by simp only; omega)
    · unfold ndBlk
      rw [upd_other _ _ hne, hg, nodeCells_set hl hd]
      rfl
  intro K w hs
  have hs2 := (hs.ent (Ent.open2 (L := L ++ K) (big_pull (f := ndBlk G W n) hno))).drop
  exact h1 K w hs2
/-- A kid of the lowest level is nil as it is. -/
theorem Wr.tbl_low {p d : Nat} (hn : ks.Nodup) (hk : (0, p) ∈ ks) (hg : G (0, p) = some g) (hd : d < 64) : Wr w0 (tbl ks G W n :: L) ⟨g, 1 + d, none⟩ (.pointer none) (tbl ks G W n :: L) := by
  refine Wr.tbl_at hn hk hg (by have := nodeCells_len G W n (0, p); omega) (fun _ _ _ => rfl) ?_
  unfold ndBlk
  rw [hg]
  simp only [Option.getD_some]
  congr 2
  have hlt : 1 + d < (nodeCells G W n (0, p)).length := by have := nodeCells_len G W n (0, p); omega
  have h1 := nodeCells_kid G W n (0, p) hd
  rw [List.getElem?_eq_getElem hlt] at h1
  have h2 : (nodeCells G W n (0, p))[1 + d] = .pointer none := Option.some.inj h1
  rw [← h2, List.set_getElem_self]
end
end Go.Proofs.YtcnbmfaicbkhcaaGreatDoor

/-
  Sets of numbers as the table holds them: words of all levels, what is added and taken away. Plain law: no function of the program stands here.
-/
namespace Go.Proofs.YtcnbmfaicbkhcaaGreatDoor
open Go Go.RowKit

/-! ### Rising rows -/
def insS (i : Nat) : List Nat → List Nat
  | [] => [i]
  | a :: l => if i < a then i :: a :: l else if i = a then a :: l else a :: insS i l
def delS (i : Nat) (l : List Nat) : List Nat := l.filter fun a => a != i
theorem mem_insS {i j : Nat} : ∀ {l : List Nat}, j ∈ insS i l ↔ j = i ∨ j ∈ l
  | [] => by simp [insS]
  | a :: l => by
    unfold insS
    split
    · simp
    · split
      · rename_i h; subst h; simp
      · simp only [List.mem_cons, mem_insS (l := l)]; exact ⟨fun h => by rcases h with h | h | h <;> simp [h], fun h => by rcases h with h | h | h <;> simp [h]⟩
theorem sorted_insS {i : Nat} : ∀ {l : List Nat}, l.Pairwise (· < ·) → (insS i l).Pairwise (· < ·)
  | [], _ => by simp [insS]
  | a :: l, h => by
    rw [List.pairwise_cons] at h
    unfold insS
    split
    · rename_i hi
      exact List.pairwise_cons.2 ⟨fun b hb => by rcases List.mem_cons.1 hb with h1 | h1; (· omega); (· have := h.1 b h1; omega), List.pairwise_cons.2 h⟩
    · split
      · exact List.pairwise_cons.2 h
      · refine List.pairwise_cons.2 ⟨fun b hb => ?_, sorted_insS h.2⟩
        rcases mem_insS.1 hb with h1 | h1
        · omega
        · exact h.1 b h1
theorem len_insS {i : Nat} : ∀ {l : List Nat}, i ∉ l → (insS i l).length = l.length + 1
  | [], _ => rfl
  | a :: l, h => by
    have h2 : i ∉ l := fun e => h (by simp [e])
    unfold insS
    split
    · rfl
    · split
      · rename_i h3; exact absurd (by simp [h3]) h
      · simp [len_insS h2]
theorem ins_id {i : Nat} : ∀ {l : List Nat}, l.Pairwise (· < ·) → i ∈ l → insS i l = l
  | [], _, h => by cases h
  | a :: l, hs, h => by
    rw [List.pairwise_cons] at hs
    unfold insS
    split
    · rename_i hi
      rcases List.mem_cons.1 h with h | h
      · omega
      · have := hs.1 i h; omega
    · split
      · rfl
      · rename_i h1 h2
        rw [ins_id hs.2 ((List.mem_cons.1 h).resolve_left h2)]
theorem mem_delS {i j : Nat} {l : List Nat} : j ∈ delS i l ↔ j ∈ l ∧ j ≠ i := by simp [delS]
theorem sorted_delS {i : Nat} {l : List Nat} (h : l.Pairwise (· < ·)) : (delS i l).Pairwise (· < ·) := List.Pairwise.filter _ h
theorem del_id {i : Nat} {l : List Nat} (h : i ∉ l) : delS i l = l := List.filter_eq_self.2 fun a ha => by
  have : a ≠ i := fun e => h (e ▸ ha)
  simpa using this
theorem len_delS {i : Nat} : ∀ {l : List Nat}, l.Nodup → i ∈ l → (delS i l).length + 1 = l.length
  | a :: l, hn, h => by
    rw [List.nodup_cons] at hn
    by_cases e : a = i
    · subst e
      show ((a :: l).filter _).length + 1 = _
      rw [List.filter_cons_of_neg (by simp)]
      have := del_id hn.1
      unfold delS at this
      rw [this, List.length_cons]
    · show ((a :: l).filter _).length + 1 = _
      rw [List.filter_cons_of_pos (by simpa using e), List.length_cons, List.length_cons]
      have := len_delS hn.2 ((List.mem_cons.1 h).resolve_left (fun h => e h.symm))
      unfold delS at this
      omega
theorem sorted_nodup {l : List Nat} (h : l.Pairwise (· < ·)) : l.Nodup := h.imp fun h => Nat.ne_of_lt h
theorem sorted_ext {l m : List Nat} (hl : l.Pairwise (· < ·)) (hm : m.Pairwise (· < ·)) (h : ∀ i, i ∈ l ↔ i ∈ m) : l = m :=
  List.Perm.eq_of_pairwise (fun a b _ _ h1 h2 => by omega) hl hm ((List.perm_ext_iff_of_nodup (sorted_nodup hl) (sorted_nodup hm)).2 h)

/-! ### Words of all levels -/
def wordOf (S : List Nat) (k : Key) : Nat := allW ((S.filter fun i => i / 64 ^ (k.1 + 1) == k.2).map fun i => ((i / 64 ^ k.1 % 64 : Nat) : Int))
theorem wordOf_lt (S : List Nat) (k : Key) : wordOf S k < 2 ^ 64 := allW_lt _
theorem div_next (i l : Nat) : i / 64 ^ (l + 1) = i / 64 ^ l / 64 := by rw [Nat.pow_succ, Nat.div_div_eq_div_mul]
theorem bit_wordOf (S : List Nat) (l p d : Nat) (hd : d < 64) : (wordOf S (l, p)).testBit d = true ↔ ∃ i ∈ S, i / 64 ^ l = 64 * p + d := by
  unfold wordOf
  rw [testBit_allW]
  simp only [hd, decide_true, Bool.and_true, decide_eq_true_eq, List.mem_map, List.mem_filter, beq_iff_eq]
  constructor
  · rintro ⟨i, ⟨hi, h1⟩, h2⟩
    rw [div_next] at h1
    exact ⟨i, hi, by omega⟩
  · rintro ⟨i, hi, h⟩
    refine ⟨i, ⟨hi, ?_⟩, ?_⟩
    · rw [div_next]; omega
    · omega
theorem word_zero {x : Nat} (hx : x < 2 ^ 64) : x ≠ 0 ↔ ∃ d, d < 64 ∧ x.testBit d = true := by
  constructor
  · intro h
    refine Classical.byContradiction fun hno => h (word_ext hx (by decide) fun k hk => ?_)
    rw [Nat.zero_testBit]
    cases hb : x.testBit k
    · rfl
    · exact absurd ⟨k, hk, hb⟩ hno
  · rintro ⟨d, _, h⟩ h0
    subst h0
    simp at h
theorem wordOf_ne {S : List Nat} {l p : Nat} : wordOf S (l, p) ≠ 0 ↔ ∃ i ∈ S, i / 64 ^ (l + 1) = p := by
  rw [word_zero (wordOf_lt _ _)]
  constructor
  · rintro ⟨d, hd, h⟩
    obtain ⟨i, hi, h2⟩ := (bit_wordOf S l p d hd).1 h
    exact ⟨i, hi, by rw [div_next]; omega⟩
  · rintro ⟨i, hi, h⟩
    rw [div_next] at h
    exact ⟨i / 64 ^ l % 64, Nat.mod_lt _ (by decide), (bit_wordOf S l p _ (Nat.mod_lt _ (by decide))).2 ⟨i, hi, by omega⟩⟩
theorem wordOf_below {S : List Nat} {l p d : Nat} (hd : d < 64) : (wordOf S (l + 1, p)).testBit d = true ↔ wordOf S (l, 64 * p + d) ≠ 0 := by
  rw [bit_wordOf S _ _ _ hd, wordOf_ne]
/-- One more: the words on its way get its digit. -/
theorem wordOf_ins {S : List Nat} {i l p : Nat} : wordOf (insS i S) (l, p) = if p = i / 64 ^ (l + 1) then wordOf S (l, p) ||| oneW ((i / 64 ^ l % 64 : Nat) : Int) else wordOf S (l, p) := by
  split
  · rename_i h
    refine word_ext (wordOf_lt _ _) (Nat.or_lt_two_pow (wordOf_lt _ _) (oneW_lt _)) fun d hd => ?_
    rw [Nat.testBit_or, testBit_oneW, Bool.eq_iff_iff, Bool.or_eq_true, bit_wordOf _ _ _ _ hd, bit_wordOf _ _ _ _ hd]
    simp only [hd, decide_true, Bool.and_true, decide_eq_true_eq, mem_insS]
    rw [div_next] at h
    constructor
    · rintro ⟨j, rfl | hj, h2⟩
      · exact .inr (by omega)
      · exact .inl ⟨j, hj, h2⟩
    · rintro (⟨j, hj, h2⟩ | h2)
      · exact ⟨j, .inr hj, h2⟩
      · exact ⟨i, .inl rfl, by omega⟩
  · rename_i h
    refine word_ext (wordOf_lt _ _) (wordOf_lt _ _) fun d hd => ?_
    rw [Bool.eq_iff_iff, bit_wordOf _ _ _ _ hd, bit_wordOf _ _ _ _ hd]
    rw [div_next] at h
    constructor
    · rintro ⟨j, hj, h2⟩
      rcases mem_insS.1 hj with rfl | hj
      · omega
      · exact ⟨j, hj, h2⟩
    · rintro ⟨j, hj, h2⟩
      exact ⟨j, mem_insS.2 (.inr hj), h2⟩
theorem wordOf_del_off {S : List Nat} {i l p : Nat} (h : p ≠ i / 64 ^ (l + 1)) : wordOf (delS i S) (l, p) = wordOf S (l, p) := by
  refine word_ext (wordOf_lt _ _) (wordOf_lt _ _) fun d hd => ?_
  rw [Bool.eq_iff_iff, bit_wordOf _ _ _ _ hd, bit_wordOf _ _ _ _ hd]
  rw [div_next] at h
  constructor
  · rintro ⟨j, hj, h2⟩
    exact ⟨j, (mem_delS.1 hj).1, h2⟩
  · rintro ⟨j, hj, h2⟩
    exact ⟨j, mem_delS.2 ⟨hj, fun e => by subst e; omega⟩, h2⟩
/-- One less: where nothing of its digit is left below, the digit goes. -/
theorem wordOf_del_gone {S : List Nat} {i l : Nat} (h : ∀ j ∈ delS i S, j / 64 ^ l ≠ i / 64 ^ l) : wordOf (delS i S) (l, i / 64 ^ (l + 1)) = subW (wordOf S (l, i / 64 ^ (l + 1))) (oneW ((i / 64 ^ l % 64 : Nat) : Int)) := by
  refine word_ext (wordOf_lt _ _) (subW_lt _ _ (wordOf_lt _ _)) fun d hd => ?_
  rw [testBit_subW (wordOf_lt _ _) (oneW_lt _), testBit_oneW, Bool.eq_iff_iff, Bool.and_eq_true, bit_wordOf _ _ _ _ hd, bit_wordOf _ _ _ _ hd]
  simp only [hd, decide_true, Bool.and_true, Bool.not_eq_true', decide_eq_false_iff_not]
  have e := div_next i l
  constructor
  · rintro ⟨j, hj, h2⟩
    refine ⟨⟨j, (mem_delS.1 hj).1, h2⟩, fun h3 => h j hj ?_⟩
    omega
  · rintro ⟨⟨j, hj, h2⟩, h3⟩
    refine ⟨j, mem_delS.2 ⟨hj, fun e2 => ?_⟩, h2⟩
    subst e2
    omega
/-- .. where something is left below, the word stays. -/
theorem wordOf_del_stays {S : List Nat} {i l : Nat} (h : ∃ j ∈ delS i S, j / 64 ^ l = i / 64 ^ l) (p : Nat) : wordOf (delS i S) (l, p) = wordOf S (l, p) := by
  by_cases hp : p = i / 64 ^ (l + 1)
  · refine word_ext (wordOf_lt _ _) (wordOf_lt _ _) fun d hd => ?_
    rw [Bool.eq_iff_iff, bit_wordOf _ _ _ _ hd, bit_wordOf _ _ _ _ hd]
    constructor
    · rintro ⟨j, hj, h2⟩
      exact ⟨j, (mem_delS.1 hj).1, h2⟩
    · rintro ⟨j, hj, h2⟩
      by_cases e : j = i
      · subst e
        obtain ⟨m, hm, h3⟩ := h
        exact ⟨m, hm, by omega⟩
      · exact ⟨j, mem_delS.2 ⟨hj, e⟩, h2⟩
  · exact wordOf_del_off hp

/-! ### A set in memory -/
/-- The set's block is T; its numbers are S, rising. -/
structure Fits (T : Nat) (S : List Nat) (ks : List Key) (G : Key → Option Nat) (W : Key → Nat) : Prop where
  nodup : ks.Nodup
  mem : ∀ k, k ∈ ks ↔ G k ≠ none
  top : G (3, 0) = some T
  lev : ∀ k ∈ ks, k.1 ≤ 3 ∧ (k.1 = 3 → k.2 = 0)
  there : ∀ k : Key, k.1 < 3 → (G k ≠ none ↔ wordOf S k ≠ 0)
  word : ∀ k : Key, k.1 ≤ 3 → W k = wordOf S k
  sorted : S.Pairwise (· < ·)
  small : ∀ i ∈ S, i < 16777216
def HSet (T : Nat) (S : List Nat) : As := fun h => ∃ ks G W, Fits T S ks G W ∧ tbl ks G W S.length h
end Go.Proofs.YtcnbmfaicbkhcaaGreatDoor

/-
  The contracts of a set's functions: digit, ok, at, Has, Len.
-/
set_option maxRecDepth 100000
namespace Go.Proofs.YtcnbmfaicbkhcaaGreatDoor
open Go Go.RowKit
attribute [local irreducible] wpList Calls Code.wp

theorem ok_c (i : Int) (w : World) : Calls Tryz.prog 130 #[.int .i64 i] w fun e w' => e = .returned (.bool (decide (0 ≤ i ∧ i < 16777216))) ∧ w = w' := by
  go_enter Tryz.func130, Tryz.ntmps130
  by_cases h0 : 0 ≤ i
  · by_cases h1 : i < 16777216
    · go_wp2
      go_ret
      exact ⟨ret_bool (by simp [h0, h1]), rfl⟩
    · go_wp2
      go_ret
      exact ⟨ret_bool (by rw [Bool.eq_iff_iff]; simp; omega), rfl⟩
  · go_wp2
    go_ret
    exact ⟨ret_bool (by rw [Bool.eq_iff_iff]; simp; omega), rfl⟩
/-- A number's digit of a level; its place in a level. -/
def dig (i l : Nat) : Nat := i / 64 ^ l % 64
def plc (i l : Nat) : Nat := i / 64 ^ (l + 1)
theorem dig_lt (i l : Nat) : dig i l < 64 := Nat.mod_lt _ (by decide)
theorem plc_next (i l : Nat) : 64 * plc i (l + 1) + dig i (l + 1) = plc i l := by
  unfold plc dig
  rw [div_next i (l + 1)]
  omega
theorem plc_3 {i : Nat} (h : i < 16777216) : plc i 3 = 0 := by unfold plc; omega
theorem digit_c (i l : Nat) (hi : i < 9223372036854775808) (hl : l ≤ 3) (w : World) : Calls Tryz.prog 133 #[.int .i64 i, .int .i64 (l : Nat)] w fun e w' => e = .returned (.int .i64 (dig i l : Nat)) ∧ w = w' := by
  have hi2 : (i : Int) < 9223372036854775808 := by omega
  match l, hl with
  | 0, _ =>
    have h : bits .and .i64 (i : Int) 63 = (dig i 0 : Nat) := by rw [i64_and63 i hi]; simp [dig]
    clear hi
    go_enter Tryz.func133, Tryz.ntmps133
    go_wp2
    go_ret
    exact ⟨rfl, rfl⟩
  | 1, _ =>
    have h : bits .and .i64 ((i : Int) / 64) 63 = (dig i 1 : Nat) := by rw [show (i : Int) / 64 = ((i / 64 : Nat) : Int) by omega, i64_and63 _ (by omega)]; simp [dig]
    clear hi
    go_enter Tryz.func133, Tryz.ntmps133
    go_wp2
    go_ret
    exact ⟨rfl, rfl⟩
  | 2, _ =>
    have h : bits .and .i64 ((i : Int) / 4096) 63 = (dig i 2 : Nat) := by rw [show (i : Int) / 4096 = ((i / 4096 : Nat) : Int) by omega, i64_and63 _ (by omega)]; simp [dig]
    clear hi
    go_enter Tryz.func133, Tryz.ntmps133
    go_wp2
    go_ret
    exact ⟨rfl, rfl⟩
  | 3, _ =>
    have h : bits .and .i64 ((i : Int) / 262144) 63 = (dig i 3 : Nat) := by rw [show (i : Int) / 262144 = ((i / 262144 : Nat) : Int) by omega, i64_and63 _ (by omega)]; simp [dig]
    clear hi
    go_enter Tryz.func133, Tryz.ntmps133
    go_wp2
    go_ret
    exact ⟨rfl, rfl⟩
theorem Fits.none_down {T : Nat} {S : List Nat} {ks : List Key} {G : Key → Option Nat} {W : Key → Nat} (hf : Fits T S ks G W) {i l m : Nat} (hlm : l < m) (hm : m ≤ 3) (hi : i < 16777216) (h : G (m, plc i m) = none) : G (l, plc i l) = none := by
  refine Classical.byContradiction fun hno => ?_
  have hw := (hf.there (l, plc i l) (by simp only; omega)).1 hno
  obtain ⟨j, hj, h2⟩ := wordOf_ne.1 hw
  have h3 : ∀ n, l + n ≤ 3 → j / 64 ^ (l + n + 1) = plc i (l + n) := by
    intro n
    induction n with
    | zero => intro _; exact h2
    | succ n ih =>
      intro hn
      have := ih (by omega)
      unfold plc at this ⊢
      rw [← Nat.add_assoc, div_next j (l + n + 1), div_next i (l + n + 1), this]
  have h4 := h3 (m - l) (by omega)
  rw [show l + (m - l) = m by omega] at h4
  by_cases hm3 : m = 3
  · subst hm3
    rw [plc_3 hi, hf.top] at h
    cases h
  · exact (hf.there (m, plc i m) (by simp only; omega)).2 (wordOf_ne.2 ⟨j, hj, h4⟩) h
def ptrV (o : Option Nat) : Value := .pointer (o.map fun g => ⟨g, 0, none⟩)
theorem kid_next {G : Key → Option Nat} {i m : Nat} : kidV G (m + 1) (plc i (m + 1)) (dig i (m + 1)) = ptrV (G (m, plc i m)) := by
  unfold kidV ptrV
  rw [if_neg (Nat.succ_ne_zero m), Nat.add_sub_cancel, plc_next]
/-- What the set's functions lean on: the table opened, shut again. -/
theorem St.hopen {w0 w : World} {T : Nat} {S : List Nat} {L : List As} (hs : St w0 (HSet T S :: L) w) : ∃ ks G W, Fits T S ks G W ∧ St w0 (tbl ks G W S.length :: L) w := by
  obtain ⟨hb, h, r, hd, hu, a, b, hab, rfl, ⟨ks, G, W, hf, ht⟩, hl⟩ := hs
  exact ⟨ks, G, W, hf, hb, _, r, hd, hu, a, b, hab, rfl, ht, hl⟩
theorem St.hshut {w0 w : World} {T : Nat} {S : List Nat} {ks : List Key} {G : Key → Option Nat} {W : Key → Nat} {L : List As} (hf : Fits T S ks G W) (hs : St w0 (tbl ks G W S.length :: L) w) : St w0 (HSet T S :: L) w :=
  hs.conv fun _ h => ⟨ks, G, W, hf, h⟩
theorem at_g {w0 w : World} {L : List As} {T : Nat} {S : List Nat} {ks : List Key} {G : Key → Option Nat} {W : Key → Nat} {n : Nat} (hf : Fits T S ks G W) (hs : St w0 (tbl ks G W n :: L) w) (i l : Nat) (hi : i < 16777216) (hl : l ≤ 3) :
    Calls Tryz.prog 131 #[.pointer (some ⟨T, 0, none⟩), .int .i64 i, .int .i64 (l : Nat)] w fun e w' => e = .returned (ptrV (G (l, plc i l))) ∧ Grew w w' := by
  have htop : ptrV (G (3, plc i 3)) = .pointer (some ⟨T, 0, none⟩) := by rw [plc_3 hi, hf.top]; rfl
  go_enter Tryz.func131, Tryz.ntmps131
  go_wp2
  go_loopw [7, 8] (fun nd lv wr => ∃ m : Nat, l ≤ m ∧ m ≤ 3 ∧ lv = .int .i64 m ∧ Hid (nd = ptrV (G (m, plc i m))) ∧ Grew w wr) (fun _ lv _ => (intOf lv).toNat)
  case atStart => exact ⟨3, hl, by omega, rfl, htop.symm, Grew.refl _⟩
  case round =>
    obtain ⟨m, h1, h2, rfl, HN, hg⟩ := hrel
    by_cases hm : l < m
    · cases hgm : G (m, plc i m) with
      | none =>
        have hv : u7 = .pointer none := by rw [HN.out, hgm]; rfl
        subst hv
        have HE : Hid (Ending.returned (.pointer none) = .returned (ptrV (G (l, plc i l)))) := by rw [Hid, hf.none_down hm h2 hi hgm]; rfl
        clear HN hgm htop
        go_wp2
        go_ret
        exact ⟨HE.out, hg⟩
      | some g =>
        have hv : u7 = .pointer (some ⟨g, 0, none⟩) := by rw [HN.out, hgm]; rfl
        subst hv
        obtain ⟨m, rfl⟩ : ∃ k, m = k + 1 := ⟨m - 1, by omega⟩
        have hk := (hf.mem _).2 (by rw [hgm]; exact Option.some_ne_none g)
        have hc := Rd.tbl_kid (w0 := w0) (L := L) (W := W) (n := n) hk hgm (dig_lt i (m + 1))
        rw [kid_next] at hc
        have hd := dig_lt i (m + 1)
        have HD := Lib.hid fun w => digit_c i (m + 1) (by omega) h2 w
        obtain ⟨d, hdd⟩ : ∃ d, d = dig i (m + 1) := ⟨_, rfl⟩
        rw [← hdd] at hc hd HD
        obtain ⟨v, HV⟩ : ∃ v, Hid (v = ptrV (G (m, plc i m))) := ⟨_, rfl⟩
        rw [← HV.out] at hc
        clear HN hgm htop hk hdd
        go_wp2
        refine wp_region_grow (by kernel_rfl) (by kernel_rfl) fun hne => ?_
        replace hc := hc.gall (hs.grew hg)
        repeat (go_big_quiet_step ((first
          | (go_at_call 133; exact in_gsame (HD.out _)))))
        refine wpQuiet_nil ?_
        clear hne hc
        intro u hu
        replace hg := hg.trans hu
        clear hu
        go_wp2
        go_roundw
        case rel => exact ⟨m, by omega, by omega, by go_num, HV, hg⟩
        case measure => simp [intOf] <;> omega
    · obtain rfl : m = l := by omega
      have HE : Hid (Ending.returned u7 = .returned (ptrV (G (m, plc i m)))) := by rw [Hid, HN.out]
      clear HN htop
      go_wp2
      go_ret
      exact ⟨HE.out, hg⟩
/-- Is a number in the set? -/
def memS (S : List Nat) (i : Int) : Bool := S.any fun a => (a : Int) == i
theorem memS_nat {S : List Nat} {i : Nat} : memS S (i : Int) = true ↔ i ∈ S := by
  unfold memS
  rw [List.any_eq_true]
  constructor
  · rintro ⟨a, ha, h⟩
    have h2 : (a : Int) = i := by simpa using h
    have : a = i := by omega
    exact this ▸ ha
  · intro h
    exact ⟨i, h, by simp⟩
theorem memS_out {S : List Nat} {i : Int} (hS : ∀ a ∈ S, a < 16777216) (h : ¬ (0 ≤ i ∧ i < 16777216)) : memS S i = false := by
  unfold memS
  rw [List.any_eq_false]
  intro a ha h2
  have := hS a ha
  have h3 : (a : Int) = i := by simpa using h2
  omega
theorem has_bit {S : List Nat} {i : Nat} : hasW (wordOf S (0, plc i 0)) (dig i 0 : Nat) = memS S (i : Int) := by
  have hd := dig_lt i 0
  rw [Bool.eq_iff_iff, memS_nat, show hasW (wordOf S (0, plc i 0)) (dig i 0 : Nat) = (wordOf S (0, plc i 0)).testBit (dig i 0) by simp [hasW]; omega, bit_wordOf _ _ _ _ hd]
  have e : 64 * plc i 0 + dig i 0 = i := by unfold plc dig; omega
  rw [e]
  simp
theorem at_v {w0 w : World} {L : List As} {T : Nat} {S : List Nat} {ks : List Key} {G : Key → Option Nat} {W : Key → Nat} {n : Nat} (hf : Fits T S ks G W) (hs : St w0 (tbl ks G W n :: L) w) (i l : Nat) (hi : i < 16777216) (hl : l ≤ 3) {v : Value} (hv : Hid (ptrV (G (l, plc i l)) = v)) :
    Calls Tryz.prog 131 #[.pointer (some ⟨T, 0, none⟩), .int .i64 i, .int .i64 (l : Nat)] w fun e w' => e = .returned v ∧ Grew w w' := by
  rw [← hv.out]; exact at_g hf hs i l hi hl
theorem has_g {w0 w : World} {L : List As} {T : Nat} {S : List Nat} (hs : St w0 (HSet T S :: L) w) (i : Int) :
    Calls Tryz.prog 69 #[.pointer (some ⟨T, 0, none⟩), .int .i64 i] w fun e w' => e = .returned (.bool (memS S i)) ∧ Grew w w' := by
  obtain ⟨ks, G, W, hf, hs⟩ := hs.hopen
  by_cases hi : 0 ≤ i ∧ i < 16777216
  · obtain ⟨h0, h1⟩ := hi
    obtain ⟨i, rfl⟩ := Int.eq_ofNat_of_zero_le h0
    have hi : i < 16777216 := by omega
    have HB := Lib.hid (has_bit (S := S) (i := i))
    have HF := Lib.hid hf
    have HOK : Hid (decide ((0 : Int) ≤ (i : Int) ∧ (i : Int) < 16777216) = true) := by rw [Hid]; simp; omega
    have HD := Lib.hid fun w => digit_c i 0 (by omega) (by omega) w
    cases hg : G (0, plc i 0) with
    | none =>
      have HV : Hid (ptrV (G (0, plc i 0)) = .pointer none) := by rw [Hid, hg]; rfl
      have HR : Hid (memS S (i : Int) = false) := by
        rw [Hid, ← HB.out]
        have : wordOf S (0, plc i 0) = 0 := Classical.byContradiction fun h => (hf.there (0, plc i 0) (by simp only; omega)).2 h hg
        rw [this]
        simp [hasW]
      clear HB hg hf h0 h1
      go_enter Tryz.func69, Tryz.ntmps69
      go_wp2_with (first
        | (go_at_call 130; refine (ok_c _ _).mono ?_; rw [HOK.out]; rintro e w' ⟨rfl, rfl⟩)
        | (go_at_call 131; refine (at_v HF.out hs i 0 hi (by decide) HV).mono ?_; rintro e w' ⟨rfl, hg'⟩))
      refine wp_region_grow (by kernel_rfl) (by kernel_rfl) fun hne => ?_
      repeat (go_big_quiet_step (fail))
      refine wpQuiet_nil ?_
      clear hne
      intro u hu
      replace hg' := hg'.trans hu
      go_wp2
      go_ret
      exact ⟨ret_bool HR.out.symm, hg'⟩
    | some g =>
      have HV : Hid (ptrV (G (0, plc i 0)) = .pointer (some ⟨g, 0, none⟩)) := by rw [Hid, hg]; rfl
      have hk := (hf.mem _).2 (by rw [hg]; exact Option.some_ne_none g)
      have hr := Rd.tbl_word (w0 := w0) (L := L) (W := W) (n := S.length) hk hg
      have hw : W (0, plc i 0) = wordOf S (0, plc i 0) := hf.word (0, plc i 0) (by simp only; omega)
      rw [hw] at hr
      have hx := wordOf_lt S (0, plc i 0)
      generalize wordOf S (0, plc i 0) = x at *
      generalize dig i 0 = d at *
      clear hw hg hf h0 h1
      go_enter Tryz.func69, Tryz.ntmps69
      go_wp2_with (first
        | (go_at_call 130; refine (ok_c _ _).mono ?_; rw [HOK.out]; rintro e w' ⟨rfl, rfl⟩)
        | (go_at_call 131; refine (at_v HF.out hs i 0 hi (by decide) HV).mono ?_; rintro e w' ⟨rfl, hg'⟩))
      refine wp_region_grow (by kernel_rfl) (by kernel_rfl) fun hne => ?_
      have hc := hr.gall (hs.grew hg')
      repeat (go_big_quiet_step ((first
        | (go_at_call 133; exact in_gsame (HD.out _))
        | (go_at_call 132; exact in_gsame (has_v hx HB _)))))
      refine wpQuiet_nil ?_
      clear hne hc
      intro u hu
      replace hg' := hg'.trans hu
      go_wp2
      go_ret
      exact ⟨rfl, hg'⟩
  · have HOK : Hid (decide (0 ≤ i ∧ i < 16777216) = false) := decide_eq_false hi
    have HR := Lib.hid (memS_out hf.small hi)
    go_enter Tryz.func69, Tryz.ntmps69
    go_wp2_with (first
      | (go_at_call 130; refine (ok_c _ _).mono ?_; rw [HOK.out]; rintro e w' ⟨rfl, rfl⟩))
    go_ret
    exact ⟨ret_bool HR.out.symm, Grew.refl _⟩
theorem has_s {w0 w : World} {L : List As} {T : Nat} {S : List Nat} (hs : St w0 (HSet T S :: L) w) {i : Int} {b : Bool} (h : Hid (memS S i = b)) :
    Calls Tryz.prog 69 #[.pointer (some ⟨T, 0, none⟩), .int .i64 i] w fun e w' => e = .returned (.bool b) ∧ St w0 (HSet T S :: L) w' := by
  rw [← h.out]; exact (has_g hs i).mono fun _ _ ⟨h1, h2⟩ => ⟨h1, hs.grew h2⟩
theorem hlen_h {w0 w : World} {L : List As} {T : Nat} {S : List Nat} (hs : St w0 (HSet T S :: L) w) :
    Calls Tryz.prog 245 #[.pointer (some ⟨T, 0, none⟩)] w fun e w' => e = .returned (.int .i64 (S.length : Nat)) ∧ w = w' := by
  obtain ⟨ks, G, W, hf, hs⟩ := hs.hopen
  have hk : (3, 0) ∈ ks := (hf.mem _).2 (by rw [hf.top]; exact Option.some_ne_none T)
  have hc := Rd.tbl_n (w0 := w0) (L := L) (W := W) (n := S.length) hk hf.top w hs
  clear hk hf hs
  go_enter Tryz.func245, Tryz.ntmps245
  go_wp2
  go_ret
  exact ⟨rfl, rfl⟩
end Go.Proofs.YtcnbmfaicbkhcaaGreatDoor

/-
  The contracts of a set's Add and New.
-/
set_option maxRecDepth 100000
namespace Go.Proofs.YtcnbmfaicbkhcaaGreatDoor
open Go Go.RowKit
attribute [local irreducible] wpList Calls Code.wp

theorem wpl_build0 {P : Program} {ops : Array Oper} {Q : Exit → Act → World → Prop} {a : Act} {w : World} {rest : List Oper} {dst : Option Tmp} {ty : TypeId} {pos : String} {after : Array Edge} {t : TypeId} {z : Value}
    (hz : ∀ w, (Instr.build t #[]).run P w = .ok z w) (next : wpList P ops Q rest (a.put dst z) w) : wpList P ops Q (⟨dst, .build t #[], ty, pos, after, none⟩ :: rest) a w :=
  wpList_plain rfl fun K hK => by
    unfold Oper.wp execOp
    simp only [List.map_toArray, List.map_nil, Sem.run_bind, hz w, Result.andThen_ok, Sem.run_pure]
    exact hK _ _ next
theorem cell_alloc_some (w : World) (a : Addr) (o : Obj) (h : (w.cell? a).isSome = true) : (w.alloc o).cell? a = w.cell? a := by
  obtain ⟨u, hu⟩ := Option.isSome_iff_exists.1 h
  exact World.cell?_alloc_lt _ _ _ (World.block_lt_of_cell? w a hu)
theorem frozen_alloc_some (w : World) (a : Addr) (o : Obj) (h : (w.cell? a).isSome = true) : (w.alloc o).frozen? a = w.frozen? a := by
  obtain ⟨u, hu⟩ := Option.isSome_iff_exists.1 h
  have := World.block_lt_of_cell? w a hu
  exact World.frozen?_alloc_old _ _ _ (by omega)
def nodeZ : Value := .agg zeroCells.toArray
def setZ : Value := .agg (zeroCells ++ [Value.int .i64 0]).toArray
theorem build_node (w : World) : (Instr.build 270 #[]).run Tryz.prog w = .ok nodeZ w := by kernel_rfl
theorem build_set (w : World) : (Instr.build 325 #[]).run Tryz.prog w = .ok setZ w := by kernel_rfl
theorem size_word : (Tryz.prog.info? 267).map (·.size) = some 1 := by kernel_rfl
theorem size_int : (Tryz.prog.info? 3).map (·.size) = some 1 := by kernel_rfl
theorem size_kid : (Tryz.prog.info? 264).map (·.size) = some 1 := by kernel_rfl
theorem one_kid : one1 Tryz.prog 264 = true := by kernel_rfl
/-- How far Add has come: the levels above m have the number's digit, its way is laid down to level m. -/
structure AddInv (T : Nat) (S : List Nat) (i m : Nat) (ks : List Key) (G : Key → Option Nat) (W : Key → Nat) (g : Nat) : Prop where
  nodup : ks.Nodup
  mem : ∀ k, k ∈ ks ↔ G k ≠ none
  top : G (3, 0) = some T
  lev : ∀ k ∈ ks, k.1 ≤ 3 ∧ (k.1 = 3 → k.2 = 0)
  there : ∀ k : Key, k.1 < 3 → (G k ≠ none ↔ wordOf S k ≠ 0 ∨ (m ≤ k.1 ∧ k.2 = plc i k.1))
  word : ∀ k : Key, k.1 ≤ 3 → W k = if m < k.1 then wordOf (insS i S) k else wordOf S k
  here : G (m, plc i m) = some g
  low : m ≤ 3
section
variable {T : Nat} {S : List Nat} {i m g : Nat} {ks : List Key} {G : Key → Option Nat} {W : Key → Nat}
theorem Fits.add (hf : Fits T S ks G W) (hi : i < 16777216) : AddInv T S i 3 ks G W T where
  nodup := hf.nodup
  mem := hf.mem
  top := hf.top
  lev := hf.lev
  there k hk := by rw [hf.there k hk]; exact ⟨.inl, fun h => h.resolve_right fun ⟨h, _⟩ => by omega⟩
  word k hk := by rw [hf.word k hk, if_neg (by omega)]
  here := by rw [plc_3 hi, hf.top]
  low := Nat.le_refl _
theorem AddInv.in_ks (h : AddInv T S i m ks G W g) : (m, plc i m) ∈ ks := (h.mem _).2 (by rw [h.here]; exact Option.some_ne_none g)
theorem AddInv.word_here (h : AddInv T S i m ks G W g) : W (m, plc i m) = wordOf S (m, plc i m) := by rw [h.word _ h.low, if_neg (Nat.lt_irrefl _)]
/-- The words, the digit put. -/
theorem AddInv.words (h : AddInv T S i m ks G W g) {x : Nat} (hx : x = wordOf S (m, plc i m) ||| oneW (dig i m : Nat)) (k : Key) (hk : k.1 ≤ 3) : upd W (m, plc i m) x k = if m ≤ k.1 then wordOf (insS i S) k else wordOf S k := by
  obtain ⟨l, p⟩ := k
  by_cases e : (l, p) = (m, plc i m)
  · rw [e, upd_same, if_pos (Nat.le_refl _), hx, wordOf_ins]
    exact (if_pos rfl).symm
  · rw [upd_other _ _ e, h.word _ hk]
    by_cases h1 : m < l
    · rw [if_pos h1, if_pos (Nat.le_of_lt h1)]
    · rw [if_neg h1]
      by_cases h2 : m ≤ l
      · have hml : l = m := Nat.le_antisymm (Nat.not_lt.1 h1) h2
        subst hml
        have hp : p ≠ plc i l := fun hp => e (by rw [hp])
        rw [if_pos h2, wordOf_ins]
        exact (if_neg hp).symm
      · rw [if_neg h2]
theorem AddInv.old (h : AddInv T S i (m + 1) ks G W g) {x g' : Nat} (hx : x = wordOf S (m + 1, plc i (m + 1)) ||| oneW (dig i (m + 1) : Nat)) (hg : G (m, plc i m) = some g') : AddInv T S i m ks G (upd W (m + 1, plc i (m + 1)) x) g' where
  nodup := h.nodup
  mem := h.mem
  top := h.top
  lev := h.lev
  there k hk := by
    rw [h.there k hk]
    constructor
    · rintro (h1 | ⟨h1, h2⟩)
      · exact .inl h1
      · exact .inr ⟨by omega, h2⟩
    · rintro (h1 | ⟨h1, h2⟩)
      · exact .inl h1
      · by_cases e : m + 1 ≤ k.1
        · exact .inr ⟨e, h2⟩
        · have e1 : k.1 = m := by omega
          have e2 : k = (m, plc i m) := Prod.ext e1 (by rw [h2, e1])
          refine (h.there k hk).1 ?_
          rw [e2, hg]
          exact Option.some_ne_none g'
  word k hk := by rw [h.words hx k hk]; rfl
  here := hg
  low := Nat.le_of_succ_le h.low
theorem AddInv.no_word (h : AddInv T S i (m + 1) ks G W g) (hg : G (m, plc i m) = none) : wordOf S (m, plc i m) = 0 :=
  Classical.byContradiction fun hw => (h.there (m, plc i m) (by have := h.low; simp only; omega)).2 (.inl hw) hg
theorem AddInv.no_kids (h : AddInv T S i (m + 1) ks G W g) (hg : G (m, plc i m) = none) (hm : m ≠ 0) (e : Nat) (he : e < 64) : G (m - 1, 64 * plc i m + e) = none := by
  refine Classical.byContradiction fun hno => ?_
  have hl := h.low
  rcases (h.there (m - 1, 64 * plc i m + e) (by simp only; omega)).1 hno with h1 | ⟨h1, _⟩
  · obtain ⟨k, rfl⟩ : ∃ k, m = k + 1 := ⟨m - 1, by omega⟩
    have h2 := (wordOf_below (S := S) (l := k) (p := plc i (k + 1)) he).2 h1
    rw [h.no_word hg] at h2
    simp at h2
  · simp only at h1; omega
theorem AddInv.new (h : AddInv T S i (m + 1) ks G W g) {x g' : Nat} (hx : x = wordOf S (m + 1, plc i (m + 1)) ||| oneW (dig i (m + 1) : Nat)) (hg : G (m, plc i m) = none) :
    AddInv T S i m ((m, plc i m) :: ks) (upd G (m, plc i m) (some g')) (upd W (m + 1, plc i (m + 1)) x) g' where
  nodup := List.nodup_cons.2 ⟨fun hm => (h.mem _).1 hm hg, h.nodup⟩
  mem k := by
    by_cases e : k = (m, plc i m)
    · rw [e, upd_same]; simp
    · rw [upd_other _ _ e, ← h.mem, List.mem_cons]; exact ⟨fun h => h.resolve_left e, .inr⟩
  top := by rw [upd_other _ _ (by have := h.low; intro e; injection e; omega)]; exact h.top
  lev k hk := by
    rcases List.mem_cons.1 hk with e | hk
    · subst e; have := h.low; simp only; exact ⟨by omega, by omega⟩
    · exact h.lev k hk
  there k hk := by
    by_cases e : k = (m, plc i m)
    · rw [e, upd_same]; simp
    · rw [upd_other _ _ e, h.there k hk]
      constructor
      · rintro (h1 | ⟨h1, h2⟩)
        · exact .inl h1
        · exact .inr ⟨by omega, h2⟩
      · rintro (h1 | ⟨h1, h2⟩)
        · exact .inl h1
        · refine .inr ⟨?_, h2⟩
          rcases Nat.eq_or_lt_of_le h1 with h3 | h3
          · exact absurd (Prod.ext h3.symm (by rw [h2, ← h3])) e
          · exact h3
  word k hk := by rw [h.words hx k hk]; rfl
  here := upd_same _ _ _
  low := Nat.le_of_succ_le h.low
theorem AddInv.done (h : AddInv T S i 0 ks G W g) {x : Nat} (hx : x = wordOf S (0, plc i 0) ||| oneW (dig i 0 : Nat)) (hS : S.Pairwise (· < ·)) (hs : ∀ a ∈ S, a < 16777216) (hi : i < 16777216) : Fits T (insS i S) ks G (upd W (0, plc i 0) x) where
  nodup := h.nodup
  mem := h.mem
  top := h.top
  lev := h.lev
  there := fun ⟨l, p⟩ hk => by
    rw [h.there _ hk, wordOf_ne, wordOf_ne]
    constructor
    · rintro (⟨j, hj, h1⟩ | ⟨_, h2⟩)
      · exact ⟨j, mem_insS.2 (.inr hj), h1⟩
      · exact ⟨i, mem_insS.2 (.inl rfl), h2.symm⟩
    · rintro ⟨j, hj, h1⟩
      rcases mem_insS.1 hj with rfl | hj
      · exact .inr ⟨Nat.zero_le _, h1.symm⟩
      · exact .inl ⟨j, hj, h1⟩
  word k hk := by rw [h.words hx k hk, if_pos (Nat.zero_le _)]
  sorted := sorted_insS hS
  small a ha := by
    rcases mem_insS.1 ha with rfl | ha
    · exact hi
    · exact hs a ha
end
theorem sorted_len {N : Nat} : ∀ {l : List Nat} {a : Nat}, l.Pairwise (· < ·) → (∀ i ∈ l, a ≤ i ∧ i < N) → l.length ≤ N - a
  | [], _, _, _ => Nat.zero_le _
  | b :: l, a, hs, h => by
    rw [List.pairwise_cons] at hs
    have hb := h b (by simp)
    have := sorted_len (l := l) (a := b + 1) hs.2 fun i hi => ⟨hs.1 i hi, (h i (by simp [hi])).2⟩
    simp only [List.length_cons]
    omega
/-- What Add answers, and what it leaves. -/
def okN (i : Int) : Bool := decide (0 ≤ i ∧ i < 16777216)
def addS (S : List Nat) (i : Int) : List Nat := if okN i then insS i.toNat S else S
def errN (i : Int) : Int := if okN i then 0 else 1
set_option maxHeartbeats 1000000 in
theorem add_in {w0 w : World} {L : List As} {T : Nat} {S : List Nat} (hs : St w0 (HSet T S :: L) w) (i : Nat) (hi : i < 16777216) (hno : i ∉ S) :
    Calls Tryz.prog 243 #[.pointer (some ⟨T, 0, none⟩), .int .i64 i] w fun e w' => e = .returned (.tuple #[.bool true, .int .i64 0]) ∧ St w0 (HSet T (insS i S) :: L) w' := by
  have HOK : Hid (decide ((0 : Int) ≤ (i : Int) ∧ (i : Int) < 16777216) = true) := by rw [Hid]; simp; omega
  have HM : Hid (memS S (i : Int) = false) := by
    rw [Hid, ← Bool.not_eq_true, memS_nat]; exact hno
  go_enter Tryz.func243, Tryz.ntmps243
  go_wp2_with (first
    | (go_at_call 130; refine (ok_c _ _).mono ?_; rw [HOK.out]; rintro e w' ⟨rfl, rfl⟩)
    | (go_at_call 69; refine (has_s hs HM).mono ?_; clear hs; rintro e w ⟨rfl, hs⟩))
  obtain ⟨ks, G, W, hf, hs⟩ := hs.hopen
  have HA := hf.add hi
  have HF := Lib.hid (show S.Pairwise (· < ·) ∧ (∀ a ∈ S, a < 16777216) from ⟨hf.sorted, hf.small⟩)
  clear hf
  go_loopw [6, 7] (fun nd lv wr => ∃ m ks G W g, AddInv T S i m ks G W g ∧ lv = .int .i64 (m : Nat) ∧ nd = .pointer (some ⟨g, 0, none⟩) ∧ St w0 (tbl ks G W S.length :: L) wr) (fun _ lv _ => (intOf lv).toNat)
  case atStart => exact ⟨3, ks, G, W, T, HA, rfl, rfl, hs⟩
  case round =>
    clear hs HA
    obtain ⟨m, ks, G, W, g, HA, rfl, rfl, hs⟩ := hrel
    cases m with
    | zero =>
      have hd := dig_lt i 0
      have HD := Lib.hid fun w => digit_c i 0 (by omega) (by omega) w
      obtain ⟨d, hdd⟩ : ∃ d, d = dig i 0 := ⟨_, rfl⟩
      have hrw := Rd.tbl_word (w0 := w0) (L := L) (W := W) (n := S.length) HA.in_ks HA.here
      rw [HA.word_here] at hrw
      have hxl := wordOf_lt S (0, plc i 0)
      obtain ⟨y, hy⟩ : ∃ y, y = wordOf S (0, plc i 0) ||| oneW (dig i 0 : Nat) := ⟨_, rfl⟩
      have HY : Hid (wordOf S (0, plc i 0) ||| allW [(d : Int)] = y) := by rw [Hid, hy, hdd]; simp [allW]
      have hww := Wr.tbl_word (w0 := w0) (L := L) (W := W) (n := S.length) HA.nodup HA.in_ks HA.here y
      have HDN := Lib.hid (HA.done hy HF.out.1 HF.out.2 hi)
      have HL := Lib.hid (len_insS hno)
      have hln := sorted_len (N := 16777216) (a := 0) HF.out.1 fun a ha => ⟨Nat.zero_le _, HF.out.2 a ha⟩
      have hln2 : (S.length : Int) ≤ 16777216 := by omega
      clear hln
      have hk3 : (3, 0) ∈ ks := (HA.mem _).2 (by rw [HA.top]; exact Option.some_ne_none T)
      have hrn := Rd.tbl_n (w0 := w0) (L := L) (W := upd W (0, plc i 0) y) (n := S.length) hk3 HA.top
      have hwn := Wr.tbl_n (w0 := w0) (L := L) (W := upd W (0, plc i 0) y) (n := S.length) HA.nodup hk3 HA.top (fun j hj => (HA.lev j hj).2) (S.length + 1)
      rw [← hdd] at hd HD
      generalize wordOf S (0, plc i 0) = x at hrw hxl HY
      clear hy hdd HA hk3
      rw [show ((S.length + 1 : Nat) : Int) = (S.length : Int) + 1 by push_cast; rfl] at hwn
      have hc := hrw _ hs
      have hfz := (hww.use hs).2.1
      go_wp2
      have hca : ∀ o, (wr.alloc o).cell? ⟨g, 0, none⟩ = some (.int .u64 (x : Nat)) := fun o => by rw [cell_alloc_some _ _ _ (by rw [hc]; rfl)]; exact hc
      have hfa : ∀ o, (wr.alloc o).frozen? ⟨g, 0, none⟩ = false := fun o => by rw [frozen_alloc_some _ _ _ (by rw [hc]; rfl)]; exact hfz
      go_cut [61] (fun _ w => St w0 (tbl ks G (upd W (0, plc i 0) y) S.length :: L) w)
      case first =>
        clear hrn hwn HDN HL hln2
        go_region_with (first
            | (go_at_call 133; refine (HD.out _).mono ?_; rintro e w' ⟨rfl, rfl⟩)
            | (go_at_call 232; refine (with_1 hxl HY (hs.alloc _ _).drew).mono ?_; rintro e w' ⟨rfl, rfl⟩))
        all_goals
          go_wp2
          go_meet
          exact ((hww.tail (p := blk wr.heap.size #[.int .i64 (d : Nat)] 3)).use (hs.alloc #[.int .i64 (d : Nat)] 3)).2.2.drop.drew
      case rest =>
        clear hs hc hfz hca hfa hww hrw HD HY
        have hs := hcut
        have hc2 := hrn _ hs
        go_wp2_with (first | (refine wpl_store rfl rfl rfl size_int hs hwn ?_; clear hs hc2 hwn; intro w3 hs3))
        go_ret2
        exact ⟨rfl, by rw [← HL.out] at hs3; exact hs3.hshut HDN.out⟩
    | succ m =>
      have hm3 := HA.low
      have hd := dig_lt i (m + 1)
      have HD := Lib.hid fun w => digit_c i (m + 1) (by omega) hm3 w
      obtain ⟨d, hdd⟩ : ∃ d, d = dig i (m + 1) := ⟨_, rfl⟩
      have hrw : ∀ L, Rd w0 (tbl ks G W S.length :: L) ⟨g, 0, none⟩ _ := fun L => Rd.tbl_word (w0 := w0) (L := L) (W := W) (n := S.length) HA.in_ks HA.here
      rw [HA.word_here] at hrw
      have hxl := wordOf_lt S (m + 1, plc i (m + 1))
      obtain ⟨y, hy⟩ : ∃ y, y = wordOf S (m + 1, plc i (m + 1)) ||| oneW (dig i (m + 1) : Nat) := ⟨_, rfl⟩
      have HY : Hid (wordOf S (m + 1, plc i (m + 1)) ||| allW [(d : Int)] = y) := by rw [Hid, hy, hdd]; simp [allW]
      have hww := Wr.tbl_word (w0 := w0) (L := L) (W := W) (n := S.length) HA.nodup HA.in_ks HA.here y
      have hrk := Rd.tbl_kid (w0 := w0) (L := L) (W := upd W (m + 1, plc i (m + 1)) y) (n := S.length) HA.in_ks HA.here hd
      rw [kid_next] at hrk
      rw [← hdd] at hd HD hrk
      generalize wordOf S (m + 1, plc i (m + 1)) = x at hrw hxl HY
      cases hg : G (m, plc i m) with
      | some g' =>
        have HA2 := HA.old hy hg
        have e : ptrV (G (m, plc i m)) = .pointer (some ⟨g', 0, none⟩) := by rw [hg]; rfl
        rw [e] at hrk
        clear HA hg e hy hdd
        have hc := hrw _ _ hs
        go_wp2_with (first
          | (go_at_call 133; refine (HD.out _).mono ?_; rintro e w' ⟨rfl, rfl⟩)
          | (refine wpl_build1 (v := .int .i64 (d : Nat)) elem24 (by decide) rfl rfl hs ?_; clear hs hc; intro g2 w hs)
          | (go_at_call 232; refine (with_1 hxl HY hs).mono ?_; rintro e w' ⟨rfl, rfl⟩; replace hs := hs.drop)
          | (refine wpl_store rfl rfl rfl size_word hs hww ?_; clear hs; intro w hs; have hc2 := hrk _ hs))
        go_roundw
        case rel => exact ⟨m, ks, G, _, g', HA2, by go_num, rfl, hs⟩
        case measure => simp [intOf] <;> omega
      | none =>
        have hno : (m, plc i m) ∉ ks := fun h => (HA.mem _).1 h hg
        have e : ptrV (G (m, plc i m)) = .pointer none := by rw [hg]; rfl
        rw [e] at hrk
        have hpn : 64 * plc i (m + 1) + d = plc i m := by rw [hdd]; exact plc_next i m
        have hw0 : upd W (m + 1, plc i (m + 1)) y (m, plc i m) = 0 := by
          rw [upd_other _ _ (by intro e; injection e; omega), HA.word _ (by simp only; omega), if_neg (by simp only; omega)]
          exact HA.no_word hg
        have hwk : ∀ g', Wr w0 (blk g' zeroCells.toArray 270 :: tbl ks G (upd W (m + 1, plc i (m + 1)) y) S.length :: L) ⟨g, 1 + d, none⟩ (.pointer (some ⟨g', 0, none⟩)) (tbl ((m, plc i m) :: ks) (upd G (m, plc i m) (some g')) (upd W (m + 1, plc i (m + 1)) y) S.length :: L) := fun g' => by
          have := Wr.tbl_new (w0 := w0) (L := L) (W := upd W (m + 1, plc i (m + 1)) y) (n := S.length) (g' := g') HA.nodup HA.in_ks HA.here (Nat.succ_ne_zero m) hm3 hd
            (by rw [Nat.add_sub_cancel, hpn]; exact hno) (by rw [Nat.add_sub_cancel, hpn]; exact hw0) (by rw [Nat.add_sub_cancel, hpn]; exact fun h e he => HA.no_kids hg h e he)
          rw [Nat.add_sub_cancel, hpn] at this
          exact this
        have HA2 := Lib.hid fun g' => HA.new (g' := g') hy hg
        have hrk2 : ∀ g', Rd w0 (tbl ((m, plc i m) :: ks) (upd G (m, plc i m) (some g')) (upd W (m + 1, plc i (m + 1)) y) S.length :: L) ⟨g, 1 + d, none⟩ (.pointer (some ⟨g', 0, none⟩)) := fun g' => by
          have := Rd.tbl_kid (w0 := w0) (L := L) (k := (m + 1, plc i (m + 1))) (g := g) (ks := (m, plc i m) :: ks) (G := upd G (m, plc i m) (some g')) (W := upd W (m + 1, plc i (m + 1)) y) (n := S.length) (List.mem_cons_of_mem _ HA.in_ks)
            (by rw [upd_other _ _ (by intro e; injection e; omega)]; exact HA.here) hd
          rw [hdd, kid_next, upd_same, ← hdd] at this
          exact this
        clear HA hg e hy hdd hno hpn hw0
        have hc := hrw _ _ hs
        go_wp2_with (first
          | (go_at_call 133; refine (HD.out _).mono ?_; rintro e w' ⟨rfl, rfl⟩)
          | (refine wpl_build1 (v := .int .i64 (d : Nat)) elem24 (by decide) rfl rfl hs ?_; clear hs hc; intro g2 w hs)
          | (go_at_call 232; refine (with_1 hxl HY hs).mono ?_; rintro e w' ⟨rfl, rfl⟩; replace hs := hs.drop)
          | (refine wpl_store rfl rfl rfl size_word hs hww ?_; clear hs; intro w hs; have hc2 := hrk _ hs)
          | (refine wpl_build0 build_node ?_)
          | (refine wpl_box hs ?_; clear hs hc2; intro g3 w hs)
          | (refine wpl_store rfl rfl rfl size_kid hs (hwk g3) ?_; clear hs; intro w hs; have hc3 := hrk2 g3 _ hs))
        go_roundw
        case rel => exact ⟨m, _, _, _, g3, HA2.out g3, by go_num, rfl, hs⟩
        case measure => simp [intOf] <;> omega
end Go.Proofs.YtcnbmfaicbkhcaaGreatDoor

/-
  The contracts of a set's Add, whatever number; New.
-/
set_option maxRecDepth 100000
namespace Go.Proofs.YtcnbmfaicbkhcaaGreatDoor
open Go Go.RowKit
attribute [local irreducible] wpList Calls Code.wp

theorem sorted_of {T : Nat} {S : List Nat} {h : Hl} (hh : HSet T S h) : S.Pairwise (· < ·) ∧ ∀ a ∈ S, a < 16777216 := by
  obtain ⟨ks, G, W, hf, _⟩ := hh
  exact ⟨hf.sorted, hf.small⟩
theorem St.sorted {w0 w : World} {T : Nat} {S : List Nat} {L : List As} (hs : St w0 (HSet T S :: L) w) : S.Pairwise (· < ·) ∧ ∀ a ∈ S, a < 16777216 := hs.fact fun _ h => sorted_of h
theorem add_h {w0 w : World} {L : List As} {T : Nat} {S : List Nat} (hs : St w0 (HSet T S :: L) w) (i : Int) :
    Calls Tryz.prog 243 #[.pointer (some ⟨T, 0, none⟩), .int .i64 i] w fun e w' => e = .returned (.tuple #[.bool (okN i && !memS S i), .int .i64 (errN i)]) ∧ St w0 (HSet T (addS S i) :: L) w' := by
  obtain ⟨hS, hS2⟩ := hs.sorted
  by_cases hi : 0 ≤ i ∧ i < 16777216
  · obtain ⟨j, rfl⟩ := Int.eq_ofNat_of_zero_le hi.1
    have hj : j < 16777216 := by omega
    have ok : okN (j : Int) = true := decide_eq_true hi
    have e1 : errN (j : Int) = 0 := by unfold errN; rw [ok]; rfl
    have e2 : addS S (j : Int) = insS j S := by unfold addS; rw [ok]; simp
    rw [ok, e1, e2]
    by_cases hm : j ∈ S
    · have HM : Hid (memS S (j : Int) = true) := memS_nat.2 hm
      have HOK : Hid (decide ((0 : Int) ≤ (j : Int) ∧ (j : Int) < 16777216) = true) := ok
      rw [ins_id hS hm]
      have HR : Hid (Ending.returned (.tuple #[.bool false, .int .i64 0]) = .returned (.tuple #[.bool (true && !memS S (j : Int)), .int .i64 0])) := by rw [Hid, HM.out]; rfl
      rw [← HR.out]
      clear hS hS2 hi ok e1 e2 hm
      go_enter Tryz.func243, Tryz.ntmps243
      go_wp2_with (first
        | (go_at_call 130; refine (ok_c _ _).mono ?_; rw [HOK.out]; rintro e w' ⟨rfl, rfl⟩)
        | (go_at_call 69; refine (has_s hs HM).mono ?_; clear hs; rintro e w ⟨rfl, hs⟩))
      go_ret2
      exact ⟨rfl, hs⟩
    · have HM : memS S (j : Int) = false := by rw [← Bool.not_eq_true, memS_nat]; exact hm
      rw [HM]
      exact add_in hs j hj hm
  · have ok : okN i = false := decide_eq_false hi
    have e1 : errN i = 1 := by unfold errN; rw [ok]; rfl
    have e2 : addS S i = S := by unfold addS; rw [ok]; rfl
    rw [ok, e1, e2]
    have HOK : Hid (decide (0 ≤ i ∧ i < 16777216) = false) := ok
    clear hS hS2 hi ok e1 e2
    go_enter Tryz.func243, Tryz.ntmps243
    go_wp2_with (first
      | (go_at_call 130; refine (ok_c _ _).mono ?_; rw [HOK.out]; rintro e w' ⟨rfl, rfl⟩))
    go_ret2
    exact ⟨rfl, hs⟩
/-- The empty set. -/
def G0 (T : Nat) : Key → Option Nat := upd (fun _ => none) (3, 0) (some T)
theorem fits_empty (T : Nat) : Fits T [] [(3, 0)] (G0 T) (fun _ => 0) where
  nodup := by simp
  mem k := by
    unfold G0
    by_cases e : k = (3, 0)
    · subst e; rw [upd_same]; simp
    · rw [upd_other _ _ e]; simp [e]
  top := upd_same _ _ _
  lev k hk := by simp at hk; subst hk; exact ⟨Nat.le_refl _, fun _ => rfl⟩
  there k hk := by
    unfold G0
    rw [upd_other _ _ (by intro e; subst e; simp at hk)]
    simp [wordOf, allW]
  word k _ := by simp [wordOf, allW]
  sorted := List.Pairwise.nil
  small a ha := by cases ha
theorem tbl_empty (T : Nat) : ∀ h, blk T (zeroCells ++ [Value.int .i64 0]).toArray 325 h → HSet T [] h := fun h hb => by
  refine ⟨_, _, _, fits_empty T, ?_⟩
  have e : ndBlk (G0 T) (fun _ => 0) 0 (3, 0) = blk T (zeroCells ++ [Value.int .i64 0]).toArray 325 := by
    unfold ndBlk nodeCells nodeTy G0
    rw [upd_same]
    simp only [Option.getD_some, if_true]
    congr 2
  show star _ _ h
  rw [show (([] : List Nat).length) = 0 from rfl, e]
  exact star_comm (emp_star hb)
/-- What a row of numbers comes to. -/
def setS (zs : List Int) : List Nat := zs.foldl addS []
theorem add_t {w0 w : World} {L : List As} {T : Nat} {S : List Nat} (hs : St w0 (HSet T S :: L) w) (i : Int) {S' : List Nat} (h : Hid (addS S i = S')) :
    Calls Tryz.prog 243 #[.pointer (some ⟨T, 0, none⟩), .int .i64 i] w fun e w' => ∃ b x, e = .returned (.tuple #[.bool b, .int .i64 x]) ∧ St w0 (HSet T S' :: L) w' :=
  (add_h hs i).mono fun e w' ⟨h1, h2⟩ => ⟨_, _, h1, by rw [← h.out]; exact h2⟩
theorem new_h {w0 w : World} {L : List As} {A : Option Addr} {zs : List Int} {c : Nat} (hs : St w0 L w) (hr : RdS w0 L A (zs.map (Value.int .i64))) (hl : zs.length ≤ maxLen) :
    Calls Tryz.prog 242 #[.slice A zs.length c] w fun e w' => ∃ T, e = .returned (.pointer (some ⟨T, 0, none⟩)) ∧ St w0 (HSet T (setS zs) :: L) w' := by
  unfold maxLen at hl
  go_enter Tryz.func242, Tryz.ntmps242
  go_wp2_with (first
    | (refine wpl_build0 build_set ?_)
    | (refine wpl_box hs ?_; clear hs; intro T w hs))
  replace hs := hs.conv (tbl_empty T)
  go_loopw [10] (fun i wr => ∃ k : Nat, k ≤ zs.length ∧ i = .int .i64 k ∧ St w0 (HSet T (setS (zs.take k)) :: L) wr) (fun i _ => zs.length - (intOf i).toNat)
  case atStart => exact ⟨0, Nat.zero_le _, rfl, hs⟩
  case round =>
    clear hs
    obtain ⟨k, hk, rfl, hs⟩ := hrel
    by_cases hlt : k < zs.length
    · obtain ⟨b, o, z, rfl, hc, hz⟩ := hr.int hlt
      have hc := hc.tail _ hs
      have HS : Hid (addS (setS (zs.take k)) z = setS (zs.take (k + 1))) := by
        rw [Hid, setS, setS, List.take_succ_eq_append_getElem hlt, List.foldl_append]
        rw [List.getElem?_eq_getElem hlt] at hz
        rw [← Option.some.inj hz]
        rfl
      clear hz
      go_wp2_with (first
        | (go_at_call 243; refine (add_t hs _ HS).mono ?_; clear hs hc; rintro e w ⟨b', x, rfl, hs⟩))
      go_roundw
      case rel => exact ⟨k + 1, by omega, by go_num, hs⟩
      case measure => simp [intOf] <;> omega
    · have he : zs.take k = zs := List.take_of_length_le (by omega)
      rw [he] at hs
      go_wp2
      go_ret
      exact ⟨T, rfl, hs⟩
end Go.Proofs.YtcnbmfaicbkhcaaGreatDoor

/-
  Plain law of a set's functions: how far Remove has come; the least number from one on; some numbers from one on. No function of the program is walked here.
-/
namespace Go.Proofs.YtcnbmfaicbkhcaaGreatDoor
open Go Go.RowKit

theorem div_up {i j a b : Nat} (h : j / 64 ^ a = i / 64 ^ a) (hab : a ≤ b) : j / 64 ^ b = i / 64 ^ b := by
  obtain ⟨c, rfl⟩ := Nat.exists_eq_add_of_le hab
  rw [Nat.pow_add, ← Nat.div_div_eq_div_mul, ← Nat.div_div_eq_div_mul, h]

/-- How far Remove has come: the levels below m lack the number, what is empty of them but for the last is gone. -/
structure RemPart (T : Nat) (S : List Nat) (i m : Nat) (ks : List Key) (G : Key → Option Nat) (W : Key → Nat) (gw : Nat → Nat) : Prop where
  nodup : ks.Nodup
  mem : ∀ k, k ∈ ks ↔ G k ≠ none
  top : G (3, 0) = some T
  lev : ∀ k ∈ ks, k.1 ≤ 3 ∧ (k.1 = 3 → k.2 = 0)
  there : ∀ k : Key, k.1 < 3 → (G k ≠ none ↔ wordOf S k ≠ 0 ∧ ¬ (k.1 + 1 < m ∧ k.2 = plc i k.1))
  word : ∀ k : Key, k.1 ≤ 3 → W k = if k.1 < m then wordOf (delS i S) k else wordOf S k
  way : ∀ l, m ≤ l → l ≤ 3 → G (l, plc i l) = some (gw l)
def Gone (S : List Nat) (i m : Nat) : Prop := ∀ j ∈ delS i S, j / 64 ^ m ≠ i / 64 ^ m
theorem gone_zero (S : List Nat) (i : Nat) : Gone S i 0 := fun j hj h => (mem_delS.1 hj).2 (by simpa using h)
theorem gone_next {S : List Nat} {i m : Nat} (h : wordOf (delS i S) (m, plc i m) = 0) : Gone S i (m + 1) := fun j hj e => (wordOf_ne (S := delS i S) (l := m) (p := plc i m)).2 ⟨j, hj, e⟩ h
section
variable {T : Nat} {S : List Nat} {i m : Nat} {ks : List Key} {G : Key → Option Nat} {W : Key → Nat} {gw : Nat → Nat}
theorem Fits.way (hf : Fits T S ks G W) (hi : i < 16777216) (him : i ∈ S) : ∃ gw : Nat → Nat, gw 3 = T ∧ ∀ l, l ≤ 3 → G (l, plc i l) = some (gw l) := by
  refine ⟨fun l => (G (l, plc i l)).getD 0, by simp only; rw [plc_3 hi, hf.top]; rfl, fun l hl => ?_⟩
  have : G (l, plc i l) ≠ none := by
    by_cases h : l < 3
    · exact (hf.there _ h).2 (wordOf_ne.2 ⟨i, him, rfl⟩)
    · obtain rfl : l = 3 := by omega
      rw [plc_3 hi, hf.top]; exact Option.some_ne_none T
  cases hg : G (l, plc i l) with
  | none => exact absurd hg this
  | some g => simp only [hg]; rfl
theorem Fits.rem (hf : Fits T S ks G W) (hw : ∀ l, l ≤ 3 → G (l, plc i l) = some (gw l)) : RemPart T S i 0 ks G W gw where
  nodup := hf.nodup
  mem := hf.mem
  top := hf.top
  lev := hf.lev
  there k hk := by rw [hf.there k hk]; exact ⟨fun h => ⟨h, fun h2 => by omega⟩, fun h => h.1⟩
  word k hk := by rw [hf.word k hk, if_neg (Nat.not_lt_zero _)]
  way l _ hl := hw l hl
theorem RemPart.in_ks (h : RemPart T S i m ks G W gw) {l : Nat} (h1 : m ≤ l) (h2 : l ≤ 3) : (l, plc i l) ∈ ks := (h.mem _).2 (by rw [h.way l h1 h2]; exact Option.some_ne_none _)
theorem RemPart.word_here (h : RemPart T S i m ks G W gw) (hm : m ≤ 3) : W (m, plc i m) = wordOf S (m, plc i m) := by rw [h.word _ hm, if_neg (Nat.lt_irrefl _)]
theorem RemPart.below (h : RemPart T S i (m + 1) ks G W gw) (him : i ∈ S) (hm : m < 3) : (m, plc i m) ∈ ks := (h.mem _).2 ((h.there (m, plc i m) hm).2 ⟨wordOf_ne.2 ⟨i, him, rfl⟩, fun h => by simp only at h; omega⟩)
theorem RemPart.words (h : RemPart T S i m ks G W gw) {y : Nat} (hy : y = wordOf (delS i S) (m, plc i m)) (k : Key) (hk : k.1 ≤ 3) : upd W (m, plc i m) y k = if k.1 < m + 1 then wordOf (delS i S) k else wordOf S k := by
  obtain ⟨l, p⟩ := k
  by_cases e : (l, p) = (m, plc i m)
  · rw [e, upd_same, if_pos (Nat.lt_succ_self _), hy]
  · rw [upd_other _ _ e, h.word _ hk]
    by_cases h1 : l < m
    · rw [if_pos h1, if_pos (Nat.lt_succ_of_lt h1)]
    · rw [if_neg h1]
      by_cases h2 : l < m + 1
      · have hml : l = m := by omega
        subst hml
        rw [if_pos h2, wordOf_del_off fun hp => e (by rw [show p = plc i l from hp])]
      · rw [if_neg h2]
theorem RemPart.step0 (h : RemPart T S i 0 ks G W gw) {y : Nat} (hy : y = wordOf (delS i S) (0, plc i 0)) : RemPart T S i 1 ks G (upd W (0, plc i 0) y) gw where
  nodup := h.nodup
  mem := h.mem
  top := h.top
  lev := h.lev
  there k hk := by rw [h.there k hk]; exact ⟨fun h => ⟨h.1, fun h2 => by omega⟩, fun h => ⟨h.1, fun h2 => by omega⟩⟩
  word := h.words hy
  way l h1 h2 := h.way l (by omega) h2
theorem RemPart.step (h : RemPart T S i (m + 1) ks G W gw) (hm : m < 3) {y : Nat} (hy : y = wordOf (delS i S) (m + 1, plc i (m + 1))) : RemPart T S i (m + 2) (ks.erase (m, plc i m)) (upd G (m, plc i m) none) (upd W (m + 1, plc i (m + 1)) y) gw where
  nodup := h.nodup.erase _
  mem k := by
    rw [List.Nodup.mem_erase_iff h.nodup, h.mem]
    by_cases e : k = (m, plc i m)
    · rw [e, upd_same]; simp
    · rw [upd_other _ _ e]; simp [e]
  top := by rw [upd_other _ _ (by intro e; injection e; omega)]; exact h.top
  lev k hk := h.lev k (List.mem_of_mem_erase hk)
  there k hk := by
    by_cases e : k = (m, plc i m)
    · rw [e, upd_same]; simp
    · rw [upd_other _ _ e, h.there k hk]
      refine and_congr_right fun _ => not_congr ⟨fun h => ⟨by omega, h.2⟩, fun h => ⟨?_, h.2⟩⟩
      by_cases e2 : k.1 = m
      · exact absurd (Prod.ext e2 (by rw [h.2, e2])) e
      · omega
  word := h.words hy
  way l h1 h2 := by rw [upd_other _ _ (by intro e; injection e; omega)]; exact h.way l (by omega) h2
theorem RemPart.next (h : RemPart T S i m ks G W gw) (him : i ∈ S) (hm : m ≤ 3) {y : Nat} (hy : y = wordOf (delS i S) (m, plc i m)) :
    ∃ ks' G', RemPart T S i (m + 1) ks' G' (upd W (m, plc i m) y) gw ∧ (m, plc i m) ∈ ks' ∧ G' (m, plc i m) = some (gw m) ∧
      ∀ (w0 : World) (L : List As) (n : Nat), Wr w0 (tbl ks G (upd W (m, plc i m) y) n :: L) ⟨gw m, 1 + dig i m, none⟩ (.pointer none) (tbl ks' G' (upd W (m, plc i m) y) n :: L) := by
  have hin := h.in_ks (Nat.le_refl m) hm
  have hhere := h.way m (Nat.le_refl m) hm
  cases m with
  | zero => exact ⟨ks, G, h.step0 hy, hin, hhere, fun w0 L n => Wr.tbl_low h.nodup hin hhere (dig_lt i 0)⟩
  | succ m =>
    have hne : (m + 1, plc i (m + 1)) ≠ (m, plc i m) := by intro e; injection e; omega
    refine ⟨_, _, h.step (by omega) hy, (List.Nodup.mem_erase_iff h.nodup).2 ⟨hne, hin⟩, by rw [upd_other _ _ hne]; exact hhere, fun w0 L n => ?_⟩
    have hb := h.below him (by omega)
    have := Wr.tbl_drop (w0 := w0) (L := L) (W := upd W (m + 1, plc i (m + 1)) y) (n := n) h.nodup hin hhere (Nat.succ_ne_zero m) (dig_lt i (m + 1)) (by rw [plc_next]; exact hb)
    rw [plc_next] at this
    exact this
theorem RemPart.done (h : RemPart T S i (m + 1) ks G W gw) (hS : S.Pairwise (· < ·)) (hs : ∀ a ∈ S, a < 16777216) (hg : Gone S i m) (hw : wordOf (delS i S) (m, plc i m) ≠ 0) : Fits T (delS i S) ks G W where
  nodup := h.nodup
  mem := h.mem
  top := h.top
  lev := h.lev
  there := fun ⟨l, p⟩ hk => by
    obtain ⟨j0, hj0, e0⟩ := wordOf_ne.1 hw
    rw [h.there _ hk, wordOf_ne, wordOf_ne]
    constructor
    · rintro ⟨⟨j, hj, h1⟩, h2⟩
      by_cases e : j = i
      · subst e
        have hl : m ≤ l := Classical.byContradiction fun hl => h2 ⟨by simp only; omega, h1.symm⟩
        exact ⟨j0, hj0, by rw [← h1]; exact div_up e0 (by omega)⟩
      · exact ⟨j, mem_delS.2 ⟨hj, e⟩, h1⟩
    · rintro ⟨j, hj, h1⟩
      refine ⟨⟨j, (mem_delS.1 hj).1, h1⟩, fun h2 => hg j hj (div_up (a := l + 1) ?_ (by have := h2.1; simp only at this; omega))⟩
      rw [h1]; exact h2.2
  word k hk := by
    obtain ⟨j0, hj0, e0⟩ := wordOf_ne.1 hw
    rw [h.word k hk]
    split
    · rfl
    · obtain ⟨l, p⟩ := k
      exact (wordOf_del_stays ⟨j0, hj0, div_up e0 (by simp only at *; omega)⟩ p).symm
  sorted := sorted_delS hS
  small a ha := hs a (mem_delS.1 ha).1
theorem RemPart.empty (h : RemPart T S i 4 ks G W gw) (hs : ∀ a ∈ S, a < 16777216) (hi : i < 16777216) (hg : Gone S i 4) : delS i S = [] ∧ Fits T (delS i S) ks G W := by
  have he : delS i S = [] := by
    cases hd : delS i S with
    | nil => rfl
    | cons j l =>
      have hj : j ∈ delS i S := by rw [hd]; simp
      have := hs j (mem_delS.1 hj).1
      exact absurd (by omega) (hg j hj)
  refine ⟨he, ⟨h.nodup, h.mem, h.top, h.lev, fun ⟨l, p⟩ hk => ?_, fun k hk => by rw [h.word k hk, if_pos (by omega)], by rw [he]; exact List.Pairwise.nil, by rw [he]; simp⟩⟩
  rw [h.there _ hk, wordOf_ne, wordOf_ne, he]
  constructor
  · rintro ⟨⟨j, hj, h1⟩, h2⟩
    have : j = i := Classical.byContradiction fun e => by
      have := mem_delS.2 ⟨hj, e⟩
      rw [he] at this
      cases this
    subst this
    exact absurd ⟨by simp only at *; omega, h1.symm⟩ h2
  · rintro ⟨j, hj, _⟩
    cases hj
end

/-! ### The least number from one on -/
def nextS (S : List Nat) (f : Int) : Int := match S.find? (fun a : Nat => decide (f ≤ (a : Int))) with
  | some a => a
  | none => -1
/-- r is the least of S from lo on and below hi, reckoned from base; -1: there is none. -/
def LowV (S : List Nat) (base lo hi : Nat) (r : Int) : Prop := (r = -1 ∧ ∀ a ∈ S, lo ≤ a → a < hi → False) ∨ ∃ a ∈ S, r = (a : Int) - base ∧ lo ≤ a ∧ a < hi ∧ ∀ b ∈ S, lo ≤ b → b < hi → a ≤ b
theorem LowV.next {S : List Nat} {f : Nat} {r : Int} (hS : S.Pairwise (· < ·)) (hs : ∀ a ∈ S, a < 16777216) (h : LowV S 0 f 16777216 r) : r = nextS S f := by
  unfold nextS
  rcases h with ⟨rfl, h⟩ | ⟨a, ha, rfl, h1, h2, h3⟩
  · have : S.find? (fun a : Nat => decide ((f : Int) ≤ (a : Int))) = none := List.find?_eq_none.2 fun a ha h4 => by
      have h5 : (f : Int) ≤ (a : Int) := by simpa using h4
      exact h a ha (by omega) (hs a ha)
    rw [this]
  · rw [find_first hS ha (p := fun a : Nat => decide ((f : Int) ≤ (a : Int))) (by simpa using h1) fun j hj hlt => ?_]
    · simp
    · have := hs j hj
      have h4 : ¬ (f ≤ j) := fun h5 => by have := h3 j hj h5 this; omega
      simpa using h4
theorem nextS_cases (S : List Nat) (hS : S.Pairwise (· < ·)) (f : Int) : (nextS S f = -1 ∧ ∀ a ∈ S, (a : Int) < f) ∨ ∃ a ∈ S, nextS S f = (a : Int) ∧ f ≤ a ∧ ∀ b ∈ S, f ≤ (b : Int) → a ≤ b := by
  unfold nextS
  cases h : S.find? (fun a : Nat => decide (f ≤ (a : Int))) with
  | none =>
    refine .inl ⟨rfl, fun a ha => ?_⟩
    have := List.find?_eq_none.1 h a ha
    simpa using this
  | some a =>
    have ha := List.mem_of_find?_eq_some h
    have hp := List.find?_some h
    refine .inr ⟨a, ha, rfl, by simpa using hp, fun b hb hfb => ?_⟩
    obtain ⟨l1, l2, e1, h2⟩ := (List.find?_eq_some_iff_append.1 h).2
    rw [e1] at hb hS
    rcases List.mem_append.1 hb with h3 | h3
    · have := h2 b h3
      simp at this
      omega
    · rcases List.mem_cons.1 h3 with h4 | h4
      · omega
      · have := (List.pairwise_cons.1 (List.pairwise_append.1 hS).2.1).1 b h4
        omega
theorem nextS_unique {S : List Nat} (hS : S.Pairwise (· < ·)) {f : Int} {a : Nat} (ha : a ∈ S) (h1 : f ≤ a) (h2 : ∀ b ∈ S, f ≤ (b : Int) → a ≤ b) : nextS S f = a := by
  rcases nextS_cases S hS f with ⟨_, h⟩ | ⟨c, hc, h, h3, h4⟩
  · have := h a ha; omega
  · rw [h]
    have := h4 a ha h1
    have := h2 c hc h3
    omega
theorem nextS_none {S : List Nat} (hS : S.Pairwise (· < ·)) {f : Int} (h : ∀ a ∈ S, (a : Int) < f) : nextS S f = -1 := by
  rcases nextS_cases S hS f with ⟨h1, _⟩ | ⟨c, hc, _, h3, _⟩
  · exact h1
  · have := h c hc; omega
/-- Those from one on. -/
def fromS (S : List Nat) (f : Int) : List Nat := S.filter fun a : Nat => decide (f ≤ (a : Int))
theorem fromS_sorted {S : List Nat} (hS : S.Pairwise (· < ·)) (f : Int) : (fromS S f).Pairwise (· < ·) := List.Pairwise.filter _ hS
theorem mem_fromS {S : List Nat} {f : Int} {a : Nat} : a ∈ fromS S f ↔ a ∈ S ∧ f ≤ (a : Int) := by simp [fromS]
theorem nextS_head {S : List Nat} (hS : S.Pairwise (· < ·)) (f : Int) : nextS S f = match fromS S f with | [] => -1 | a :: _ => (a : Int) := by
  cases h : fromS S f with
  | nil =>
    refine nextS_none hS fun a ha => ?_
    have : ¬ f ≤ (a : Int) := fun h2 => by
      have := mem_fromS.2 ⟨ha, h2⟩
      rw [h] at this
      cases this
    omega
  | cons a l =>
    have ha := mem_fromS.1 (show a ∈ fromS S f by rw [h]; simp)
    refine nextS_unique hS ha.1 ha.2 fun b hb hfb => ?_
    have hb2 := mem_fromS.2 ⟨hb, hfb⟩
    have hs := fromS_sorted hS f
    rw [h] at hb2 hs
    rcases List.mem_cons.1 hb2 with e | e
    · omega
    · have := (List.pairwise_cons.1 hs).1 b e
      omega
theorem bit_range {S : List Nat} {l p e : Nat} (he : e < 64) : (wordOf S (l, p)).testBit e = true ↔ ∃ i ∈ S, p * 64 ^ (l + 1) + e * 64 ^ l ≤ i ∧ i < p * 64 ^ (l + 1) + e * 64 ^ l + 64 ^ l := by
  rw [bit_wordOf _ _ _ _ he]
  have hB : 0 < 64 ^ l := Nat.pow_pos (by decide)
  have e1 : p * 64 ^ (l + 1) + e * 64 ^ l = (64 * p + e) * 64 ^ l := by rw [Nat.pow_succ, Nat.add_mul, Nat.mul_comm (64 ^ l) 64, ← Nat.mul_assoc, Nat.mul_comm p 64]
  rw [e1]
  have key : ∀ i, i / 64 ^ l = 64 * p + e ↔ (64 * p + e) * 64 ^ l ≤ i ∧ i < (64 * p + e) * 64 ^ l + 64 ^ l := fun i => by
    rw [Nat.div_eq_iff hB]
    generalize (64 * p + e) * 64 ^ l = x
    omega
  simp only [key]
def NoLow (S : List Nat) (l p f c : Nat) : Prop := ∀ a ∈ S, p * 64 ^ (l + 1) + f ≤ a → a < p * 64 ^ (l + 1) + c * 64 ^ l → False
theorem noLow_start {S : List Nat} {l p f : Nat} : NoLow S l p f (f / 64 ^ l) := fun a _ h1 h2 => by
  have := Nat.div_mul_le_self f (64 ^ l)
  omega
theorem noLow_next {S : List Nat} {l p f c d : Nat} (h : NoLow S l p f c) (hb : ∀ e, c ≤ e → e < d → (wordOf S (l, p)).testBit e = false) (hd : d ≤ 64) : NoLow S l p f d := fun a ha h1 h2 => by
  have hB : 0 < 64 ^ l := Nat.pow_pos (by decide)
  by_cases h3 : a < p * 64 ^ (l + 1) + c * 64 ^ l
  · exact h a ha h1 h3
  · have h4 : c ≤ (a - p * 64 ^ (l + 1)) / 64 ^ l := (Nat.le_div_iff_mul_le hB).2 (by omega)
    have h5 : (a - p * 64 ^ (l + 1)) / 64 ^ l < d := (Nat.div_lt_iff_lt_mul hB).2 (by omega)
    have h6 := hb _ h4 h5
    have h7 := Nat.div_mul_le_self (a - p * 64 ^ (l + 1)) (64 ^ l)
    have h8 : a - p * 64 ^ (l + 1) < ((a - p * 64 ^ (l + 1)) / 64 ^ l) * 64 ^ l + 64 ^ l := by
      have := Nat.lt_div_mul_add (a := a - p * 64 ^ (l + 1)) hB
      omega
    have h9 := (bit_range (S := S) (l := l) (p := p) (e := (a - p * 64 ^ (l + 1)) / 64 ^ l) (by omega)).2 ⟨a, ha, by omega, by omega⟩
    rw [h6] at h9
    cases h9
theorem lowV_none {S : List Nat} {l p f : Nat} (h : NoLow S l p f 64) : LowV S (p * 64 ^ (l + 1)) (p * 64 ^ (l + 1) + f) (p * 64 ^ (l + 1) + 64 ^ (l + 1)) (-1) :=
  .inl ⟨rfl, fun a ha h1 h2 => h a ha h1 (by rw [Nat.pow_succ 64 l, Nat.mul_comm (64 ^ l) 64] at h2 ⊢; exact h2)⟩
theorem lowV_zero {S : List Nat} {p f d : Nat} (h : NoLow S 0 p f d) (hd : d < 64) (hb : (wordOf S (0, p)).testBit d = true) (hf : f ≤ d) : LowV S (p * 64 ^ (0 + 1)) (p * 64 ^ (0 + 1) + f) (p * 64 ^ (0 + 1) + 64 ^ (0 + 1)) (d : Nat) := by
  obtain ⟨a, ha, h1, h2⟩ := (bit_range hd).1 hb
  refine .inr ⟨a, ha, by omega, by omega, by omega, fun b hb h3 h4 => Classical.byContradiction fun h5 => h b hb h3 (by omega)⟩
theorem kid_base (l p d : Nat) : (64 * p + d) * 64 ^ (l + 1) = p * 64 ^ (l + 1 + 1) + d * 64 ^ (l + 1) := by
  rw [Nat.pow_succ 64 (l + 1), Nat.add_mul, Nat.mul_comm (64 ^ (l + 1)) 64, ← Nat.mul_assoc, Nat.mul_comm p 64]
theorem kid_top {l p d : Nat} (hd : d < 64) : (64 * p + d) * 64 ^ (l + 1) + 64 ^ (l + 1) ≤ p * 64 ^ (l + 1 + 1) + 64 ^ (l + 1 + 1) := by
  rw [kid_base, Nat.pow_succ 64 (l + 1), Nat.mul_comm (64 ^ (l + 1)) 64]
  generalize p * (64 * 64 ^ (l + 1)) = x
  have := Nat.mul_le_mul_right (64 ^ (l + 1)) (show d + 1 ≤ 64 by omega)
  rw [Nat.add_mul] at this
  omega
theorem noLow_kid {S : List Nat} {l p f d : Nat} (h : NoLow S (l + 1) p f d) (hk : LowV S ((64 * p + d) * 64 ^ (l + 1)) ((64 * p + d) * 64 ^ (l + 1) + (f - d * 64 ^ (l + 1))) ((64 * p + d) * 64 ^ (l + 1) + 64 ^ (l + 1)) (-1)) : NoLow S (l + 1) p f (d + 1) := fun a ha h1 h2 => by
  rw [kid_base] at hk
  rw [Nat.add_mul] at h2
  rcases hk with ⟨_, hk⟩ | ⟨b, _, hb, h3, _⟩
  · by_cases h3 : a < p * 64 ^ (l + 1 + 1) + d * 64 ^ (l + 1)
    · exact h a ha h1 h3
    · exact hk a ha (by omega) (by omega)
  · omega
theorem lowV_kid {S : List Nat} {l p f d : Nat} {r : Int} (h : NoLow S (l + 1) p f d) (hd : d < 64) (hr : 0 ≤ r) (hk : LowV S ((64 * p + d) * 64 ^ (l + 1)) ((64 * p + d) * 64 ^ (l + 1) + (f - d * 64 ^ (l + 1))) ((64 * p + d) * 64 ^ (l + 1) + 64 ^ (l + 1)) r) :
    LowV S (p * 64 ^ (l + 1 + 1)) (p * 64 ^ (l + 1 + 1) + f) (p * 64 ^ (l + 1 + 1) + 64 ^ (l + 1 + 1)) (((d * 64 ^ (l + 1) : Nat) : Int) + r) := by
  have ht := kid_top (l := l) (p := p) hd
  rw [kid_base] at hk ht
  rcases hk with ⟨rfl, _⟩ | ⟨a, ha, h1, h2, h3, h4⟩
  · omega
  · refine .inr ⟨a, ha, ?_, by omega, by omega, fun b hb h5 h6 => Classical.byContradiction fun h7 => ?_⟩
    · rw [h1]; push_cast; omega
    · by_cases h8 : b < p * 64 ^ (l + 1 + 1) + d * 64 ^ (l + 1)
      · exact h b hb h5 h8
      · have := h4 b hb (by omega) (by omega)
        omega
theorem LowV.lt {S : List Nat} {base lo hi : Nat} {r : Int} (h : LowV S base lo hi r) (hb : base ≤ lo) : -1 ≤ r ∧ r < (hi : Int) - base ∨ r = -1 := by
  rcases h with ⟨rfl, _⟩ | ⟨a, _, rfl, h1, h2, _⟩
  · exact .inr rfl
  · exact .inl ⟨by omega, by omega⟩

/-! ### Two sets at one node -/
def EqAt (S S' : List Nat) (l p : Nat) : Prop := ∀ a, a / 64 ^ (l + 1) = p → (a ∈ S ↔ a ∈ S')
end Go.Proofs.YtcnbmfaicbkhcaaGreatDoor

/-
  The contract of a set's Remove.
-/
set_option maxRecDepth 100000
namespace Go.Proofs.YtcnbmfaicbkhcaaGreatDoor
open Go Go.RowKit
attribute [local irreducible] wpList Calls Code.wp

/-- The way down: the nodes from the top to below m. -/
def wayC (gw : Nat → Nat) (m : Nat) : Array Value := ((List.range 4).map fun l => if m ≤ l then Value.pointer (some ⟨gw l, 0, none⟩) else .pointer none).toArray
theorem wayC_size (gw : Nat → Nat) (m : Nat) : (wayC gw m).size = 4 := by simp [wayC]
theorem wayC_set (gw : Nat → Nat) {m : Nat} : (wayC gw (m + 1)).setIfInBounds m (.pointer (some ⟨gw m, 0, none⟩)) = wayC gw m := by
  apply Array.ext (by simp [wayC])
  intro i h1 h2
  rw [Array.getElem_setIfInBounds]
  · simp only [wayC, List.getElem_toArray, List.getElem_map, List.getElem_range]
    by_cases e : m = i
    · subst e; simp
    · rw [if_neg e]
      by_cases h : m ≤ i
      · rw [if_pos h, if_pos (by omega)]
      · rw [if_neg h, if_neg (by omega)]
  · simpa [wayC] using h1
theorem wayC_get (gw : Nat → Nat) {l : Nat} (hl : l < 4) : (wayC gw 0)[l]? = some (.pointer (some ⟨gw l, 0, none⟩)) := by
  simp [wayC, hl]
set_option maxHeartbeats 2000000 in
theorem remove_in {w0 w : World} {L : List As} {T : Nat} {S : List Nat} (hs : St w0 (HSet T S :: L) w) (i : Nat) (hi : i < 16777216) (him : i ∈ S) :
    Calls Tryz.prog 246 #[.pointer (some ⟨T, 0, none⟩), .int .i64 i] w fun e w' => e = .returned (.tuple #[.bool true, .int .i64 0]) ∧ St w0 (HSet T (delS i S) :: L) w' := by
  have HOK : Hid (decide ((0 : Int) ≤ (i : Int) ∧ (i : Int) < 16777216) = true) := by rw [Hid]; simp; omega
  have HM : Hid (memS S (i : Int) = true) := memS_nat.2 him
  go_enter Tryz.func246, Tryz.ntmps246
  go_wp2_with (first
    | (go_at_call 130; refine (ok_c _ _).mono ?_; rw [HOK.out]; rintro e w' ⟨rfl, rfl⟩)
    | (go_at_call 69; refine (has_s hs HM).mono ?_; clear hs; rintro e w ⟨rfl, hs⟩))
  clear HOK HM
  obtain ⟨ks, G, W, hf, hs⟩ := hs.hopen
  obtain ⟨gw, hg3, hway⟩ := hf.way hi him
  have hs := (hs.alloc (wayC gw 4) 408).rot
  generalize w.heap.size = gA at hs ⊢
  have HF := Lib.hid hf
  have HW := Lib.hid hway
  clear hway hf
  go_loopw [7, 8] (fun nd lv wr => ∃ m : Nat, m ≤ 3 ∧ lv = .int .i64 (m : Nat) ∧ nd = .pointer (some ⟨gw m, 0, none⟩) ∧ St w0 (tbl ks G W S.length :: blk gA (wayC gw (m + 1)) 408 :: L) wr) (fun _ lv _ => (intOf lv).toNat)
  case atStart => exact ⟨3, Nat.le_refl _, rfl, by rw [hg3], hs⟩
  case round =>
    clear hs
    obtain ⟨m, hm, rfl, rfl, hs⟩ := hrel
    cases m with
    | zero =>
      have hw0 := fun L => Wr.blk (w0 := w0) (g := gA) (cs := wayC gw (0 + 1)) (t := 408) (v := .pointer (some ⟨gw 0, 0, none⟩)) (L := L) (k := 0) (by rw [wayC_size]; decide)
      rw [wayC_set gw] at hw0
      have hw1 := fun L => (hw0 L).tail (p := tbl ks G W S.length)
      clear hw0
      go_wp2_with (first | (refine wpl_store rfl rfl rfl size_kid hs (hw1 _) ?_; clear hs hw1; intro w hs))
      have hr0 := HF.out.rem HW.out
      have hg0 := Lib.hid (gone_zero S i)
      have HS := Lib.hid (show S.Pairwise (· < ·) ∧ (∀ a ∈ S, a < 16777216) from ⟨HF.out.sorted, HF.out.small⟩)
      clear HF HW hg3 hm
      go_loopw [38] (fun c wr => ∃ m ks G W, m ≤ 4 ∧ Hid (RemPart T S i m ks G W gw) ∧ Hid (Gone S i m) ∧ c = .int .i64 (m : Nat) ∧ St w0 (tbl ks G W S.length :: blk gA (wayC gw 0) 408 :: L) wr) (fun c _ => 4 - (intOf c).toNat)
      case atStart => exact ⟨0, ks, G, W, by omega, hr0, hg0, rfl, hs⟩
      case round =>
        clear hs hg0 hr0
        obtain ⟨m, ks, G, W, hm, HR, HG, rfl, hs⟩ := hrel
        by_cases hm4 : m < 4
        · have hm3 : m ≤ 3 := by omega
          have hd := dig_lt i m
          have HD := Lib.hid fun w => digit_c i m (by omega) hm3 w
          obtain ⟨d, hdd⟩ : ∃ d, d = dig i m := ⟨_, rfl⟩
          rw [← hdd] at hd HD
          have hin := HR.out.in_ks (Nat.le_refl m) hm3
          have hhere := HR.out.way m (Nat.le_refl m) hm3
          have hrw := fun L => Rd.tbl_word (w0 := w0) (L := L) (W := W) (n := S.length) hin hhere
          rw [HR.out.word_here hm3] at hrw
          have hrway := fun L => (Rd.blk (w0 := w0) (g := gA) (t := 408) (L := L) (wayC_get gw hm4)).tail (p := tbl ks G W S.length)
          have hxl := wordOf_lt S (m, plc i m)
          obtain ⟨y, hy⟩ : ∃ y, y = wordOf (delS i S) (m, plc i m) := ⟨_, rfl⟩
          have HY : Hid (subW (wordOf S (m, plc i m)) (allW [(d : Int)]) = y) := by
            rw [Hid, hy, hdd, show plc i m = i / 64 ^ (m + 1) from rfl, wordOf_del_gone HG.out]; simp [allW, dig]
          have hww := fun L => Wr.tbl_word (w0 := w0) (L := L) (W := W) (n := S.length) HR.out.nodup hin hhere y
          generalize wordOf S (m, plc i m) = x at hrw hxl HY
          have HYD := Lib.hid (show y = wordOf (delS i S) (m, plc i m) ∧ d = dig i m from ⟨hy, hdd⟩)
          clear hy hdd hhere hin
          go_wp2_with (first
            | (go_at_call 133; refine (HD.out _).mono ?_; rintro e w' ⟨rfl, rfl⟩))
          refine wp_region_chain [false, false, false, false, false, false, false, false, false, false, true, true, false, false, true] (by kernel_rfl) (by kernel_rfl) ?_
          intro wb hb
          replace hs := hs.grew hb
          clear hb
          have hne : Nonempty (GW wb) := ⟨⟨wb, Grew.refl _⟩⟩
          have hc1 := (hrway _).gall hs
          have hc2 := (hrw _).gall hs
          simp only [pickOps]
          repeat (go_big_quiet_step (fail))
          refine wpQuiet_nil ?_
          clear hne hc1 hc2
          intro u hu
          replace hs := hs.grew hu
          clear hu
          simp only [chainIx]
          refine wpChain_next rfl ?_
          refine wpl_build1 (v := .int .i64 (d : Nat)) elem24 (by decide) rfl rfl (St.start u) ?_
          intro g2 w2 hm2
          refine wpList_nil ⟨rfl, hm2.made_grew, ?_⟩
          intro u2 hu2
          replace hs := (hs.made hm2).grew hu2
          clear hm2 hu2
          refine wpChain_next rfl ?_
          go_wp2_with (first | (go_at_call 298; refine (without_1 hxl HY hs).mono ?_; rintro e w' ⟨rfl, rfl⟩))
          refine ⟨Grew.refl _, ?_⟩
          intro u3 hu3
          replace hs := hs.drop.grew hu3
          clear hu3
          refine wpChain_last rfl ?_
          refine wpl_store rfl rfl rfl size_word hs (hww _) ?_
          clear hs hww hrw hrway
          intro w hs
          refine wpList_nil ⟨rfl, ?_⟩
          obtain ⟨ks', G', hr2, hin2, hhere2, hw2⟩ := HR.out.next him hm3 HYD.out.1
          rw [← HYD.out.2] at hw2
          have HR2 := Lib.hid hr2
          have hrway := (Rd.blk (w0 := w0) (g := gA) (t := 408) (L := L) (wayC_get gw hm4)).tail (p := tbl ks G (upd W (m, plc i m) y) S.length)
          have hc1 := hrway _ hs
          have hrw2 := fun L => Rd.tbl_word (w0 := w0) (L := L) (W := upd W (m, plc i m) y) (n := S.length) hin2 hhere2
          rw [upd_same] at hrw2
          have hrway2 := (Rd.blk (w0 := w0) (g := gA) (t := 408) (L := L) (wayC_get gw hm4)).tail (p := tbl ks' G' (upd W (m, plc i m) y) S.length)
          clear hin2 hhere2 hr2
          by_cases hy0 : y = 0
          · have HG2 : Hid (Gone S i (m + 1)) := gone_next (by rw [← HYD.out.1]; exact hy0)
            clear HYD HY
            subst hy0
            go_wp2_with (first
              | (refine wpl_store rfl rfl rfl size_kid hs (hw2 _ _ _) ?_; clear hs hc1; intro w hs; have hc1 := hrway2 _ hs; have hc2 := hrw2 _ _ hs))
            go_roundw
            case rel =>
              (repeat apply Exists.intro)
              refine ⟨?_, rfl⟩
              exact ⟨m + 1, ks', G', _, by omega, HR2, HG2, by go_num, hs⟩
            case measure => simp [intOf] <;> omega
          · have HFit := Lib.hid (HR2.out.done HS.out.1 HS.out.2 HG.out (by rw [← HYD.out.1]; exact hy0))
            clear HYD HY
            have hk3 : (3, 0) ∈ ks' := (HFit.out.mem _).2 (by rw [HFit.out.top]; exact Option.some_ne_none T)
            have hrn := fun L => Rd.tbl_n (w0 := w0) (L := L) (W := (upd W (m, plc i m) y)) (n := S.length) hk3 HFit.out.top
            have hwn := fun L => Wr.tbl_n (w0 := w0) (L := L) (W := (upd W (m, plc i m) y)) (n := S.length) HFit.out.nodup hk3 HFit.out.top (fun j hj => (HFit.out.lev j hj).2) (delS i S).length
            have hln := len_delS (sorted_nodup HS.out.1) him
            have hln2 := sorted_len (N := 16777216) (a := 0) HS.out.1 fun a ha => ⟨Nat.zero_le _, HS.out.2 a ha⟩
            have hln3 : (0 : Int) ≤ (S.length : Int) - 1 := by omega
            have hln4 : (S.length : Int) ≤ 16777216 := by omega
            rw [show ((delS i S).length : Int) = (S.length : Int) - 1 by omega] at hwn
            clear hln hln2 hk3
            go_wp2_with (first
              | (refine wpl_store rfl rfl rfl size_kid hs (hw2 _ _ _) ?_; clear hs hc1; intro w hs; have hc1 := hrway2 _ hs; have hc2 := hrw2 _ _ hs; have hc3 := hrn _ _ hs)
              | (refine wpl_store rfl rfl rfl size_int hs (hwn _) ?_; clear hs hc1 hc2 hc3; intro w hs))
            go_ret2
            exact ⟨rfl, (hs.hshut HFit.out).rot.drop⟩
        · obtain rfl : m = 4 := by omega
          obtain ⟨_, hfit⟩ := HR.out.empty HS.out.2 hi HG.out
          have HFit := Lib.hid hfit
          clear hfit HR HG
          have hk3 : (3, 0) ∈ ks := (HFit.out.mem _).2 (by rw [HFit.out.top]; exact Option.some_ne_none T)
          have hrn := fun L => Rd.tbl_n (w0 := w0) (L := L) (W := W) (n := S.length) hk3 HFit.out.top
          have hwn := fun L => Wr.tbl_n (w0 := w0) (L := L) (W := W) (n := S.length) HFit.out.nodup hk3 HFit.out.top (fun j hj => (HFit.out.lev j hj).2) (delS i S).length
          have hln := len_delS (sorted_nodup HS.out.1) him
          have hln2 := sorted_len (N := 16777216) (a := 0) HS.out.1 fun a ha => ⟨Nat.zero_le _, HS.out.2 a ha⟩
          have hln3 : (0 : Int) ≤ (S.length : Int) - 1 := by omega
          have hln4 : (S.length : Int) ≤ 16777216 := by omega
          rw [show ((delS i S).length : Int) = (S.length : Int) - 1 by omega] at hwn
          clear hln hln2 hk3
          have hc3 := hrn _ _ hs
          go_wp2_with (first
            | (refine wpl_store rfl rfl rfl size_int hs (hwn _) ?_; clear hs hc3; intro w hs))
          go_ret2
          exact ⟨rfl, (hs.hshut HFit.out).rot.drop⟩
    | succ m =>
      have hm3 : m + 1 ≤ 3 := hm
      have hd := dig_lt i (m + 1)
      have HD := Lib.hid fun w => digit_c i (m + 1) (by omega) hm3 w
      obtain ⟨d, hdd⟩ : ∃ d, d = dig i (m + 1) := ⟨_, rfl⟩
      have hgm := HW.out (m + 1) hm3
      have hgk := HW.out m (by omega)
      have hk := (HF.out.mem _).2 (by rw [hgm]; exact Option.some_ne_none _)
      have hrk := Rd.tbl_kid (w0 := w0) (L := blk gA (wayC gw (m + 1)) 408 :: L) (W := W) (n := S.length) hk hgm hd
      have e : ptrV (G (m, plc i m)) = .pointer (some ⟨gw m, 0, none⟩) := by rw [hgk]; rfl
      rw [kid_next, e] at hrk
      rw [← hdd] at hd HD hrk
      have hw0 := fun L => Wr.blk (w0 := w0) (g := gA) (cs := wayC gw (m + 1 + 1)) (t := 408) (v := .pointer (some ⟨gw (m + 1), 0, none⟩)) (L := L) (k := m + 1) (by rw [wayC_size]; omega)
      rw [wayC_set gw] at hw0
      have hw1 := fun L => (hw0 L).tail (p := tbl ks G W S.length)
      clear hw0 hgm hgk hk e hdd
      go_wp2_with (first | (refine wpl_store rfl rfl rfl size_kid hs (hw1 _) ?_; clear hs hw1; intro w hs))
      refine wp_region_grow (by kernel_rfl) (by kernel_rfl) fun hne => ?_
      have hc := hrk.gall hs
      repeat (go_big_quiet_step ((first
        | (go_at_call 133; exact in_gsame (HD.out _)))))
      refine wpQuiet_nil ?_
      clear hne hc
      intro u hu
      replace hs := hs.grew hu
      clear hu
      go_wp2
      go_roundw
      case rel => exact ⟨m, by omega, by go_num, rfl, hs⟩
      case measure => simp [intOf] <;> omega
/-- What Remove answers, and what it leaves. -/
def remS (S : List Nat) (i : Int) : List Nat := if okN i then delS i.toNat S else S
theorem remove_h {w0 w : World} {L : List As} {T : Nat} {S : List Nat} (hs : St w0 (HSet T S :: L) w) (i : Int) :
    Calls Tryz.prog 246 #[.pointer (some ⟨T, 0, none⟩), .int .i64 i] w fun e w' => e = .returned (.tuple #[.bool (memS S i), .int .i64 (errN i)]) ∧ St w0 (HSet T (remS S i) :: L) w' := by
  obtain ⟨hS, hS2⟩ := hs.sorted
  by_cases hi : 0 ≤ i ∧ i < 16777216
  · obtain ⟨j, rfl⟩ := Int.eq_ofNat_of_zero_le hi.1
    have hj : j < 16777216 := by omega
    have ok : okN (j : Int) = true := decide_eq_true hi
    have e1 : errN (j : Int) = 0 := by unfold errN; rw [ok]; rfl
    have e2 : remS S (j : Int) = delS j S := by unfold remS; rw [ok]; simp
    rw [e1, e2]
    by_cases hm : j ∈ S
    · have HM : memS S (j : Int) = true := memS_nat.2 hm
      rw [HM]
      exact remove_in hs j hj hm
    · have HM : Hid (memS S (j : Int) = false) := by rw [Hid, ← Bool.not_eq_true, memS_nat]; exact hm
      have HOK : Hid (decide ((0 : Int) ≤ (j : Int) ∧ (j : Int) < 16777216) = true) := ok
      rw [del_id hm, HM.out]
      clear hS hS2 hi ok e1 e2 hm
      go_enter Tryz.func246, Tryz.ntmps246
      go_wp2_with (first
        | (go_at_call 130; refine (ok_c _ _).mono ?_; rw [HOK.out]; rintro e w' ⟨rfl, rfl⟩)
        | (go_at_call 69; refine (has_s hs HM).mono ?_; clear hs; rintro e w ⟨rfl, hs⟩))
      go_ret2
      exact ⟨rfl, hs⟩
  · have ok : okN i = false := decide_eq_false hi
    have e1 : errN i = 1 := by unfold errN; rw [ok]; rfl
    have e2 : remS S i = S := by unfold remS; rw [ok]; rfl
    have HM : memS S i = false := memS_out hS2 hi
    rw [e1, e2, HM]
    have HOK : Hid (decide (0 ≤ i ∧ i < 16777216) = false) := ok
    clear hS hS2 hi ok e1 e2 HM
    go_enter Tryz.func246, Tryz.ntmps246
    go_wp2_with (first
      | (go_at_call 130; refine (ok_c _ _).mono ?_; rw [HOK.out]; rintro e w' ⟨rfl, rfl⟩))
    go_ret2
    exact ⟨rfl, hs⟩
end Go.Proofs.YtcnbmfaicbkhcaaGreatDoor

/-
  Rows of numbers as cells. No program stands here.
-/
namespace Go.Proofs.YtcnbmfaicbkhcaaGreatDoor
open Go Go.RowKit
def intv (l : List Nat) : List Value := l.map fun i : Nat => Value.int .i64 (i : Int)
theorem intv_get {l : List Nat} {k v : Nat} (h : l[k]? = some v) : (intv l)[k]? = some (.int .i64 (v : Int)) := by simp [intv, h]
end Go.Proofs.YtcnbmfaicbkhcaaGreatDoor
