/-
  The statements of values at their places: SparsePlays, the loop.
-/
import Derived.Test.YtdcihfofdjckjaaSpPlays
import Derived.Test.YtdcihfofdjckjaaSpLaw3
set_option maxRecDepth 100000
namespace Go.Proofs.Ytdcihfofdjckjaa
open Go Go.RowKit
attribute [local irreducible] wpList Calls Code.wp

def roomR (m : Int) : Nat := if m < 0 then 0 else up 1 m.toNat
theorem up_gt (i : Nat) : ∀ (f n : Nat), i + 1 - n ≤ f → 0 < n → n ≤ up n i
  | 0, n, hf, _ => by rw [up_stop (by omega)]; exact Nat.le_refl _
  | f + 1, n, hf, h0 => by
    by_cases h : n ≤ i
    · rw [up_step h0 h]
      have := up_gt i f (n * 2) (by omega) (by omega)
      omega
    · rw [up_stop h]; exact Nat.le_refl _
theorem room5_c (m : Int) (hm : m < 65536) (w : World) : Calls Try.prog 15 #[.int .i64 m] w fun e w' => e = .returned (.int .i64 (roomR m : Nat)) ∧ w = w' := by
  by_cases h0 : m < 0
  · have HR : Hid (roomR m = 0) := by rw [Hid, roomR, if_pos h0]
    go_enter Try.func15, Try.ntmps15
    go_wp2
    go_ret
    exact ⟨by rw [HR.out]; rfl, rfl⟩
  · obtain ⟨i, rfl⟩ := Int.eq_ofNat_of_zero_le (show 0 ≤ m by omega)
    obtain ⟨N, HN⟩ : ∃ N, Hid (up 1 i = N) := ⟨_, rfl⟩
    have HR : Hid (roomR (i : Int) = N) := by rw [Hid, roomR, if_neg h0, Int.toNat_natCast]; exact HN.out
    go_enter Try.func15, Try.ntmps15
    go_wp2
    go_loop [3] (fun v => ∃ k : Nat, v = .int .i64 (k : Nat) ∧ Hid (up k i = N) ∧ 1 ≤ k ∧ k ≤ 131072) (fun v => i + 1 - (intOf v).toNat)
    case atStart => exact ⟨1, rfl, HN, by omega, by omega⟩
    case round =>
      obtain ⟨k, rfl, HK, h1, h2⟩ := hrel
      by_cases hle : k ≤ i
      · have HK2 : Hid (up (k * 2) i = N) := by rw [Hid, ← HK.out]; exact (up_step h1 hle).symm
        clear HK HN HR
        go_wp2
        go_round
        case rel => exact ⟨k * 2, by rw [show ((k * 2 : Nat) : Int) = 2 * (k : Int) by omega], HK2, by omega, by omega⟩
        case measure => simp [intOf] <;> omega
      · obtain rfl : k = N := by rw [← HK.out]; exact (up_stop hle).symm
        clear HK HN
        go_wp2
        go_ret
        exact ⟨by rw [HR.out]; rfl, rfl⟩
theorem room5_v {m : Int} (hm : m < 65536) {n : Nat} (h : Hid (roomR m = n)) (w : World) : Calls Try.prog 15 #[.int .i64 m] w fun e w' => e = .returned (.int .i64 (n : Nat)) ∧ w = w' := by
  rw [← h.out]; exact room5_c m hm w
/-- Where the play stands: the greatest index that was put. -/
def PlayI (S : List Nat) (vs : List V3) (rs : List Row) (m : Int) : Prop := Agree S vs rs ∧ ((m = -1 ∧ vs.length = 0) ∨ ∃ q : Nat, m = q ∧ q < 65536 ∧ RoomP q vs.length)
theorem PlayI.room {S : List Nat} {vs : List V3} {rs : List Row} {m : Int} (h : PlayI S vs rs m) : roomR m = vs.length ∧ m < 65536 ∧ -1 ≤ m := by
  rcases h.2 with ⟨rfl, h0⟩ | ⟨q, rfl, hq, hr⟩
  · exact ⟨by rw [roomR, if_pos (by decide), h0], by decide, by decide⟩
  · refine ⟨?_, by omega, by omega⟩
    have h1 := roomP_put (m := 0) spOk_nil rfl (.inl ⟨rfl, rfl⟩) hq
    rw [Nat.zero_max] at h1
    rw [roomR, if_neg (by omega), Int.toNat_natCast]
    exact roomP_unique h1 hr
def mostI (o : OpR) (m : Int) : Int := if o.k = 0 ∧ okI o.i = true then max m o.i else m
theorem tV_len (S : List Nat) (vs : List V3) (i : Int) : (tV S vs i).length = vs.length := by unfold tV; split <;> simp
theorem PlayI.step {S : List Nat} {vs : List V3} {rs rs' : List Row} {m : Int} (h : PlayI S vs rs m) (o : OpR) (h' : Agree (stS o S) (stV o S vs) rs') : PlayI (stS o S) (stV o S vs) rs' (mostI o m) := by
  refine ⟨h', ?_⟩
  unfold mostI stV
  by_cases h0 : o.k = 0
  · rw [if_pos h0]
    cases hi : okI o.i with
    | true =>
      rw [if_pos ⟨h0, rfl⟩]
      have hi2 : 0 ≤ o.i ∧ o.i < 65536 := of_decide_eq_true hi
      obtain ⟨q, hq⟩ := Int.eq_ofNat_of_zero_le hi2.1
      rw [hq]
      have hl := pV_len h.1.ok (show q < 65536 by omega) o.v
      rw [hl]
      right
      rcases h.2 with ⟨rfl, h1⟩ | ⟨p, rfl, hp, hr⟩
      · have := roomP_put (m := 0) h.1.ok rfl (.inl ⟨h1, rfl⟩) (show q < 65536 by omega)
        rw [Nat.zero_max] at this
        exact ⟨q, by omega, by omega, this⟩
      · exact ⟨max p q, by omega, by omega, roomP_put h.1.ok rfl (.inr hr) (by omega)⟩
    | false =>
      rw [if_neg (by simp)]
      have e : pV vs o.i o.v = vs := by unfold pV; rw [hi]; rfl
      rw [e]
      exact h.2
  · rw [if_neg h0, if_neg (fun h => h0 h.1)]
    split
    · rw [tV_len]; exact h.2
    · exact h.2
theorem agg5 : aggB Try.prog 44 = true := by kernel_rfl
theorem size5 (o : OpR) : (Try.prog.info? 44).map (·.size) = some (c5 o).length := by kernel_rfl
theorem build_tb (w : World) : (Instr.build 41 #[]).run Try.prog w = .ok (.agg (tbC none 0 0)) w := by kernel_rfl
theorem do_v {w0 w : World} {L : List As} {D T E : Nat} {S : List Nat} {vs : List V3} {rs : List Row} (hs : St w0 (SpB D T S vs :: TbB E rs :: L) w) (HA : Hid (Agree S vs rs)) (o : OpR) {S' : List Nat} {vs' : List V3} (hS : Hid (stS o S = S')) (hV : Hid (stV o S vs = vs')) :
    Calls Try.prog 13 #[.pointer (some ⟨D, 0, none⟩), .pointer (some ⟨E, 0, none⟩), op5 o] w (DoPost w0 L D T E S' vs') := by
  rw [← hS.out, ← hV.out]; exact do_c hs HA.out o
attribute [local irreducible] okI okN pS pV tS tV getV memS roomV
set_option maxHeartbeats 4000000 in
theorem sparsePlays_c {w0 : World} {va : Value} {xs : List OpR} (hva : RowsArg c5 (fun _ => True) w0 va xs) : Calls Try.prog 4 #[va] w0 (LawPost8 w0) := by
  obtain ⟨A, ca, rfl, hnc, hcm, hra, _⟩ := hva
  unfold maxLen at hcm
  have hs := St.start w0
  go_enter Try.func4, Try.ntmps4
  go_wp2_with (first
    | (go_at_call 7; refine (sp_new hs).mono ?_; clear hs; rintro e w ⟨D, T, rfl, hs⟩)
    | (go_at_call 12; refine (awake8 _).mono ?_; rintro e w' ⟨rfl, hg⟩; replace hs := hs.grew hg; clear hg)
    | (refine wpl_box_v (v := .agg (tbC none 0 0)) rfl hs ?_; clear hs; intro E w hs))
  replace hs : St w0 [SpB D T [] [], TbB E []] w := (((hs.own_nil 67 4).ent (Ent.swap _ _ _)).tbshut (by decide)).rot
  go_loopw [5, 6] (fun mv cv wr => ∃ (k : Nat) (m : Int) (S : List Nat) (vs : List V3) (rs : List Row), k ≤ xs.length ∧ mv = .int .i64 m ∧ cv = .int .i64 (k : Nat) ∧ PlayI S vs rs m ∧ St w0 [SpB D T S vs, TbB E rs] wr) (fun _ cv _ => xs.length - (intOf cv).toNat)
  case atStart => exact ⟨0, -1, [], [], [], Nat.zero_le _, rfl, rfl, ⟨agree_nil, .inl ⟨rfl, rfl⟩⟩, hs⟩
  case round =>
    clear hs
    obtain ⟨k, m, S, vs, rs, hk, rfl, rfl, HP, hs⟩ := hrel
    by_cases hlt : k < xs.length ∧ k < 100
    · obtain ⟨h1, h2⟩ := hlt
      obtain ⟨o, ho⟩ : ∃ o, xs[k]? = some o := ⟨_, List.getElem?_eq_getElem h1⟩
      have hcell := fun j x hx => hra.get (rows_get (C := 5) (encX := c5) (fun _ => rfl) ho j x hx)
      obtain ⟨b, off, rfl, _⟩ := hcell 0 _ rfl
      have hld : ∀ j x, (c5 o)[j]? = some x → Rd w0 [] ⟨b, off + k * 5 + j, none⟩ x := fun j x hx => by
        obtain ⟨b', o', he, hr⟩ := hcell j x hx
        injection he with he
        injection he with e1 e2
        subst e1; subst e2
        rw [Nat.add_assoc]; exact hr
      clear hcell ho
      obtain ⟨S', HS'⟩ : ∃ v, Hid (stS o S = v) := ⟨_, rfl⟩
      obtain ⟨vs', HV'⟩ : ∃ v, Hid (stV o S vs = v) := ⟨_, rfl⟩
      have HAA := Lib.hid HP.1
      have HPP := Lib.hid HP
      obtain ⟨_, hm1, hm2⟩ := HP.room
      clear HP
      go_upto_region 11 with (first
        | (refine wpl_load_agg (cs := c5 o) (b := b) (o := off + k * 5) rfl agg5 (size5 o) hs ?hh ?_; case hh => exact fun j x hx => (hld j x hx).tail.tail)
        | (go_at_call 13; refine (do_v hs HAA o HS' HV').mono ?_; clear hs; rintro e w ⟨rs', HA', rfl, hs⟩; replace HA' := Lib.hid HA'))
      have f0 := (hld 0 _ rfl).tail.tail _ hs
      have f1 := (hld 1 _ rfl).tail.tail _ hs
      rw [Nat.add_zero] at f0
      have HP2 := HPP.out.step o (by rw [HS'.out, HV'.out]; exact HA'.out)
      rw [HS'.out, HV'.out] at HP2
      clear hld HAA HPP HA' HS' HV' hm1 hm2
      unfold mostI at HP2
      by_cases h0 : o.k = 0
      · have d0 : (o.k == 0) = true := by simpa using h0
        cases hi : okI o.i with
        | true =>
          have HI := Lib.hid hi
          rw [if_pos ⟨h0, hi⟩] at HP2
          obtain ⟨hr1, hr2, hr3⟩ := HP2.room
          obtain ⟨N, HN⟩ : ∃ N, Hid (vs'.length = N) := ⟨_, rfl⟩
          have HR : Hid (roomR (max m o.i) = N) := by rw [Hid, hr1]; exact HN.out
          clear h0 hi hr1
          go_wp2_with (first
            | (go_at_call 14; refine (index_v HI _).mono ?_; rintro e w' ⟨rfl, rfl⟩)
            | (go_at_call 11; refine (sp_room_v hs HN).mono ?_; rintro e w' ⟨rfl, rfl⟩)
            | (go_at_call 15; refine (room5_v hr2 HR _).mono ?_; rintro e w' ⟨rfl, rfl⟩))
          go_roundw
          case rel => exact ⟨k + 1, (max m o.i), S', vs', rs', by omega, rfl, by go_num, HP2, hs⟩
          case measure => simp [intOf] <;> omega
        | false =>
          have HI := Lib.hid hi
          rw [if_neg (fun h => by rw [hi] at h; exact absurd h.2 (by decide))] at HP2
          obtain ⟨hr1, hr2, hr3⟩ := HP2.room
          obtain ⟨N, HN⟩ : ∃ N, Hid (vs'.length = N) := ⟨_, rfl⟩
          have HR : Hid (roomR m = N) := by rw [Hid, hr1]; exact HN.out
          clear h0 hi hr1
          go_wp2_with (first
            | (go_at_call 14; refine (index_v HI _).mono ?_; rintro e w' ⟨rfl, rfl⟩)
            | (go_at_call 11; refine (sp_room_v hs HN).mono ?_; rintro e w' ⟨rfl, rfl⟩)
            | (go_at_call 15; refine (room5_v hr2 HR _).mono ?_; rintro e w' ⟨rfl, rfl⟩))
          go_roundw
          case rel => exact ⟨k + 1, m, S', vs', rs', by omega, rfl, by go_num, HP2, hs⟩
          case measure => simp [intOf] <;> omega
      · have d0 : (o.k == 0) = false := by simpa using h0
        have hi : True := trivial
        rw [if_neg (fun h => h0 h.1)] at HP2
        obtain ⟨hr1, hr2, hr3⟩ := HP2.room
        obtain ⟨N, HN⟩ : ∃ N, Hid (vs'.length = N) := ⟨_, rfl⟩
        have HR : Hid (roomR m = N) := by rw [Hid, hr1]; exact HN.out
        clear h0 hi hr1
        go_wp2_with (first
          | (go_at_call 14; refine (index_v HI _).mono ?_; rintro e w' ⟨rfl, rfl⟩)
          | (go_at_call 11; refine (sp_room_v hs HN).mono ?_; rintro e w' ⟨rfl, rfl⟩)
          | (go_at_call 15; refine (room5_v hr2 HR _).mono ?_; rintro e w' ⟨rfl, rfl⟩))
        go_roundw
        case rel => exact ⟨k + 1, m, S', vs', rs', by omega, rfl, by go_num, HP2, hs⟩
        case measure => simp [intOf] <;> omega
    · by_cases h3 : k < xs.length
      · have h4 : ¬ k < 100 := fun h => hlt ⟨h3, h⟩
        clear hlt HP
        go_wp2
        go_ret
        exact ⟨rfl, hs.nothing⟩
      · clear hlt HP
        go_wp2
        go_ret
        exact ⟨rfl, hs.nothing⟩

theorem list3 {α : Type} {l : List α} (h : l.length = 3) : ∃ a b c, l = [a, b, c] := by
  match l, h with
  | [a, b, c], _ => exact ⟨a, b, c, rfl⟩
theorem list5 {α : Type} {l : List α} (h : l.length = 5) : ∃ a b c d e, l = [a, b, c, d, e] := by
  match l, h with
  | [a, b, c, d, e], _ => exact ⟨a, b, c, d, e, rfl⟩
theorem good3 {H : Type} {enc : TypeId × Value → H} {w : World} {n : Nat} {cs : List Value} {y : DataW H × List MemPlace} (h : DataW.trod enc Try.prog w 0 (fun _ => true) true n 26 cs = some y) : ∃ v : V3, cs = c3 v := by
  obtain ⟨y0, y1, y2, m, _, hl, h0, h1, h2⟩ := Deep.trod_struct3 Try.underlying26 h
  obtain ⟨a, b, c, rfl⟩ := list3 (hl.trans (by kernel_rfl))
  obtain ⟨n0, e0, _⟩ := DataW.trod_int Try.underlying3 h0
  obtain ⟨n1, e1, _⟩ := DataW.trod_int Try.underlying2 h1
  obtain ⟨n2, e2, _⟩ := DataW.trod_int Try.underlying2 h2
  rw [show Try.prog.cellsOf 3 = 1 by kernel_rfl] at e0
  rw [show Try.prog.cellsOf 2 = 1 by kernel_rfl] at e1 e2
  simp at e0 e1 e2
  subst e0; subst e1; subst e2
  exact ⟨⟨n0, n1, n2⟩, rfl⟩
theorem good5 {H : Type} {enc : TypeId × Value → H} {w : World} (n : Nat) (cs : List Value) (y : DataW H × List MemPlace) (h : DataW.trod enc Try.prog w 0 (fun _ => true) true n 44 cs = some y) : ∃ x, cs = c5 x ∧ True := by
  obtain ⟨y0, y1, y2, m, _, hl, h0, h1, h2⟩ := Deep.trod_struct3 Try.underlying44 h
  obtain ⟨a, b, c, d, e, rfl⟩ := list5 (hl.trans (by kernel_rfl))
  obtain ⟨n0, e0, _⟩ := DataW.trod_int Try.underlying3 h0
  obtain ⟨n1, e1, _⟩ := DataW.trod_int Try.underlying3 h1
  obtain ⟨v, e2⟩ := good3 h2
  rw [show Try.prog.cellsOf 3 = 1 by kernel_rfl] at e0 e1
  rw [show Try.prog.cellsOf 26 = 3 by kernel_rfl] at e2
  simp at e0 e1
  simp [c3] at e2
  subst e0; subst e1
  obtain ⟨rfl, rfl, rfl⟩ := e2
  exact ⟨⟨n0, n1, v⟩, rfl, trivial⟩
end Go.Proofs.Ytdcihfofdjckjaa
