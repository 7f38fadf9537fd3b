/-
  ExprMakes: the walk.
-/
import Derived.Test.YtkcbjkadalebjaaExLo
set_option maxRecDepth 100000
namespace Go.Proofs.Ytkcbjkadalebjaa
open Go Go.RowKit
attribute [local irreducible] wpList Calls Code.wp

/-- A node that stands in memory. -/
structure QW (w : World) (r : NRow) : Prop where
  kids : KidsR w r.B r.x.kids
  few : r.x.kids.length ≤ 80
  nil : r.B = none → r.x.kids.length = 0 ∧ r.bc = 0
theorem QW.grew {w w' : World} {r : NRow} (h : QW w r) (hg : Grew w w') : QW w' r := ⟨h.kids.grew hg, h.few, h.nil⟩
theorem encN_len (r : NRow) : (encN r).length = 2 := rfl
theorem nd_own {w0 w : World} {A : Option Addr} {n c : Nat} {ws : List NRow} {L : List As} (hs : St w0 (own A n c 38 2 (ws.flatMap encN) :: L) w) (hn : ws.length = n) (hq : ∀ r ∈ ws, QW w r) : NdV w A (ws.map NRow.x) := ⟨fun i x hx => by
  rw [List.getElem?_map] at hx
  cases hr : ws[i]? with
  | none => rw [hr] at hx; cases hx
  | some r =>
    rw [hr] at hx
    have hx : r.x = x := by simpa using hx
    subst hx
    have hpos : 0 < n := by rw [← hn]; have := (List.getElem?_eq_some_iff.1 hr).1; omega
    obtain ⟨g, rfl⟩ := hs.own_at hpos
    have q := hq r (List.mem_of_getElem? hr)
    refine ⟨g, 0, r.B, r.bc, rfl, ?_, ?_, q.kids, by have := q.few; omega, q.nil⟩
    · rw [Nat.zero_add]; exact Rd.own (flat_get encN_len hr 0 _ rfl) _ hs
    · rw [Nat.zero_add]; exact Rd.own (flat_get encN_len hr 1 _ rfl) _ hs⟩
/-- Where a node's kids lie: in what came, or in a block that is kept. -/
structure QO (w0 : World) (kept : List (Nat × Int)) (r : NRow) : Prop where
  from_ : KidsR w0 r.B r.x.kids ∨ ∃ e ∈ kept, r.B = some ⟨e.1, 0, none⟩ ∧ r.x.kids = [e.2]
  few : r.x.kids.length ≤ 80
  nil : r.B = none → r.x.kids.length = 0 ∧ r.bc = 0
theorem QO.more {w0 : World} {kept : List (Nat × Int)} {r : NRow} (e : Nat × Int) (h : QO w0 kept r) : QO w0 (kept ++ [e]) r :=
  ⟨h.from_.imp id fun ⟨x, hx, h2⟩ => ⟨x, List.mem_append_left _ hx, h2⟩, h.few, h.nil⟩
def kpA (e : Nat × Int) : As := Ytkcbjkadalebjaa.blk e.1 #[.int .i64 e.2] 3
theorem QO.qw {w0 w : World} {kept : List (Nat × Int)} {r : NRow} {L : List As} (h : QO w0 kept r) (hs : St w0 (kept.map kpA ++ L) w) : QW w r := by
  refine ⟨?_, h.few, h.nil⟩
  rcases h.from_ with h1 | ⟨e, he, hB, hk⟩
  · exact fun j y hy => let ⟨b, o, h2, h3⟩ := h1 j y hy; ⟨b, o, h2, by rw [hs.below.cell (World.block_lt_of_cell? _ _ h3)]; exact h3⟩
  · rw [hB, hk]
    obtain ⟨i, hi⟩ := List.mem_iff_getElem?.1 he
    obtain ⟨M, hp⟩ := Ent.pick (L := L) (M := kept.map kpA) (i := i) (p := kpA e) (by rw [List.getElem?_map, hi]; rfl)
    have h3 := hs.ent hp
    intro j y hy
    have hj : j = 0 := by
      have := (List.getElem?_eq_some_iff.1 hy).1
      simp at this
      exact this
    subst hj
    simp at hy
    subst hy
    exact ⟨e.1, 0, rfl, Rd.blk (by rfl) _ h3⟩
/-- How far the making has come: p nodes. -/
structure MkI (w0 : World) (kept : List (Nat × Int)) (l : List NodeE) (ws : List NRow) (p s : Nat) : Prop where
  len : l.length = p
  wlen : ws.length = p
  same : ws.map NRow.x = l.map toR
  ok : ArOk l s
  quiet : ∀ r ∈ ws, QO w0 kept r
theorem addOk_p {l : List NodeE} {p k : Nat} {kids : List Int} (hl : l.length = p) (hp : p < 1000) (hk : k ≠ 1) : addOk l k kids = (decide (kids.length ≤ 64) && kids.all fun y => !bad p y) := by
  unfold addOk
  rw [hl, decide_eq_true hp, decide_eq_false hk, Bool.true_and, Bool.false_or]
  congr 1
  rw [List.all_eq_not_any_not]
  simp
theorem MkI.op {w : World} {kept : List (Nat × Int)} {l : List NodeE} {ws : List NRow} {p s k : Nat} {r : NRow} (h : MkI w kept l ws p s) (hp : p < 1000) (hk : 2 ≤ k ∧ k ≤ 5) (hrk : r.x.k = (k : Int)) (h5 : k = 5 → r.x.kids.length = 1) (hq : QO w kept r) (ho : addOk l k r.x.kids = true) :
    addV l k r.x.kids = (p : Int) ∧ MkI w kept (addN l k r.x.kids) (ws ++ [r]) (p + 1) s := by
  have hn : addN l k r.x.kids = l ++ [⟨k, r.x.kids.map Int.toNat⟩] := by unfold addN; rw [ho]; rfl
  have hlow : ∀ y ∈ r.x.kids, 0 ≤ y := fun y hy => by
    rw [addOk_p h.len hp (by omega)] at ho
    simp only [Bool.and_eq_true, List.all_eq_true, Bool.not_eq_true'] at ho
    have := ho.2 y hy
    simp [bad] at this
    omega
  refine ⟨by unfold addV; rw [ho, if_pos rfl, h.len], ?_, by rw [List.length_append, h.wlen]; rfl, ?_, h.ok.addop hk h5, fun x hx => ?_⟩
  · rw [hn, List.length_append, h.len]; rfl
  · rw [hn, List.map_append, List.map_append, h.same]
    congr 1
    show [r.x] = [toR ⟨k, r.x.kids.map Int.toNat⟩]
    congr 1
    obtain ⟨⟨kk, kids⟩, B, bc⟩ := r
    unfold toR kI
    simp only at hrk hlow ⊢
    rw [nat_ints hlow, hrk]
  · rcases List.mem_append.1 hx with h1 | h1
    · exact h.quiet x h1
    · rw [List.mem_singleton.1 h1]; exact hq
theorem MkI.no {l : List NodeE} {k : Nat} {kids : List Int} (ho : addOk l k kids = false) : addV l k kids = -1 ∧ addN l k kids = l := by
  unfold addV addN
  rw [ho]
  exact ⟨rfl, rfl⟩
theorem MkI.set {w : World} {kept : List (Nat × Int)} {l : List NodeE} {ws : List NRow} {p s g : Nat} (h : MkI w kept l ws p s) (hp : p < 1000) : MkI w (kept ++ [(g, (s : Int))]) (l ++ [⟨1, [s]⟩]) (ws ++ [⟨⟨1, [(s : Int)]⟩, some ⟨g, 0, none⟩, 1⟩]) (p + 1) (s + 1) := by
  refine ⟨by rw [List.length_append, h.len]; rfl, by rw [List.length_append, h.wlen]; rfl, ?_, h.ok.addset (by rw [h.len]; exact hp), fun x hx => ?_⟩
  · rw [List.map_append, List.map_append, h.same]
    rfl
  · rcases List.mem_append.1 hx with h1 | h1
    · exact (h.quiet x h1).more _
    · rw [List.mem_singleton.1 h1]
      exact ⟨.inr ⟨(g, (s : Int)), by simp, rfl, rfl⟩, by show 1 ≤ 80; decide, fun h => nomatch h⟩
def okK (p : Nat) (kids : List Int) (j : Nat) : Bool := decide (kids.length ≤ 64) && (kids.take j).all fun y => !bad p y
theorem okK_step {p j : Nat} {kids : List Int} {y : Int} (h : kids[j]? = some y) : okK p kids (j + 1) = (okK p kids j && !bad p y) := by
  obtain ⟨hj, rfl⟩ := List.getElem?_eq_some_iff.1 h
  unfold okK
  rw [List.take_succ_eq_append_getElem hj, List.all_append]
  simp [Bool.and_assoc]
theorem okK_all {p : Nat} {kids : List Int} {l : List NodeE} {k : Nat} (hl : l.length = p) (hp : p < 1000) (hk : k ≠ 1) : okK p kids kids.length = addOk l k kids := by
  rw [addOk_p hl hp hk]
  unfold okK
  rw [List.take_length]
attribute [local irreducible] checkV sameNd setS addV addN addOk okK
theorem encN_snoc (ws : List NRow) (r : NRow) : ws.flatMap encN ++ encN r = (ws ++ [r]).flatMap encN := by simp
theorem size_nd2' : (Try.prog.info? 38).map (·.size) = some 2 := by kernel_rfl
theorem size_sl22 : (Try.prog.info? 22).map (·.size) = some 1 := by kernel_rfl
set_option maxHeartbeats 4000000 in
theorem emakes_c {w0 : World} {va : Value} {rs : List NRow} (hva : RowsArg encN (QN w0) w0 va rs) : Calls Try.prog 5 #[va] w0 (LawPost w0) := by
  obtain ⟨A, cap, rfl, hle, hcap, hrow⟩ := rows_ndv hva
  unfold maxLen at hcap
  have HR := Lib.hid hrow
  have hs := St.start w0
  obtain ⟨n, HN⟩ : ∃ n, Hid (rs.length = n) := ⟨_, rfl⟩
  rw [HN.out] at hle ⊢
  clear hrow hva
  by_cases h60 : 60 < n
  · have d : decide (60 < (n : Int)) = true := decide_eq_true (by omega)
    clear h60
    go_enter Try.func5, Try.ntmps5
    go_wp2_with (first
      | (go_at_call 12; refine (exnew_c hs).mono ?_; clear hs; rintro e w' ⟨D, rfl, hs⟩)
      | (go_at_call 11; refine (awake3 _).mono ?_; rintro e w' ⟨rfl, hg⟩; replace hs := hs.grew hg; clear hg))
    go_ret
    exact ⟨rfl, hs.nothing⟩
  · have d : decide (60 < (n : Int)) = false := decide_eq_false (by omega)
    go_enter Try.func5, Try.ntmps5
    go_wp2_with (first
      | (go_at_call 12; refine (exnew_c hs).mono ?_; clear hs; rintro e w' ⟨D, rfl, hs⟩))
    replace hs := (hs.own_nil 38 2).rot
    go_loopw [4, 5, 6] (fun sv tv cv wr => ∃ (i p s : Nat) (B : Option Addr) (c : Nat) (l : List NodeE) (ws : List NRow) (ss : List Value) (kept : List (Nat × Int)), i ≤ n ∧ p ≤ i ∧ sv = .slice B p c ∧ tv = .int .i64 (s : Nat) ∧ cv = .int .i64 (i : Nat) ∧ s ≤ i ∧ ss.length = s ∧ MkI w0 kept l ws p s ∧ St w0 (ExB D l ss :: own B p c 38 2 (ws.flatMap encN) :: kept.map kpA) wr) (fun _ _ cv _ => n - (intOf cv).toNat)
    case atStart => exact ⟨0, 0, 0, none, 0, [], [], [], [], Nat.zero_le _, Nat.le_refl _, rfl, rfl, rfl, Nat.le_refl _, rfl, ⟨rfl, rfl, rfl, ArOk.nil 0, fun r hr => nomatch hr⟩, hs⟩
    case round =>
      clear hs
      obtain ⟨i, p, s, B, c, l, ws, ss, kept, hi, hpi, rfl, rfl, rfl, hsi, hss, hI, hs⟩ := hrel
      by_cases hlt : i < n
      · obtain ⟨r, hr⟩ : ∃ r, rs[i]? = some r := ⟨_, List.getElem?_eq_getElem (by rw [HN.out]; exact hlt)⟩
        obtain ⟨hq, b, o, rfl, x1, x2⟩ := HR.out i r hr
        have hb1 := hq.row.bound
        have hl1 := hq.row.le
        have HK0 := Lib.hid hq.row.kids
        have HNi := Lib.hid hq.row.nil
        obtain ⟨⟨k, kids⟩, X, bx⟩ := r
        simp only at *
        obtain ⟨m, HM⟩ : ∃ m, Hid (kids.length = m) := ⟨_, rfl⟩
        rw [HM.out] at x2 hl1
        unfold maxLen at hb1
        replace x1 := hs.made_grew.cell x1
        replace x2 := hs.made_grew.cell x2
        have HI := Lib.hid hI
        have HSs := Lib.hid hss
        clear hr hq hI hss
        go_upto_region 10 with (fail)
        have hw := (St.start wr).alloc #[.int .i64 k, .slice X m bx] 38
        generalize wr.heap.size = g7 at hw ⊢
        refine wp_gen hw ?_
        clear hw x1 x2
        intro w1 hw
        replace hs := hs.made hw
        clear hw
        have c0 := Rd.blk (v := .int .i64 k) (k := 0) (by rfl) _ hs
        have c1 := Rd.blk (v := .slice X m bx) (k := 1) (by rfl) _ hs
        by_cases h80 : 80 < m
        · have d8 : decide (80 < (m : Int)) = true := decide_eq_true (by omega)
          clear h80
          go_wp2_with (first
            | (go_at_call 11; refine (awake3 _).mono ?_; clear c0 c1; rintro e w' ⟨rfl, hg⟩; replace hs := hs.grew hg; clear hg))
          go_ret
          exact ⟨rfl, hs.nothing⟩
        · have d8 : decide (80 < (m : Int)) = false := decide_eq_false (by omega)
          have hm80 : m ≤ 80 := by omega
          clear h80
          obtain ⟨g0, HG0⟩ : ∃ g, Hid (okK p kids 0 = g) := ⟨_, rfl⟩
          have hg0 : decide ((m : Int) ≤ 64) = g0 := by
            rw [← HG0.out]
            unfold okK
            rw [HM.out, List.take_zero]
            simp
            omega
          go_wp2
          clear hg0
          go_loopw [8, 9] (fun gv cv wi => ∃ (j : Nat) (g : Bool), j ≤ m ∧ gv = .bool g ∧ cv = .int .i64 (j : Nat) ∧ Hid (okK p kids j = g) ∧ w1 = wi) (fun _ cv _ => m - (intOf cv).toNat)
          case atStart => exact ⟨0, g0, Nat.zero_le _, rfl, rfl, HG0, rfl⟩
          case round =>
            obtain ⟨j, g, hj, rfl, rfl, HG, rfl⟩ := hrel
            by_cases hlj : j < m
            · obtain ⟨y, hy⟩ : ∃ y, kids[j]? = some y := ⟨_, List.getElem?_eq_getElem (by rw [HM.out]; exact hlj)⟩
              obtain ⟨b2, o2, rfl, hc⟩ := HK0.out j y hy
              replace hc := hs.made_grew.cell hc
              have HS := Lib.hid (okK_step (p := p) hy)
              rw [HG.out] at HS
              obtain ⟨g', HG'⟩ : ∃ g, Hid (okK p kids (j + 1) = g) := ⟨_, rfl⟩
              rw [HG'.out] at HS
              clear hy
              cases g with
              | false =>
                have hgf : g' = false := by rw [HS.out]; rfl
                subst hgf
                go_wp2
                go_roundw
                case rel => exact ⟨j + 1, false, by omega, rfl, by go_num, HG', by trivial⟩
                case measure => simp [intOf] <;> omega
              | true =>
                have hgv : g' = (decide (0 ≤ y) && decide (y < (p : Int))) := by
                  rw [HS.out]
                  unfold bad
                  rw [Bool.eq_iff_iff]
                  simp
                by_cases y0 : 0 ≤ y
                · have e0 : decide (0 ≤ y) = true := decide_eq_true y0
                  rw [e0, Bool.true_and] at hgv
                  by_cases y1 : y < (p : Int)
                  · have e1 : decide (y < (p : Int)) = true := decide_eq_true y1
                    rw [e1] at hgv
                    subst hgv
                    clear y0 y1
                    go_wp2
                    go_roundw
                    case rel => exact ⟨j + 1, true, by omega, rfl, by go_num, HG', by trivial⟩
                    case measure => simp [intOf] <;> omega
                  · have e1 : decide (y < (p : Int)) = false := decide_eq_false y1
                    rw [e1] at hgv
                    subst hgv
                    clear y0 y1
                    go_wp2
                    go_roundw
                    case rel => exact ⟨j + 1, false, by omega, rfl, by go_num, HG', by trivial⟩
                    case measure => simp [intOf] <;> omega
                · have e0 : decide (0 ≤ y) = false := decide_eq_false y0
                  rw [e0, Bool.false_and] at hgv
                  subst hgv
                  clear y0
                  go_wp2
                  go_roundw
                  case rel => exact ⟨j + 1, false, by omega, rfl, by go_num, HG', by trivial⟩
                  case measure => simp [intOf] <;> omega
            · have hjm : j = m := by omega
              subst hjm
              by_cases k2 : k = 2
              · subst k2
                have HAO := Lib.hid (okK_all (kids := kids) (k := 2) HI.out.len (by omega) (by decide))
                rw [HM.out, HG.out] at HAO
                cases g with
                | true =>
                  obtain ⟨v, hI2⟩ := HI.out.op (k := 2) (r := ⟨⟨2, kids⟩, X, bx⟩) (by omega) (by decide) rfl (fun h => absurd h (by decide)) ⟨.inl HK0.out, by show kids.length ≤ 80; rw [HM.out]; exact hm80, HNi.out⟩ HAO.out.symm
                  have HV := Lib.hid v
                  obtain ⟨l', HN'⟩ : ∃ l', Hid (addN l 2 kids = l') := ⟨_, rfl⟩
                  replace hI2 : MkI w0 kept (addN l 2 kids) (ws ++ [⟨⟨2, kids⟩, X, bx⟩]) (p + 1) s := hI2
                  rw [HN'.out] at hI2
                  have HI2 := Lib.hid hI2
                  replace HV : Hid (addV l 2 kids = (p : Int)) := HV
                  clear v hI2
                  go_wp2_with (first
                    | (go_at_call 16; refine (and_c (kids := kids) hs.rot (fun h => ⟨by have := (HNi.out h).1; rw [HM.out] at this; exact this, (HNi.out h).2⟩) HM (by omega) (RdS.kids HK0.out) HV HN').mono ?_; clear hs c0 c1; rintro e w' ⟨rfl, hs⟩; replace hs := hs.rot; have c0 := Rd.blk (v := .int .i64 2) (k := 0) (by rfl) _ hs; have c1 := Rd.blk (v := .slice X j bx) (k := 1) (by rfl) _ hs)
                        | (refine wpl_build1 (v := .agg #[.int .i64 2, (.slice X j bx)]) elemN (by decide) rfl rfl hs ?_; clear hs c0 c1; intro gb w5 hs; replace hs : St w0 (Ytkcbjkadalebjaa.blk gb #[.int .i64 2, (.slice X j bx)] 38 :: _) w5 := hs)
                        | (refine wpl_append (A := B) (B := some ⟨gb, 0, none⟩) (n := p) (m := 1) (news := [.int .i64 2, (.slice X j bx)]) elemN rfl rfl hs (Ent.skip (Ent.skip (Ent.skip (Ent.refl _)))) RdS.blk rfl (by intro u hu; simp at hu; rcases hu with rfl | rfl <;> rfl) (by unfold maxLen; omega) (by omega) ?_; clear hs; intro B2 c2 w6 hs)
                    )
                  replace hs := hs.rot.drop.rot.drop.rot
                  rw [show ws.flatMap encN ++ [Value.int .i64 2, .slice X j bx] = (ws ++ [(⟨⟨2, kids⟩, X, bx⟩ : NRow)]).flatMap encN by rw [← encN_snoc, ← HM.out]; rfl] at hs
                  go_roundw
                  case rel => exact ⟨i + 1, p + 1, s, B2, c2, l', ws ++ [⟨⟨2, kids⟩, X, bx⟩], ss, kept, by omega, by omega, rfl, rfl, by go_num, by omega, HSs.out, HI2.out, hs⟩
                  case measure => simp [intOf] <;> omega
                | false =>
                  obtain ⟨v, nn⟩ := MkI.no HAO.out.symm
                  have HV := Lib.hid v
                  have HN' := Lib.hid nn
                  clear v nn
                  go_wp2_with (first
                    | (go_at_call 16; refine (and_c (kids := kids) hs.rot (fun h => ⟨by have := (HNi.out h).1; rw [HM.out] at this; exact this, (HNi.out h).2⟩) HM (by omega) (RdS.kids HK0.out) HV HN').mono ?_; clear hs c0 c1; rintro e w' ⟨rfl, hs⟩; replace hs := hs.rot.drop))
                  go_roundw
                  case rel => exact ⟨i + 1, p, s, B, c, l, ws, ss, kept, by omega, by omega, rfl, rfl, by go_num, by omega, HSs.out, HI.out, hs⟩
                  case measure => simp [intOf] <;> omega
              · by_cases k3 : k = 3
                · subst k3
                  have HAO := Lib.hid (okK_all (kids := kids) (k := 3) HI.out.len (by omega) (by decide))
                  rw [HM.out, HG.out] at HAO
                  cases g with
                  | true =>
                    obtain ⟨v, hI2⟩ := HI.out.op (k := 3) (r := ⟨⟨3, kids⟩, X, bx⟩) (by omega) (by decide) rfl (fun h => absurd h (by decide)) ⟨.inl HK0.out, by show kids.length ≤ 80; rw [HM.out]; exact hm80, HNi.out⟩ HAO.out.symm
                    have HV := Lib.hid v
                    obtain ⟨l', HN'⟩ : ∃ l', Hid (addN l 3 kids = l') := ⟨_, rfl⟩
                    replace hI2 : MkI w0 kept (addN l 3 kids) (ws ++ [⟨⟨3, kids⟩, X, bx⟩]) (p + 1) s := hI2
                    rw [HN'.out] at hI2
                    have HI2 := Lib.hid hI2
                    replace HV : Hid (addV l 3 kids = (p : Int)) := HV
                    clear v hI2
                    go_wp2_with (first
                      | (go_at_call 19; refine (or_c (kids := kids) hs.rot (fun h => ⟨by have := (HNi.out h).1; rw [HM.out] at this; exact this, (HNi.out h).2⟩) HM (by omega) (RdS.kids HK0.out) HV HN').mono ?_; clear hs c0 c1; rintro e w' ⟨rfl, hs⟩; replace hs := hs.rot; have c0 := Rd.blk (v := .int .i64 3) (k := 0) (by rfl) _ hs; have c1 := Rd.blk (v := .slice X j bx) (k := 1) (by rfl) _ hs)
                          | (refine wpl_build1 (v := .agg #[.int .i64 3, (.slice X j bx)]) elemN (by decide) rfl rfl hs ?_; clear hs c0 c1; intro gb w5 hs; replace hs : St w0 (Ytkcbjkadalebjaa.blk gb #[.int .i64 3, (.slice X j bx)] 38 :: _) w5 := hs)
                          | (refine wpl_append (A := B) (B := some ⟨gb, 0, none⟩) (n := p) (m := 1) (news := [.int .i64 3, (.slice X j bx)]) elemN rfl rfl hs (Ent.skip (Ent.skip (Ent.skip (Ent.refl _)))) RdS.blk rfl (by intro u hu; simp at hu; rcases hu with rfl | rfl <;> rfl) (by unfold maxLen; omega) (by omega) ?_; clear hs; intro B2 c2 w6 hs)
                      )
                    replace hs := hs.rot.drop.rot.drop.rot
                    rw [show ws.flatMap encN ++ [Value.int .i64 3, .slice X j bx] = (ws ++ [(⟨⟨3, kids⟩, X, bx⟩ : NRow)]).flatMap encN by rw [← encN_snoc, ← HM.out]; rfl] at hs
                    go_roundw
                    case rel => exact ⟨i + 1, p + 1, s, B2, c2, l', ws ++ [⟨⟨3, kids⟩, X, bx⟩], ss, kept, by omega, by omega, rfl, rfl, by go_num, by omega, HSs.out, HI2.out, hs⟩
                    case measure => simp [intOf] <;> omega
                  | false =>
                    obtain ⟨v, nn⟩ := MkI.no HAO.out.symm
                    have HV := Lib.hid v
                    have HN' := Lib.hid nn
                    clear v nn
                    go_wp2_with (first
                      | (go_at_call 19; refine (or_c (kids := kids) hs.rot (fun h => ⟨by have := (HNi.out h).1; rw [HM.out] at this; exact this, (HNi.out h).2⟩) HM (by omega) (RdS.kids HK0.out) HV HN').mono ?_; clear hs c0 c1; rintro e w' ⟨rfl, hs⟩; replace hs := hs.rot.drop))
                    go_roundw
                    case rel => exact ⟨i + 1, p, s, B, c, l, ws, ss, kept, by omega, by omega, rfl, rfl, by go_num, by omega, HSs.out, HI.out, hs⟩
                    case measure => simp [intOf] <;> omega
                · by_cases k4 : k = 4
                  · subst k4
                    have HAO := Lib.hid (okK_all (kids := kids) (k := 4) HI.out.len (by omega) (by decide))
                    rw [HM.out, HG.out] at HAO
                    cases g with
                    | true =>
                      obtain ⟨v, hI2⟩ := HI.out.op (k := 4) (r := ⟨⟨4, kids⟩, X, bx⟩) (by omega) (by decide) rfl (fun h => absurd h (by decide)) ⟨.inl HK0.out, by show kids.length ≤ 80; rw [HM.out]; exact hm80, HNi.out⟩ HAO.out.symm
                      have HV := Lib.hid v
                      obtain ⟨l', HN'⟩ : ∃ l', Hid (addN l 4 kids = l') := ⟨_, rfl⟩
                      replace hI2 : MkI w0 kept (addN l 4 kids) (ws ++ [⟨⟨4, kids⟩, X, bx⟩]) (p + 1) s := hI2
                      rw [HN'.out] at hI2
                      have HI2 := Lib.hid hI2
                      replace HV : Hid (addV l 4 kids = (p : Int)) := HV
                      clear v hI2
                      go_wp2_with (first
                        | (go_at_call 20; refine (xor_c (kids := kids) hs.rot (fun h => ⟨by have := (HNi.out h).1; rw [HM.out] at this; exact this, (HNi.out h).2⟩) HM (by omega) (RdS.kids HK0.out) HV HN').mono ?_; clear hs c0 c1; rintro e w' ⟨rfl, hs⟩; replace hs := hs.rot; have c0 := Rd.blk (v := .int .i64 4) (k := 0) (by rfl) _ hs; have c1 := Rd.blk (v := .slice X j bx) (k := 1) (by rfl) _ hs)
                            | (refine wpl_build1 (v := .agg #[.int .i64 4, (.slice X j bx)]) elemN (by decide) rfl rfl hs ?_; clear hs c0 c1; intro gb w5 hs; replace hs : St w0 (Ytkcbjkadalebjaa.blk gb #[.int .i64 4, (.slice X j bx)] 38 :: _) w5 := hs)
                            | (refine wpl_append (A := B) (B := some ⟨gb, 0, none⟩) (n := p) (m := 1) (news := [.int .i64 4, (.slice X j bx)]) elemN rfl rfl hs (Ent.skip (Ent.skip (Ent.skip (Ent.refl _)))) RdS.blk rfl (by intro u hu; simp at hu; rcases hu with rfl | rfl <;> rfl) (by unfold maxLen; omega) (by omega) ?_; clear hs; intro B2 c2 w6 hs)
                        )
                      replace hs := hs.rot.drop.rot.drop.rot
                      rw [show ws.flatMap encN ++ [Value.int .i64 4, .slice X j bx] = (ws ++ [(⟨⟨4, kids⟩, X, bx⟩ : NRow)]).flatMap encN by rw [← encN_snoc, ← HM.out]; rfl] at hs
                      go_roundw
                      case rel => exact ⟨i + 1, p + 1, s, B2, c2, l', ws ++ [⟨⟨4, kids⟩, X, bx⟩], ss, kept, by omega, by omega, rfl, rfl, by go_num, by omega, HSs.out, HI2.out, hs⟩
                      case measure => simp [intOf] <;> omega
                    | false =>
                      obtain ⟨v, nn⟩ := MkI.no HAO.out.symm
                      have HV := Lib.hid v
                      have HN' := Lib.hid nn
                      clear v nn
                      go_wp2_with (first
                        | (go_at_call 20; refine (xor_c (kids := kids) hs.rot (fun h => ⟨by have := (HNi.out h).1; rw [HM.out] at this; exact this, (HNi.out h).2⟩) HM (by omega) (RdS.kids HK0.out) HV HN').mono ?_; clear hs c0 c1; rintro e w' ⟨rfl, hs⟩; replace hs := hs.rot.drop))
                      go_roundw
                      case rel => exact ⟨i + 1, p, s, B, c, l, ws, ss, kept, by omega, by omega, rfl, rfl, by go_num, by omega, HSs.out, HI.out, hs⟩
                      case measure => simp [intOf] <;> omega
                  · have q2 : (k == 2) = false := by simp; omega
                    have q3 : (k == 3) = false := by simp; omega
                    have q4 : (k == 4) = false := by simp; omega
                    by_cases k5 : k = 5
                    · subst k5
                      clear k2 k3 k4 q2 q3 q4
                      by_cases hj0 : j = 0
                      · subst hj0
                        go_wp2
                        replace hs := hs.drop
                        go_roundw
                        case rel => exact ⟨i + 1, p, s, B, c, l, ws, ss, kept, by omega, by omega, rfl, rfl, by go_num, by omega, HSs.out, HI.out, hs⟩
                        case measure => simp [intOf] <;> omega
                      · have hj1 : 0 < j := by omega
                        have hjn : ((j : Int) == 0) = false := by simp; omega
                        have hbx : 1 ≤ bx := by omega
                        have hbx2 : (1 : Int) ≤ (bx : Int) := by omega
                        obtain ⟨y, hy⟩ : ∃ y, kids[0]? = some y := ⟨_, List.getElem?_eq_getElem (by rw [HM.out]; exact hj1)⟩
                        obtain ⟨b2, o2, rfl, hc⟩ := HK0.out 0 y hy
                        rw [Nat.add_zero] at hc
                        have HC := Lib.hid hc
                        have hK1 : KidsR w0 (some ⟨b2, o2, none⟩) [y] := fun jj z hz => by
                          have hjj : jj = 0 := by
                            have := (List.getElem?_eq_some_iff.1 hz).1
                            simp at this
                            exact this
                          subst hjj
                          simp at hz
                          subst hz
                          exact ⟨b2, o2, rfl, hc⟩
                        have HK1 := Lib.hid hK1
                        replace hc := hs.made_grew.cell hc
                        obtain ⟨g5, HG5⟩ : ∃ g, Hid (addOk l 5 [y] = g) := ⟨_, rfl⟩
                        have hg5 : g5 = (decide (0 ≤ y) && decide (y < (p : Int))) := by
                          rw [← HG5.out, addOk_p HI.out.len (by omega) (by decide)]
                          unfold bad
                          rw [Bool.eq_iff_iff]
                          simp
                        clear hy hj0 hK1
                        cases g5 with
                        | true =>
                          have hyy := hg5.symm
                          simp only [Bool.and_eq_true, decide_eq_true_eq] at hyy
                          have e0 : decide (0 ≤ y) = true := decide_eq_true hyy.1
                          have e1 : decide (y < (p : Int)) = true := decide_eq_true hyy.2
                          obtain ⟨v, hI2⟩ := HI.out.op (k := 5) (r := ⟨⟨5, [y]⟩, some ⟨b2, o2, none⟩, bx⟩) (by omega) (by decide) rfl (fun _ => rfl) ⟨.inl HK1.out, by show 1 ≤ 80; decide, fun h => nomatch h⟩ HG5.out
                          replace v : addV l 5 [y] = (p : Int) := v
                          have HV := Lib.hid v
                          obtain ⟨l', HN'⟩ : ∃ l', Hid (addN l 5 [y] = l') := ⟨_, rfl⟩
                          replace hI2 : MkI w0 kept (addN l 5 [y]) (ws ++ [⟨⟨5, [y]⟩, some ⟨b2, o2, none⟩, bx⟩]) (p + 1) s := hI2
                          rw [HN'.out] at hI2
                          have HI2 := Lib.hid hI2
                          clear v hI2 hyy hg5
                          go_wp2_with (first
                            | (refine wpl_store (v := .slice (some ⟨b2, o2, none⟩) 1 bx) rfl rfl rfl size_sl22 hs (Wr.blk (by simp)) ?_; clear hs c0 c1 hc; intro w5 hs; replace hs : St w0 (Ytkcbjkadalebjaa.blk g7 #[.int .i64 5, .slice (some ⟨b2, o2, none⟩) 1 bx] 38 :: _) w5 := hs; have c0 := Rd.blk (v := .int .i64 5) (k := 0) (by rfl) _ hs; have c1 := Rd.blk (v := .slice (some ⟨b2, o2, none⟩) 1 bx) (k := 1) (by rfl) _ hs; have hc := hs.made_grew.cell HC.out)
                            | (go_at_call 15; refine (not_c hs.rot y HV HN').mono ?_; clear hs c0 c1 hc; rintro e w' ⟨rfl, hs⟩; replace hs := hs.rot; have c0 := Rd.blk (v := .int .i64 5) (k := 0) (by rfl) _ hs; have c1 := Rd.blk (v := .slice (some ⟨b2, o2, none⟩) 1 bx) (k := 1) (by rfl) _ hs)
                                | (refine wpl_build1 (v := .agg #[.int .i64 5, (.slice (some ⟨b2, o2, none⟩) 1 bx)]) elemN (by decide) rfl rfl hs ?_; clear hs c0 c1; intro gb w5 hs; replace hs : St w0 (Ytkcbjkadalebjaa.blk gb #[.int .i64 5, (.slice (some ⟨b2, o2, none⟩) 1 bx)] 38 :: _) w5 := hs)
                                | (refine wpl_append (A := B) (B := some ⟨gb, 0, none⟩) (n := p) (m := 1) (news := [.int .i64 5, (.slice (some ⟨b2, o2, none⟩) 1 bx)]) elemN rfl rfl hs (Ent.skip (Ent.skip (Ent.skip (Ent.refl _)))) RdS.blk rfl (by intro u hu; simp at hu; rcases hu with rfl | rfl <;> rfl) (by unfold maxLen; omega) (by omega) ?_; clear hs; intro B2 c2 w6 hs)
                            )
                          replace hs := hs.rot.drop.rot.drop.rot
                          rw [show ws.flatMap encN ++ [Value.int .i64 5, .slice (some ⟨b2, o2, none⟩) 1 bx] = (ws ++ [(⟨⟨5, [y]⟩, some ⟨b2, o2, none⟩, bx⟩ : NRow)]).flatMap encN by rw [← encN_snoc]; rfl] at hs
                          go_roundw
                          case rel => exact ⟨i + 1, p + 1, s, B2, c2, l', ws ++ [⟨⟨5, [y]⟩, some ⟨b2, o2, none⟩, bx⟩], ss, kept, by omega, by omega, rfl, rfl, by go_num, by omega, HSs.out, HI2.out, hs⟩
                          case measure => simp [intOf] <;> omega
                        | false =>
                          obtain ⟨v, nn⟩ := MkI.no HG5.out
                          have HV := Lib.hid v
                          have HN' := Lib.hid nn
                          clear v nn
                          by_cases y0 : 0 ≤ y
                          · have e0 : decide (0 ≤ y) = true := decide_eq_true y0
                            have e1 : decide (y < (p : Int)) = false := by rw [e0, Bool.true_and] at hg5; exact hg5.symm
                            clear hg5 y0
                            go_wp2_with (first
                              | (refine wpl_store (v := .slice (some ⟨b2, o2, none⟩) 1 bx) rfl rfl rfl size_sl22 hs (Wr.blk (by simp)) ?_; clear hs c0 c1 hc; intro w5 hs; replace hs : St w0 (Ytkcbjkadalebjaa.blk g7 #[.int .i64 5, .slice (some ⟨b2, o2, none⟩) 1 bx] 38 :: _) w5 := hs; have c0 := Rd.blk (v := .int .i64 5) (k := 0) (by rfl) _ hs; have c1 := Rd.blk (v := .slice (some ⟨b2, o2, none⟩) 1 bx) (k := 1) (by rfl) _ hs; have hc := hs.made_grew.cell HC.out)
                              | (go_at_call 15; refine (not_c hs.rot y HV HN').mono ?_; clear hs c0 c1 hc; rintro e w' ⟨rfl, hs⟩; replace hs := hs.rot.drop))
                            go_roundw
                            case rel => exact ⟨i + 1, p, s, B, c, l, ws, ss, kept, by omega, by omega, rfl, rfl, by go_num, by omega, HSs.out, HI.out, hs⟩
                            case measure => simp [intOf] <;> omega
                          · have e0 : decide (0 ≤ y) = false := decide_eq_false y0
                            clear hg5 y0
                            go_wp2_with (first
                              | (refine wpl_store (v := .slice (some ⟨b2, o2, none⟩) 1 bx) rfl rfl rfl size_sl22 hs (Wr.blk (by simp)) ?_; clear hs c0 c1 hc; intro w5 hs; replace hs : St w0 (Ytkcbjkadalebjaa.blk g7 #[.int .i64 5, .slice (some ⟨b2, o2, none⟩) 1 bx] 38 :: _) w5 := hs; have c0 := Rd.blk (v := .int .i64 5) (k := 0) (by rfl) _ hs; have c1 := Rd.blk (v := .slice (some ⟨b2, o2, none⟩) 1 bx) (k := 1) (by rfl) _ hs; have hc := hs.made_grew.cell HC.out)
                              | (go_at_call 15; refine (not_c hs.rot y HV HN').mono ?_; clear hs c0 c1 hc; rintro e w' ⟨rfl, hs⟩; replace hs := hs.rot.drop))
                            go_roundw
                            case rel => exact ⟨i + 1, p, s, B, c, l, ws, ss, kept, by omega, by omega, rfl, rfl, by go_num, by omega, HSs.out, HI.out, hs⟩
                            case measure => simp [intOf] <;> omega
                    · have q5 : (k == 5) = false := by simp; omega
                      obtain ⟨l', HN'⟩ : ∃ l' : List NodeE, Hid (l ++ [(⟨1, [s]⟩ : NodeE)] = l') := ⟨_, rfl⟩
                      have HNl : Hid (l ++ [(⟨1, [ss.length]⟩ : NodeE)] = l') := by rw [Hid, HSs.out]; exact HN'.out
                      have HLp : Hid ((l.length : Int) = (p : Int)) := by rw [Hid, HI.out.len]
                      have hl1000 : l.length < 1000 := by rw [HI.out.len]; omega
                      have hss9 : ss.length ≤ 1000000 := by rw [HSs.out]; omega
                      have HL1 := Lib.hid hl1000
                      have HL9 := Lib.hid hss9
                      clear k2 k3 k4 k5 hl1000 hss9
                      go_wp2_with (first
                        | (refine wpl_build1 (v := .int .i64 (s : Nat)) elem24 (by decide) rfl rfl hs ?_; clear hs c0 c1; intro gk w5 hs; replace hs := hs.rot)
                        | (refine wpl_buildS (build_nodeE _ _ _ _) rfl ?_)
                        | (refine wpl_store_agg (ad := ⟨g7, 0, none⟩) (v := .agg #[.int .i64 1, .slice (some ⟨gk, 0, none⟩) 1 1]) rfl rfl size_nd2' hs (WrA.blk (o := 0) (cs := [.int .i64 k, .slice X j bx]) (vs := [.int .i64 1, .slice (some ⟨gk, 0, none⟩) 1 1]) (by simp) (by intro u hu; simp at hu; rcases hu with rfl | rfl <;> rfl)) ?_; clear hs; intro w6 hs; replace hs : St w0 (Ytkcbjkadalebjaa.blk g7 #[.int .i64 1, .slice (some ⟨gk, 0, none⟩) 1 1] 38 :: _) w6 := hs)
                        | (refine wpl_build1 (v := .int .i64 (i : Nat)) elem24 (by decide) rfl rfl hs ?_; clear hs; intro gi w7 hs)
                        | (go_at_call 13; refine (new_v (n := 1) (zs := [(i : Int)]) (A := some ⟨gi, 0, none⟩) hs RdS.blk (Lib.hid rfl) (by decide) (Lib.hid rfl)).mono ?_; clear hs; rintro e w' ⟨T1, rfl, hs⟩; replace hs := hs.drop.drop.up2)
                        | (go_at_call 14; refine (exset_v (ss' := ss ++ [ptr T1]) hs _ HLp HNl (Lib.hid rfl) HL1.out HL9.out).mono ?_; clear hs; rintro e w' ⟨rfl, hs⟩; replace hs := hs.rot; have c0 := Rd.blk (v := .int .i64 1) (k := 0) (by rfl) _ hs; have c1 := Rd.blk (v := .slice (some ⟨gk, 0, none⟩) 1 1) (k := 1) (by rfl) _ hs)
                        | (refine wpl_build1 (v := .agg #[.int .i64 1, .slice (some ⟨gk, 0, none⟩) 1 1]) elemN (by decide) rfl rfl hs ?_; clear hs c0 c1; intro gb w8 hs; replace hs : St w0 (Ytkcbjkadalebjaa.blk gb #[.int .i64 1, .slice (some ⟨gk, 0, none⟩) 1 1] 38 :: _) w8 := hs)
                        | (refine wpl_append (A := B) (B := some ⟨gb, 0, none⟩) (n := p) (m := 1) (news := [.int .i64 1, .slice (some ⟨gk, 0, none⟩) 1 1]) elemN rfl rfl hs (Ent.skip (Ent.skip (Ent.skip (Ent.skip (Ent.refl _))))) RdS.blk rfl (by intro u hu; simp at hu; rcases hu with rfl | rfl <;> rfl) (by unfold maxLen; omega) (by omega) ?_; clear hs; intro B2 c2 w9 hs))
                      replace hs := hs.rot.drop.rot.drop.rot
                      rw [show ws.flatMap encN ++ [Value.int .i64 1, .slice (some ⟨gk, 0, none⟩) 1 1] = (ws ++ [(⟨⟨1, [(s : Int)]⟩, some ⟨gk, 0, none⟩, 1⟩ : NRow)]).flatMap encN by rw [← encN_snoc]; rfl] at hs
                      have hs2 := (show St w0 (ExB D l' (ss ++ [ptr T1]) :: own B2 (p + 1) c2 38 2 ((ws ++ [(⟨⟨1, [(s : Int)]⟩, some ⟨gk, 0, none⟩, 1⟩ : NRow)]).flatMap encN) :: kpA (gk, (s : Int)) :: (kept.map kpA ++ [])) w9 by rw [List.append_nil]; exact hs).ent (Ent.cons _ (Ent.cons _ (Ent.push (kpA (gk, (s : Int))) (kept.map kpA) [])))
                      have hk2 : kept.map kpA ++ [kpA (gk, (s : Int))] = (kept ++ [(gk, (s : Int))]).map kpA := by rw [List.map_append]; rfl
                      rw [hk2] at hs2
                      have hI2 := HI.out.set (g := gk) (by omega)
                      rw [HN'.out] at hI2
                      go_roundw
                      case rel => exact ⟨i + 1, p + 1, s + 1, B2, c2, l', _, ss ++ [ptr T1], kept ++ [(gk, (s : Int))], by omega, by omega, rfl, by go_num, by go_num, by omega, by rw [List.length_append, HSs.out]; rfl, hI2, hs2⟩
                      case measure => simp [intOf] <;> omega
      · have hin : i = n := by omega
        subst hin
        have HSame : Hid (sameNd (l.map toR) (ws.map NRow.x) = true) := by rw [Hid, hI.same, sameNd_refl]
        have HLl := Lib.hid hI.len
        have HWl := Lib.hid hI.wlen
        have HMl : Hid ((l.map toR).length = p) := by rw [Hid, List.length_map, HLl.out]
        have HWm : Hid ((ws.map NRow.x).length = p) := by rw [Hid, List.length_map, HWl.out]
        have HI := Lib.hid hI
        have hi60 : i ≤ 60 := by omega
        clear hI
        go_wp2_with (first
          | (go_at_call 22; refine (nodes_c hs HI.out.ok HLl).mono ?_; rintro e w' ⟨F, cf, rfl, hl⟩; replace hs := hs.made hl; clear hl)
          | (go_at_call 21; refine (samenodes_c HMl HWm (by omega) (hs.ndview HI.out.ok.kids64) (nd_own hs.up2 HWl.out (fun r hr => (HI.out.quiet r hr).qw (L := []) (by rw [List.append_nil]; exact hs.drop.drop.drop))) HSame).mono ?_; rintro e w' ⟨rfl, hg⟩; replace hs := hs.grew hg; clear hg)
          | (go_at_call 23; refine (exlen_w hs.rot HLl).mono ?_; rintro e w' ⟨rfl, rfl⟩)
          | (go_at_call 11; refine (awake3 _).mono ?_; rintro e w' ⟨rfl, hg⟩; replace hs := hs.grew hg; clear hg))
        go_ret
        exact ⟨rfl, hs.nothing⟩
end Go.Proofs.Ytkcbjkadalebjaa
