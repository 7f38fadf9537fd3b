/-
  ExprBounds: the walk.
-/
import Derived.Test.YtkcbjkadalebjaaEx9
import Derived.Test.YtkcbjkadalebjaaExDe
import Derived.Test.YtkcbjkadalebjaaFlat
set_option maxRecDepth 100000
namespace Go.Proofs.Ytkcbjkadalebjaa
open Go Go.RowKit
attribute [local irreducible] wpList Calls Code.wp

def orN : NodeE := ⟨3, []⟩
def bo (i : Nat) : List NodeE := List.replicate (min i 1000) orN
theorem bo_len (i : Nat) : (bo i).length = min i 1000 := by unfold bo; simp
theorem bo_lo {i : Nat} (h : i < 1000) : addV (bo i) 3 [] = (i : Int) ∧ addN (bo i) 3 [] = bo (i + 1) := by
  have hl := bo_len i
  have ho : addOk (bo i) 3 [] = true := by unfold addOk; rw [decide_eq_true (show (bo i).length < 1000 by omega)]; rfl
  refine ⟨by unfold addV; rw [ho, if_pos rfl, hl]; omega, ?_⟩
  unfold addN
  rw [ho, if_pos rfl]
  unfold bo
  rw [show min (i + 1) 1000 = min i 1000 + 1 by omega, List.replicate_succ']
  rfl
theorem bo_hi {i : Nat} (h : 1000 ≤ i) : addV (bo i) 3 [] = -1 ∧ addN (bo i) 3 [] = bo (i + 1) := by
  have hl := bo_len i
  have ho : addOk (bo i) 3 [] = false := by unfold addOk; rw [decide_eq_false (show ¬ (bo i).length < 1000 by omega)]; rfl
  refine ⟨by unfold addV; rw [ho]; rfl, ?_⟩
  unfold addN
  rw [ho]
  unfold bo
  rw [show min (i + 1) 1000 = min i 1000 by omega]
  rfl
theorem bo_and {K : Nat} : addV [orN] 2 (List.replicate K 0) = if K ≤ 64 then 1 else -1 := by
  have hb : (List.replicate K (0 : Int)).any (bad [orN].length) = false := by
    rw [List.any_eq_false]
    intro x hx
    rw [(List.mem_replicate.1 hx).2]
    decide
  unfold addV addOk
  rw [hb, List.length_replicate]
  by_cases h : K ≤ 64
  · rw [decide_eq_true h, if_pos h]; rfl
  · rw [decide_eq_false h, if_neg h]; rfl
def rk (k : Int) : List Value := [.int .i64 k, .slice none 0 0]
theorem rk_len (k : Int) : (rk k).length = 2 := rfl
def boR (i N : Nat) : List Int := List.replicate i 3 ++ List.replicate (N - i) 0
theorem boR_len {i N : Nat} (h : i ≤ N) : (boR i N).length = N := by unfold boR; simp; omega
theorem boR_set {i N : Nat} (h : i < N) : (boR i N).set i 3 = boR (i + 1) N := by
  unfold boR
  rw [List.set_append_right _ _ (by simp), List.length_replicate, Nat.sub_self, show N - i = (N - (i + 1)) + 1 by omega, List.replicate_succ, List.set_cons_zero, List.replicate_succ', List.append_assoc]
  rfl
theorem made_boR (N : Nat) : (madeCells (Value.agg (rk 0).toArray).cells (N * 2)).toList = (boR 0 N).flatMap rk := by
  have hc : (Value.agg (rk 0).toArray).cells = #[.int .i64 0, .slice none 0 0] := rfl
  rw [hc]
  have hl : ((boR 0 N).flatMap rk).length = N * 2 := by rw [flat_len rk_len, boR_len (Nat.zero_le _)]
  have h0 : boR 0 N = List.replicate N 0 := by unfold boR; simp
  rw [h0] at hl ⊢
  have hm : (madeCells #[Value.int .i64 0, .slice none 0 0] (N * 2)).toList.length = N * 2 := by simp [madeCells]
  apply List.ext_getElem (by rw [hl, hm])
  intro i h1 h2
  rw [hm] at h1
  have hg := flat_get rk_len (l := List.replicate N 0) (i := i / 2) (x := 0) (by rw [List.getElem?_replicate, if_pos (by omega)]) (i % 2) ((rk 0)[i % 2]'(by rw [rk_len]; omega)) (List.getElem?_eq_getElem _)
  rw [show i / 2 * 2 + i % 2 = i by omega, List.getElem?_eq_getElem h2] at hg
  injection hg with hg
  rw [hg]
  have h3 : i % 2 = 0 ∨ i % 2 = 1 := by omega
  rcases h3 with h | h <;> simp [madeCells, h, rk]
theorem check_or (N : Nat) : ∀ i, nodesErr 0 (List.replicate N ⟨3, []⟩) i = 0 := by
  induction N with
  | zero => intro i; rfl
  | succ N ih =>
    intro i
    rw [List.replicate_succ]
    have h : nodeErr ⟨3, []⟩ i 0 = 0 := by unfold nodeErr; rfl
    show (if nodeErr ⟨3, []⟩ i 0 ≠ 0 then nodeErr ⟨3, []⟩ i 0 else nodesErr 0 (List.replicate N ⟨3, []⟩) (i + 1)) = 0
    rw [h, if_neg (by decide)]
    exact ih (i + 1)
theorem boR_top (N : Nat) : boR N N = List.replicate N 3 := by unfold boR; simp
theorem bo_view {w0 w : World} {g N cap : Nat} {L : List As} (hs : St w0 (own (some ⟨g, 0, none⟩) N cap 38 2 ((boR N N).flatMap rk) :: L) w) : NdV w (some ⟨g, 0, none⟩) (List.replicate N ⟨3, []⟩) :=
  ⟨fun i x hx => by
    obtain ⟨hi, rfl⟩ := List.getElem?_eq_some_iff.1 hx
    rw [List.length_replicate] at hi
    rw [List.getElem_replicate]
    have hk : (boR N N)[i]? = some 3 := by rw [boR_top, List.getElem?_replicate, if_pos hi]
    have h0 := Rd.own (w0 := w0) (g := g) (n := N) (cap := cap) (e := 38) (size := 2) (L := L) (flat_get rk_len hk 0 (.int .i64 3) rfl) _ hs
    have h1 := Rd.own (w0 := w0) (g := g) (n := N) (cap := cap) (e := 38) (size := 2) (L := L) (flat_get rk_len hk 1 (.slice none 0 0) rfl) _ hs
    refine ⟨g, 0, none, 0, rfl, by rw [Nat.zero_add]; exact h0, by rw [Nat.zero_add]; exact h1, fun j y hy => by simp at hy, Nat.zero_le _, fun _ => ⟨rfl, rfl⟩⟩⟩
theorem build_or (w : World) : (Instr.build 38 #[(0, .int .i64 3)]).run Try.prog w = .ok (.agg (rk 3).toArray) w := by kernel_rfl
theorem size_nd2 : (Try.prog.info? 38).map (·.size) = some 2 := by kernel_rfl
theorem ints_zero (K : Nat) : (madeCells (Value.int .i64 0).cells (K * 1)).toList = ints (List.replicate K 0) := by
  rw [show (Value.int .i64 0).cells = #[Value.int .i64 0] from rfl, Nat.mul_one, toList_madeCells_one]
  unfold ints
  rw [List.map_replicate]
theorem bo_zero : bo 0 = [] := rfl
theorem exlen_v {w0 w : World} {L : List As} {D n : Nat} {l : List NodeE} {ss : List Value} (hs : St w0 (ExB D l ss :: L) w) (hn : Hid (l.length = n)) : Calls Try.prog 23 #[ptr D] w fun e w' => e = .returned (.int .i64 (n : Nat)) ∧ w' = w := by
  rw [← hn.out]; exact exlen_c hs
theorem bo_v0 : addV [] 3 [] = 0 := rfl
theorem bo_n0 : addN [] 3 [] = [orN] := rfl
attribute [local irreducible] addV addN bo boR checkV nodesErr
set_option maxHeartbeats 4000000 in
theorem ebounds_c {w0 : World} (z1 z2 : Int) : Calls Try.prog 7 #[.int .i64 z1, .int .i64 z2] w0 (LawPost w0) := by
  have hs := St.start w0
  obtain ⟨y1, hy1, ha1⟩ := mask_small z1 3 (by decide)
  obtain ⟨y2, hy2, ha2⟩ := mask_small z2 3 (by decide)
  replace ha1 : bits .and .i64 z1 7 = (y1 : Nat) := ha1
  replace ha2 : bits .and .i64 z2 7 = (y2 : Nat) := ha2
  obtain ⟨N, hN⟩ : ∃ N : Nat, (y1 : Int) + 996 = (N : Int) := ⟨y1 + 996, by omega⟩
  obtain ⟨K, hK⟩ : ∃ K : Nat, (y2 : Int) + 61 = (K : Int) := ⟨y2 + 61, by omega⟩
  have hN2 : N ≤ 1003 := by omega
  have hK2 : K ≤ 68 := by omega
  have hy1' : y1 < 8 := hy1
  have hy2' : y2 < 8 := hy2
  clear hy1 hy2
  have HE : Hid (checkV (List.replicate N ⟨3, []⟩) 0 = if 1000 < N then 2 else 0) := by
    rw [Hid]
    unfold checkV
    rw [List.length_replicate, check_or]
  go_enter Try.func7, Try.ntmps7
  go_wp2_with (first
    | (go_at_call 12; refine (exnew_c hs).mono ?_; clear hs; rintro e w' ⟨D, rfl, hs⟩))
  clear ha1 ha2
  go_loopw [6] (fun cv wr => ∃ i : Nat, i ≤ N ∧ cv = .int .i64 (i : Nat) ∧ St w0 [ExB D (bo i) []] wr) (fun cv _ => N - (intOf cv).toNat)
  case atStart => exact ⟨0, Nat.zero_le _, rfl, by rw [bo_zero]; exact hs⟩
  case round =>
    clear hs
    obtain ⟨i, hi, rfl, hs⟩ := hrel
    by_cases hlt : i < N
    · by_cases h1 : i < 1000
      · obtain ⟨v, l⟩ := bo_lo h1
        have hd : decide ((1000 : Int) ≤ (i : Int)) = false := decide_eq_false (by omega)
        have V := Lib.hid v
        have NN := Lib.hid l
        clear v l
        go_wp2_with (first
          | (go_at_call 19; refine (or_c (kids := []) (A := none) (m := 0) hs (fun _ => ⟨rfl, rfl⟩) (Lib.hid rfl) (by decide) RdS.nil V NN).mono ?_; clear hs; rintro e w' ⟨rfl, hs⟩))
        go_roundw
        case rel => exact ⟨i + 1, by omega, by go_num, hs⟩
        case measure => simp [intOf] <;> omega
      · obtain ⟨v, l⟩ := bo_hi (i := i) (by omega)
        have hd : decide ((1000 : Int) ≤ (i : Int)) = true := decide_eq_true (by omega)
        have V := Lib.hid v
        have NN := Lib.hid l
        clear v l
        go_wp2_with (first
          | (go_at_call 19; refine (or_c (kids := []) (A := none) (m := 0) hs (fun _ => ⟨rfl, rfl⟩) (Lib.hid rfl) (by decide) RdS.nil V NN).mono ?_; clear hs; rintro e w' ⟨rfl, hs⟩))
        go_roundw
        case rel => exact ⟨i + 1, by omega, by go_num, hs⟩
        case measure => simp [intOf] <;> omega
    · have hiN : i = N := by omega
      subst hiN
      have BL := Lib.hid (bo_len i)
      by_cases h1 : 1000 < i
      · have d1 : decide ((1000 : Int) < (i : Int)) = true := decide_eq_true (by omega)
        rw [if_pos h1] at HE
        have HL : Hid ((bo i).length = 1000) := by rw [Hid, BL.out]; omega
        have hmin : min (i : Int) 1000 = 1000 := by omega
        clear h1
        by_cases h6 : 64 < K
        · have d6 : decide ((64 : Int) < (K : Int)) = true := decide_eq_true (by omega)
          have HV : Hid (addV [orN] 2 (List.replicate K 0) = -1) := by rw [Hid, bo_and, if_neg (by omega)]
          clear h6
          go_wp2_with (first
            | (at_make; refine wpl_make (n := K) (bytes := 8) (size := 1) (z := .int .i64 0) Try.underlying22 (by kernel_rfl) rfl rfl rfl (by omega) (by unfold maxLen; omega) hs ?_; clear hs; intro gk w1 hs; rw [ints_zero] at hs; replace hs := hs.rot)
            | (go_at_call 12; refine (exnew_c hs).mono ?_; clear hs; rintro e w' ⟨D2, rfl, hs⟩)
            | (go_at_call 19; refine (or_c (l := []) (kids := []) (A := none) (m := 0) hs (fun _ => ⟨rfl, rfl⟩) (Lib.hid rfl) (by decide) RdS.nil (Lib.hid bo_v0) (Lib.hid bo_n0)).mono ?_; clear hs; rintro e w' ⟨rfl, hs⟩)
            | (at_make; refine wpl_make (n := i) (bytes := 32) (size := 2) (z := .agg (rk 0).toArray) Try.underlying36 (by kernel_rfl) rfl rfl rfl (by omega) (by unfold maxLen; omega) hs ?_; clear hs; intro gn w1 hs; rw [made_boR] at hs))
          go_loopw [51] (fun cv wr => ∃ j : Nat, j ≤ i ∧ cv = .int .i64 (j : Nat) ∧ St w0 [own (some ⟨gn, 0, none⟩) i i 38 2 ((boR j i).flatMap rk), ExB D2 [orN] [], ExB D (bo i) [], own (some ⟨gk, 0, none⟩) K K 3 1 (ints (List.replicate K 0))] wr) (fun cv _ => i - (intOf cv).toNat)
          case atStart => exact ⟨0, Nat.zero_le _, rfl, hs⟩
          case round =>
            clear hs
            obtain ⟨j, hj, rfl, hs⟩ := hrel
            by_cases hlj : j < i
            · have HS := Lib.hid (flat_set rk_len (l := boR j i) (i := j) 3 (by rw [boR_len hj]; exact hlj))
              rw [boR_set hlj] at HS
              have HF := Lib.hid (flat_len rk_len (boR j i))
              rw [boR_len hj] at HF
              go_wp2_with (first
                | (refine wpl_buildS build_or rfl ?_)
                | (refine wpl_store_agg (v := .agg (rk 3).toArray) rfl rfl size_nd2 hs (WrA.own (o := j * 2) (vs := rk 3) (by rw [HF.out, rk_len]; omega) (by intro u hu; simp [rk] at hu; rcases hu with rfl | rfl <;> rfl)) ?_; clear hs; intro w3 hs; rw [HS.out] at hs))
              go_roundw
              case rel => exact ⟨j + 1, by omega, by go_num, hs⟩
              case measure => simp [intOf] <;> omega
            · have hji : j = i := by omega
              subst hji
              have hrk : RdS w0 [ExB D2 [orN] [], own (some ⟨gn, 0, none⟩) j j 38 2 ((boR j j).flatMap rk), ExB D (bo j) [], own (some ⟨gk, 0, none⟩) K K 3 1 (ints (List.replicate K 0))] (some ⟨gk, 0, none⟩) (ints (List.replicate K 0)) :=
                (RdS.own (hs.rot.ent (Ent.skip (Ent.skip (Ent.skip (Ent.refl _)))))).ent (Ent.skip (Ent.skip (Ent.skip (Ent.refl _))))
              have HRl : Hid ((List.replicate K (0 : Int)).length = K) := by rw [Hid, List.length_replicate]
              have HNl : Hid ((List.replicate j (⟨3, []⟩ : RNode)).length = j) := by rw [Hid, List.length_replicate]
              go_wp2_with (first
                | (go_at_call 23; refine (exlen_v hs.up2 HL).mono ?_; rintro e w' ⟨rfl, rfl⟩)
                | (go_at_call 16; refine (and_c (kids := List.replicate K 0) (A := some ⟨gk, 0, none⟩) (m := K) hs.rot (fun h => nomatch h) HRl (by omega) hrk HV (Lib.hid rfl)).mono ?_; clear hs hrk; rintro e w' ⟨rfl, hs⟩; replace hs := hs.drop)
                | (go_at_call 26; refine (chk_c HNl (by omega) (bo_view hs) HE).mono ?_; rintro e w' ⟨rfl, hg⟩; replace hs := hs.grew hg; clear hg)
                | (go_at_call 11; refine (awake3 _).mono ?_; rintro e w' ⟨rfl, hg⟩; replace hs := hs.grew hg; clear hg))
              go_ret
              exact ⟨rfl, hs.nothing⟩
        · have d6 : decide ((64 : Int) < (K : Int)) = false := decide_eq_false (by omega)
          have HV : Hid (addV [orN] 2 (List.replicate K 0) = 1) := by rw [Hid, bo_and, if_pos (by omega)]
          clear h6
          go_wp2_with (first
            | (at_make; refine wpl_make (n := K) (bytes := 8) (size := 1) (z := .int .i64 0) Try.underlying22 (by kernel_rfl) rfl rfl rfl (by omega) (by unfold maxLen; omega) hs ?_; clear hs; intro gk w1 hs; rw [ints_zero] at hs; replace hs := hs.rot)
            | (go_at_call 12; refine (exnew_c hs).mono ?_; clear hs; rintro e w' ⟨D2, rfl, hs⟩)
            | (go_at_call 19; refine (or_c (l := []) (kids := []) (A := none) (m := 0) hs (fun _ => ⟨rfl, rfl⟩) (Lib.hid rfl) (by decide) RdS.nil (Lib.hid bo_v0) (Lib.hid bo_n0)).mono ?_; clear hs; rintro e w' ⟨rfl, hs⟩)
            | (at_make; refine wpl_make (n := i) (bytes := 32) (size := 2) (z := .agg (rk 0).toArray) Try.underlying36 (by kernel_rfl) rfl rfl rfl (by omega) (by unfold maxLen; omega) hs ?_; clear hs; intro gn w1 hs; rw [made_boR] at hs))
          go_loopw [51] (fun cv wr => ∃ j : Nat, j ≤ i ∧ cv = .int .i64 (j : Nat) ∧ St w0 [own (some ⟨gn, 0, none⟩) i i 38 2 ((boR j i).flatMap rk), ExB D2 [orN] [], ExB D (bo i) [], own (some ⟨gk, 0, none⟩) K K 3 1 (ints (List.replicate K 0))] wr) (fun cv _ => i - (intOf cv).toNat)
          case atStart => exact ⟨0, Nat.zero_le _, rfl, hs⟩
          case round =>
            clear hs
            obtain ⟨j, hj, rfl, hs⟩ := hrel
            by_cases hlj : j < i
            · have HS := Lib.hid (flat_set rk_len (l := boR j i) (i := j) 3 (by rw [boR_len hj]; exact hlj))
              rw [boR_set hlj] at HS
              have HF := Lib.hid (flat_len rk_len (boR j i))
              rw [boR_len hj] at HF
              go_wp2_with (first
                | (refine wpl_buildS build_or rfl ?_)
                | (refine wpl_store_agg (v := .agg (rk 3).toArray) rfl rfl size_nd2 hs (WrA.own (o := j * 2) (vs := rk 3) (by rw [HF.out, rk_len]; omega) (by intro u hu; simp [rk] at hu; rcases hu with rfl | rfl <;> rfl)) ?_; clear hs; intro w3 hs; rw [HS.out] at hs))
              go_roundw
              case rel => exact ⟨j + 1, by omega, by go_num, hs⟩
              case measure => simp [intOf] <;> omega
            · have hji : j = i := by omega
              subst hji
              have hrk : RdS w0 [ExB D2 [orN] [], own (some ⟨gn, 0, none⟩) j j 38 2 ((boR j j).flatMap rk), ExB D (bo j) [], own (some ⟨gk, 0, none⟩) K K 3 1 (ints (List.replicate K 0))] (some ⟨gk, 0, none⟩) (ints (List.replicate K 0)) :=
                (RdS.own (hs.rot.ent (Ent.skip (Ent.skip (Ent.skip (Ent.refl _)))))).ent (Ent.skip (Ent.skip (Ent.skip (Ent.refl _))))
              have HRl : Hid ((List.replicate K (0 : Int)).length = K) := by rw [Hid, List.length_replicate]
              have HNl : Hid ((List.replicate j (⟨3, []⟩ : RNode)).length = j) := by rw [Hid, List.length_replicate]
              go_wp2_with (first
                | (go_at_call 23; refine (exlen_v hs.up2 HL).mono ?_; rintro e w' ⟨rfl, rfl⟩)
                | (go_at_call 16; refine (and_c (kids := List.replicate K 0) (A := some ⟨gk, 0, none⟩) (m := K) hs.rot (fun h => nomatch h) HRl (by omega) hrk HV (Lib.hid rfl)).mono ?_; clear hs hrk; rintro e w' ⟨rfl, hs⟩; replace hs := hs.drop)
                | (go_at_call 26; refine (chk_c HNl (by omega) (bo_view hs) HE).mono ?_; rintro e w' ⟨rfl, hg⟩; replace hs := hs.grew hg; clear hg)
                | (go_at_call 11; refine (awake3 _).mono ?_; rintro e w' ⟨rfl, hg⟩; replace hs := hs.grew hg; clear hg))
              go_ret
              exact ⟨rfl, hs.nothing⟩
      · have d1 : decide ((1000 : Int) < (i : Int)) = false := decide_eq_false (by omega)
        rw [if_neg h1] at HE
        have HL : Hid ((bo i).length = i) := by rw [Hid, BL.out]; omega
        have hmin : min (i : Int) 1000 = (i : Int) := by omega
        clear h1
        by_cases h6 : 64 < K
        · have d6 : decide ((64 : Int) < (K : Int)) = true := decide_eq_true (by omega)
          have HV : Hid (addV [orN] 2 (List.replicate K 0) = -1) := by rw [Hid, bo_and, if_neg (by omega)]
          clear h6
          go_wp2_with (first
            | (at_make; refine wpl_make (n := K) (bytes := 8) (size := 1) (z := .int .i64 0) Try.underlying22 (by kernel_rfl) rfl rfl rfl (by omega) (by unfold maxLen; omega) hs ?_; clear hs; intro gk w1 hs; rw [ints_zero] at hs; replace hs := hs.rot)
            | (go_at_call 12; refine (exnew_c hs).mono ?_; clear hs; rintro e w' ⟨D2, rfl, hs⟩)
            | (go_at_call 19; refine (or_c (l := []) (kids := []) (A := none) (m := 0) hs (fun _ => ⟨rfl, rfl⟩) (Lib.hid rfl) (by decide) RdS.nil (Lib.hid bo_v0) (Lib.hid bo_n0)).mono ?_; clear hs; rintro e w' ⟨rfl, hs⟩)
            | (at_make; refine wpl_make (n := i) (bytes := 32) (size := 2) (z := .agg (rk 0).toArray) Try.underlying36 (by kernel_rfl) rfl rfl rfl (by omega) (by unfold maxLen; omega) hs ?_; clear hs; intro gn w1 hs; rw [made_boR] at hs))
          go_loopw [51] (fun cv wr => ∃ j : Nat, j ≤ i ∧ cv = .int .i64 (j : Nat) ∧ St w0 [own (some ⟨gn, 0, none⟩) i i 38 2 ((boR j i).flatMap rk), ExB D2 [orN] [], ExB D (bo i) [], own (some ⟨gk, 0, none⟩) K K 3 1 (ints (List.replicate K 0))] wr) (fun cv _ => i - (intOf cv).toNat)
          case atStart => exact ⟨0, Nat.zero_le _, rfl, hs⟩
          case round =>
            clear hs
            obtain ⟨j, hj, rfl, hs⟩ := hrel
            by_cases hlj : j < i
            · have HS := Lib.hid (flat_set rk_len (l := boR j i) (i := j) 3 (by rw [boR_len hj]; exact hlj))
              rw [boR_set hlj] at HS
              have HF := Lib.hid (flat_len rk_len (boR j i))
              rw [boR_len hj] at HF
              go_wp2_with (first
                | (refine wpl_buildS build_or rfl ?_)
                | (refine wpl_store_agg (v := .agg (rk 3).toArray) rfl rfl size_nd2 hs (WrA.own (o := j * 2) (vs := rk 3) (by rw [HF.out, rk_len]; omega) (by intro u hu; simp [rk] at hu; rcases hu with rfl | rfl <;> rfl)) ?_; clear hs; intro w3 hs; rw [HS.out] at hs))
              go_roundw
              case rel => exact ⟨j + 1, by omega, by go_num, hs⟩
              case measure => simp [intOf] <;> omega
            · have hji : j = i := by omega
              subst hji
              have hrk : RdS w0 [ExB D2 [orN] [], own (some ⟨gn, 0, none⟩) j j 38 2 ((boR j j).flatMap rk), ExB D (bo j) [], own (some ⟨gk, 0, none⟩) K K 3 1 (ints (List.replicate K 0))] (some ⟨gk, 0, none⟩) (ints (List.replicate K 0)) :=
                (RdS.own (hs.rot.ent (Ent.skip (Ent.skip (Ent.skip (Ent.refl _)))))).ent (Ent.skip (Ent.skip (Ent.skip (Ent.refl _))))
              have HRl : Hid ((List.replicate K (0 : Int)).length = K) := by rw [Hid, List.length_replicate]
              have HNl : Hid ((List.replicate j (⟨3, []⟩ : RNode)).length = j) := by rw [Hid, List.length_replicate]
              go_wp2_with (first
                | (go_at_call 23; refine (exlen_v hs.up2 HL).mono ?_; rintro e w' ⟨rfl, rfl⟩)
                | (go_at_call 16; refine (and_c (kids := List.replicate K 0) (A := some ⟨gk, 0, none⟩) (m := K) hs.rot (fun h => nomatch h) HRl (by omega) hrk HV (Lib.hid rfl)).mono ?_; clear hs hrk; rintro e w' ⟨rfl, hs⟩; replace hs := hs.drop)
                | (go_at_call 26; refine (chk_c HNl (by omega) (bo_view hs) HE).mono ?_; rintro e w' ⟨rfl, hg⟩; replace hs := hs.grew hg; clear hg)
                | (go_at_call 11; refine (awake3 _).mono ?_; rintro e w' ⟨rfl, hg⟩; replace hs := hs.grew hg; clear hg))
              go_ret
              exact ⟨rfl, hs.nothing⟩
        · have d6 : decide ((64 : Int) < (K : Int)) = false := decide_eq_false (by omega)
          have HV : Hid (addV [orN] 2 (List.replicate K 0) = 1) := by rw [Hid, bo_and, if_pos (by omega)]
          clear h6
          go_wp2_with (first
            | (at_make; refine wpl_make (n := K) (bytes := 8) (size := 1) (z := .int .i64 0) Try.underlying22 (by kernel_rfl) rfl rfl rfl (by omega) (by unfold maxLen; omega) hs ?_; clear hs; intro gk w1 hs; rw [ints_zero] at hs; replace hs := hs.rot)
            | (go_at_call 12; refine (exnew_c hs).mono ?_; clear hs; rintro e w' ⟨D2, rfl, hs⟩)
            | (go_at_call 19; refine (or_c (l := []) (kids := []) (A := none) (m := 0) hs (fun _ => ⟨rfl, rfl⟩) (Lib.hid rfl) (by decide) RdS.nil (Lib.hid bo_v0) (Lib.hid bo_n0)).mono ?_; clear hs; rintro e w' ⟨rfl, hs⟩)
            | (at_make; refine wpl_make (n := i) (bytes := 32) (size := 2) (z := .agg (rk 0).toArray) Try.underlying36 (by kernel_rfl) rfl rfl rfl (by omega) (by unfold maxLen; omega) hs ?_; clear hs; intro gn w1 hs; rw [made_boR] at hs))
          go_loopw [51] (fun cv wr => ∃ j : Nat, j ≤ i ∧ cv = .int .i64 (j : Nat) ∧ St w0 [own (some ⟨gn, 0, none⟩) i i 38 2 ((boR j i).flatMap rk), ExB D2 [orN] [], ExB D (bo i) [], own (some ⟨gk, 0, none⟩) K K 3 1 (ints (List.replicate K 0))] wr) (fun cv _ => i - (intOf cv).toNat)
          case atStart => exact ⟨0, Nat.zero_le _, rfl, hs⟩
          case round =>
            clear hs
            obtain ⟨j, hj, rfl, hs⟩ := hrel
            by_cases hlj : j < i
            · have HS := Lib.hid (flat_set rk_len (l := boR j i) (i := j) 3 (by rw [boR_len hj]; exact hlj))
              rw [boR_set hlj] at HS
              have HF := Lib.hid (flat_len rk_len (boR j i))
              rw [boR_len hj] at HF
              go_wp2_with (first
                | (refine wpl_buildS build_or rfl ?_)
                | (refine wpl_store_agg (v := .agg (rk 3).toArray) rfl rfl size_nd2 hs (WrA.own (o := j * 2) (vs := rk 3) (by rw [HF.out, rk_len]; omega) (by intro u hu; simp [rk] at hu; rcases hu with rfl | rfl <;> rfl)) ?_; clear hs; intro w3 hs; rw [HS.out] at hs))
              go_roundw
              case rel => exact ⟨j + 1, by omega, by go_num, hs⟩
              case measure => simp [intOf] <;> omega
            · have hji : j = i := by omega
              subst hji
              have hrk : RdS w0 [ExB D2 [orN] [], own (some ⟨gn, 0, none⟩) j j 38 2 ((boR j j).flatMap rk), ExB D (bo j) [], own (some ⟨gk, 0, none⟩) K K 3 1 (ints (List.replicate K 0))] (some ⟨gk, 0, none⟩) (ints (List.replicate K 0)) :=
                (RdS.own (hs.rot.ent (Ent.skip (Ent.skip (Ent.skip (Ent.refl _)))))).ent (Ent.skip (Ent.skip (Ent.skip (Ent.refl _))))
              have HRl : Hid ((List.replicate K (0 : Int)).length = K) := by rw [Hid, List.length_replicate]
              have HNl : Hid ((List.replicate j (⟨3, []⟩ : RNode)).length = j) := by rw [Hid, List.length_replicate]
              go_wp2_with (first
                | (go_at_call 23; refine (exlen_v hs.up2 HL).mono ?_; rintro e w' ⟨rfl, rfl⟩)
                | (go_at_call 16; refine (and_c (kids := List.replicate K 0) (A := some ⟨gk, 0, none⟩) (m := K) hs.rot (fun h => nomatch h) HRl (by omega) hrk HV (Lib.hid rfl)).mono ?_; clear hs hrk; rintro e w' ⟨rfl, hs⟩; replace hs := hs.drop)
                | (go_at_call 26; refine (chk_c HNl (by omega) (bo_view hs) HE).mono ?_; rintro e w' ⟨rfl, hg⟩; replace hs := hs.grew hg; clear hg)
                | (go_at_call 11; refine (awake3 _).mono ?_; rintro e w' ⟨rfl, hg⟩; replace hs := hs.grew hg; clear hg))
              go_ret
              exact ⟨rfl, hs.nothing⟩
end Go.Proofs.Ytkcbjkadalebjaa
