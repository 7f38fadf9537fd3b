/-
  The statements' Tame.
-/
import Derived.Test.YtkcbjkadalebjaaEx14
import Derived.Test.YtkcbjkadalebjaaExDe
set_option maxRecDepth 100000
namespace Go.Proofs.Ytkcbjkadalebjaa
open Go Go.RowKit
attribute [local irreducible] wpList Calls Code.wp

theorem nodesErr_zero {m : Nat} : ∀ {l : List NodeE} {j : Nat}, (∀ (i : Nat) (x : NodeE), l[i]? = some x → nodeErr (toR x) (j + i) (m : Int) = 0) → nodesErr (m : Int) (l.map toR) j = 0
  | [], _, _ => rfl
  | x :: l, j, h => by
    have h0 := h 0 x rfl
    rw [Nat.add_zero] at h0
    show (if nodeErr (toR x) j (m : Int) ≠ 0 then nodeErr (toR x) j (m : Int) else nodesErr (m : Int) (l.map toR) (j + 1)) = 0
    rw [if_neg (fun h => h h0)]
    exact nodesErr_zero fun i y hy => by
      have := h (i + 1) y (by simpa using hy)
      rwa [show j + (i + 1) = j + 1 + i by omega] at this
theorem ArOk.noErr {l : List NodeE} {m : Nat} (h : ArOk l m) {i : Nat} {x : NodeE} (hx : l[i]? = some x) : nodeErr (toR x) i (m : Int) = 0 := by
  obtain ⟨k1, k5, k64⟩ := h.kind i x hx
  have hk : (toR x).k = (x.k : Int) := rfl
  have hkl : (toR x).kids.length = x.kids.length := toR_len x
  have hone : x.k = 1 → x.kids.length = 1 := fun h1 => by obtain ⟨s, hs, _⟩ := h.set i x hx h1; rw [hs]; rfl
  have h5 := h.not i x hx
  unfold nodeErr
  rw [hk, hkl, if_neg (by
    rintro (h' | h' | h' | ⟨h' | h', hn⟩)
    · omega
    · omega
    · omega
    · exact hn (hone (by omega))
    · exact hn (h5 (by omega)))]
  by_cases h1 : x.k = 1
  · obtain ⟨s, hs, hsm⟩ := h.set i x hx h1
    have e : (toR x).kids = [(s : Int)] := by unfold toR kI; simp only; rw [hs]; rfl
    rw [if_pos (by omega), e, if_neg (by simp only [List.headD_cons]; omega)]
  · rw [if_neg (by omega)]
    have : (toR x).kids.any (bad i) = false := by
      rw [List.any_eq_false]
      intro y hy
      unfold toR kI at hy
      obtain ⟨z, hz, rfl⟩ := List.mem_map.1 hy
      have := h.low i x hx h1 z hz
      simp [bad]
      omega
    rw [this]
    rfl
theorem ArOk.check {l : List NodeE} {m : Nat} (h : ArOk l m) : checkV (l.map toR) (m : Int) = 0 := by
  unfold checkV
  rw [List.length_map, if_neg (by have := h.few; omega)]
  exact nodesErr_zero fun i x hx => by rw [Nat.zero_add]; exact h.noErr hx
theorem addset_m {l : List NodeE} {m s : Nat} (h : ArOk l m) (hl : l.length < 1000) (hs : s < m) : ArOk (l ++ [⟨1, [s]⟩]) m :=
  h.snoc hl (Nat.le_refl m) ⟨Nat.le_refl 1, by show 1 ≤ 5; decide, by show 1 ≤ 64; decide⟩ (fun _ => ⟨s, rfl, hs⟩) (fun h => absurd h (by decide : (1 : Nat) ≠ 5)) (fun h => absurd rfl h)
theorem addop_m {l : List NodeE} {m k : Nat} {kids : List Nat} (h : ArOk l m) (hl : l.length < 1000) (hk : 2 ≤ k ∧ k ≤ 5) (h64 : kids.length ≤ 64) (h5 : k = 5 → kids.length = 1) (hlow : ∀ y ∈ kids, y < l.length) : ArOk (l ++ [⟨k, kids⟩]) m :=
  h.snoc hl (Nat.le_refl m) ⟨by show 1 ≤ k; omega, by show k ≤ 5; omega, h64⟩ (fun h1 => absurd h1 (by show ¬ k = 1; omega)) h5 (fun _ => hlow)
theorem blk_own {g n : Nat} {cs : List Value} {t : TypeId} (hn : cs.length = n) (hm : n ≤ maxLen) : ∀ h, blk g cs.toArray t h → own (some ⟨g, 0, none⟩) n n t 1 cs h := fun h hb => by
  subst hn
  exact ⟨by simp, .inr ⟨g, cs.toArray, rfl, Nat.le_refl _, hm, by simp, by simp, hb⟩⟩
theorem kid_at (x p : Nat) {q : Nat} (hq : 0 < q) : ∃ y : Nat, y < q ∧ ((x : Int) / 2 ^ (4 + 4 * p)).tmod (q : Int) = (y : Int) := by
  refine ⟨x / 2 ^ (4 + 4 * p) % q, Nat.mod_lt _ hq, ?_⟩
  have e : (x : Int) / 2 ^ (4 + 4 * p) = ((x / 2 ^ (4 + 4 * p) : Nat) : Int) := by push_cast; rfl
  rw [e, Int.ofNat_tmod]
theorem nd_add {w0 w : World} {L : List As} {B E : Option Addr} {q c kc p k : Nat} {l : List NodeE} {kl : List Nat} {rs : List KR} (hrs : rs.map KR.e = l) (hl : l.length = q) (hk : kl.length = p)
    (hs : St w0 (own B (q + 1) c 38 2 (rs.flatMap krV ++ [.int .i64 (k : Nat), .slice E p kc]) :: own E p kc 3 1 (ints (natI kl)) :: (rs.map krA ++ L)) w) : St w0 (NdsB B c (l ++ [⟨k, kl⟩]) :: L) w :=
  hs.ent (Ent.ndgrow (e := ⟨k, kl⟩) hrs (by rw [hl]) rfl hk)
set_option maxHeartbeats 1000000 in
theorem tame_c {w : World} {A : Option Addr} {zs : List Int} {n cap m : Nat} (hn : Hid (zs.length = n)) (hm : m ≤ 6) (hr : KidsR w A zs) :
    Calls Try.prog 29 #[.slice A n cap, .int .i64 (m : Nat)] w fun e w' => ∃ B c l q, e = .returned (.slice B q c) ∧ Hid (l.length = q) ∧ ArOk l m ∧ l.length ≤ 18 ∧ St w [NdsB B c l] w' := by
  have HR := Lib.hid hr
  have hs : St w [NdsB none 0 []] w := ((St.start w).own_nil 38 2).ent (Ent.ndshut (rs := []) (L := []) rfl rfl)
  clear hr
  go_enter Try.func29, Try.ntmps29
  go_wp2
  go_loopw [5, 6] (fun ov cv wr => ∃ (i : Nat) (B : Option Addr) (c : Nat) (l : List NodeE), i ≤ m ∧ ov = .slice B i c ∧ cv = .int .i64 (i : Nat) ∧ Hid (l.length = i) ∧ ArOk l m ∧ St w [NdsB B c l] wr) (fun _ cv _ => m - (intOf cv).toNat)
  case atStart => exact ⟨0, none, 0, [], Nat.zero_le _, rfl, rfl, rfl, ArOk.nil m, hs⟩
  case round =>
    clear hs
    obtain ⟨i, B, c, l, hi, rfl, rfl, HLl, hok, hs⟩ := hrel
    by_cases hlt : i < m
    · have hok2 := Lib.hid (addset_m hok (by rw [HLl.out]; omega) hlt)
      clear hok
      obtain ⟨rs, hrs, hs⟩ := hs.ndopen2
      have HRs := Lib.hid hrs
      rw [HLl.out] at hs
      clear hrs
      go_wp2_with (first
        | (refine wpl_build1 (v := .int .i64 (i : Nat)) elem24 (by decide) rfl rfl hs ?_; clear hs; intro gk w3 hs)
        | (refine wpl_buildS (build_nodeE _ _ _ _) rfl ?_)
        | (refine wpl_build1 (v := .agg #[.int .i64 1, .slice (some ⟨gk, 0, none⟩) 1 1]) elemN (by decide) rfl rfl hs ?_; clear hs; intro gb w3 hs; replace hs : St w (Ytkcbjkadalebjaa.blk gb #[.int .i64 1, .slice (some ⟨gk, 0, none⟩) 1 1] 38 :: _) w3 := hs)
        | (refine wpl_append (A := B) (B := some ⟨gb, 0, none⟩) (n := i) (m := 1) (news := [.int .i64 1, .slice (some ⟨gk, 0, none⟩) 1 1]) elemN rfl rfl hs (Ent.skip (Ent.skip (Ent.refl _))) RdS.blk rfl (by intro u hu; simp at hu; rcases hu with rfl | rfl <;> rfl) (by unfold maxLen; omega) (by omega) ?_; clear hs; intro B2 c2 w3 hs; replace hs := hs.rot.drop))
      have hs2 : St w [NdsB B2 c2 (l ++ [⟨1, [i]⟩])] w3 := by
        replace hs : St w (own B2 (i + 1) c2 38 2 (rs.flatMap krV ++ [.int .i64 ((1 : Nat) : Int), .slice (some ⟨gk, 0, none⟩) 1 1]) :: Ytkcbjkadalebjaa.blk gk [Value.int .i64 (i : Nat)].toArray 3 :: rs.map krA) w3 := hs
        have h1 := hs.rot.conv (blk_own (n := 1) rfl (by decide))
        replace h1 : St w (own B2 (i + 1) c2 38 2 (rs.flatMap krV ++ [.int .i64 ((1 : Nat) : Int), .slice (some ⟨gk, 0, none⟩) 1 1]) :: own (some ⟨gk, 0, none⟩) 1 1 3 1 (ints (kI ⟨1, [i]⟩)) :: (rs.map krA ++ [])) w3 := by
          rw [List.append_nil]; exact h1.rot
        exact h1.ent (Ent.ndgrow HRs.out (by rw [HLl.out]) rfl rfl)
      go_roundw
      case rel => exact ⟨i + 1, B2, c2, l ++ [⟨1, [i]⟩], by omega, rfl, by go_num, by rw [Hid, List.length_append, HLl.out]; rfl, hok2.out, hs2⟩
      case measure => simp [intOf] <;> omega
    · have him : i = m := by omega
      subst him
      go_wp2
      clear hlt
      go_loopw [5, 7] (fun ov cv wr => ∃ (j q : Nat) (B : Option Addr) (c : Nat) (l : List NodeE), j ≤ n ∧ q ≤ i + j ∧ ov = .slice B q c ∧ cv = .int .i64 (j : Nat) ∧ Hid (l.length = q) ∧ j ≤ 12 ∧ ArOk l i ∧ St w [NdsB B c l] wr) (fun _ cv _ => n - (intOf cv).toNat)
      case atStart => exact ⟨0, i, B, c, l, Nat.zero_le _, by omega, rfl, rfl, HLl, by omega, hok, hs⟩
      case round =>
        clear hs hok HLl
        obtain ⟨j, q, B, c, l, hj, hq, rfl, rfl, HLl, hj12, hok, hs⟩ := hrel
        by_cases hlt : j < n ∧ j < 12
        · obtain ⟨hlt, hlt12⟩ := hlt
          obtain ⟨z, hz⟩ : ∃ z, zs[j]? = some z := ⟨_, List.getElem?_eq_getElem (by rw [hn.out]; exact hlt)⟩
          obtain ⟨b, o, rfl, c0⟩ := HR.out j z hz
          replace c0 := hs.made_grew.cell c0
          have d12 : decide ((j : Int) < 12) = true := decide_eq_true (by omega)
          have hand := and_ffffff z
          have hx24 := kk24_lt z
          generalize kk24 z = x at hand hx24
          obtain ⟨K, hK⟩ : ∃ K : Nat, 2 + (x : Int) % 4 = (K : Int) := ⟨2 + x % 4, by omega⟩
          obtain ⟨N3, hN3, hN⟩ := mask_small ((x : Int) / 4) 2 (by decide)
          replace hN : bits .and .i64 ((x : Int) / 4) 3 = (N3 : Nat) := hN
          replace hN3 : N3 < 4 := hN3
          have hK2 : 2 ≤ K ∧ K ≤ 5 := by omega
          have HO := Lib.hid hok
          clear hz hok
          by_cases hK5 : K = 5
          · subst hK5
            replace hs := hs.own_nil 3 1
            go_wp2
            clear c0 hN hand hK
            go_loopw [10, 12] (fun kv cv wr => ∃ (p : Nat) (E : Option Addr) (kc : Nat) (kl : List Nat), p ≤ 1 ∧ kv = .slice E p kc ∧ cv = .int .i64 (p : Nat) ∧ Hid (kl.length = p) ∧ Hid (∀ y ∈ kl, y < q) ∧ St w [own E p kc 3 1 (ints (natI kl)), NdsB B c l] wr) (fun _ cv _ => 1 - (intOf cv).toNat)
            case atStart => exact ⟨0, none, 0, [], Nat.zero_le _, rfl, rfl, rfl, (fun y hy => nomatch hy), hs⟩
            case round =>
              clear hs
              obtain ⟨p, E, kc, kl, hp, rfl, rfl, HKl, HKq, hs⟩ := hrel
              by_cases hp1 : p < 1 ∧ 0 < q
              · obtain ⟨hp1, hq0⟩ := hp1
                obtain ⟨y, hyq, hy⟩ := kid_at x p hq0
                have hy0 : ∀ v ∈ kl ++ [y], v < q := fun v hv => by
                  rcases List.mem_append.1 hv with h | h
                  · exact HKq.out v h
                  · rw [List.mem_singleton.1 h]; exact hyq
                replace hy0 := Lib.hid hy0
                go_wp2_with (first
                  | (refine wpl_build1 (v := .int .i64 (y : Nat)) elem24 (by decide) rfl rfl hs ?_; clear hs; intro gk w3 hs)
                  | (refine wpl_append (A := E) (B := some ⟨gk, 0, none⟩) (m := 1) (news := [.int .i64 (y : Nat)]) elem24 rfl rfl hs (Ent.skip (Ent.refl _)) RdS.blk rfl (ints_one' [(y : Int)]) (by unfold maxLen; omega) (by omega) ?_; clear hs; intro E2 kc2 w4 hs; rw [natI_snoc] at hs; replace hs := hs.rot.drop))
                go_roundw
                case rel => first
                  | exact ⟨p + 1, E2, kc2, kl ++ [y], by omega, rfl, by go_num, by rw [Hid, List.length_append, HKl.out]; rfl, hy0.out, hs⟩
                  | ((repeat apply Exists.intro); refine ⟨?_, rfl⟩; exact ⟨p + 1, E2, kc2, kl ++ [y], by omega, rfl, by go_num, by rw [Hid, List.length_append, HKl.out]; rfl, hy0.out, hs⟩)
                case measure => simp [intOf] <;> omega
              · by_cases hp0 : p = 0
                · have hq0 : q = 0 := by omega
                  subst hp0 hq0
                  clear hp1
                  go_wp2
                  go_roundw
                  case rel => exact ⟨j + 1, 0, B, c, l, by omega, by omega, rfl, by go_num, HLl, by omega, HO.out, hs.rot.only⟩
                  case measure => simp [intOf] <;> omega
                · obtain rfl : p = 1 := by omega
                  have hok2 := Lib.hid (addop_m HO.out (k := 5) (kids := kl) (by rw [HLl.out]; omega) (by decide) (by rw [HKl.out]; decide) (fun _ => HKl.out) (by rw [HLl.out]; exact HKq.out))
                  clear hp1 hp0
                  obtain ⟨rs, hrs, hs⟩ := hs.rot.ndopen2
                  have HRs := Lib.hid hrs
                  rw [HLl.out] at hs
                  clear hrs
                  go_wp2_with (first
                    | (refine wpl_buildS (build_nodeE _ _ _ _) rfl ?_)
                    | (refine wpl_build1 (v := .agg #[.int .i64 (5 : Nat), .slice E 1 kc]) elemN (by decide) rfl rfl hs ?_; clear hs; intro gb w3 hs; replace hs : St w (Ytkcbjkadalebjaa.blk gb #[.int .i64 (5 : Nat), .slice E 1 kc] 38 :: _) w3 := hs)
                    | (refine wpl_append (A := B) (B := some ⟨gb, 0, none⟩) (n := q) (m := 1) (news := [.int .i64 (5 : Nat), .slice E 1 kc]) elemN rfl rfl hs (Ent.skip (Ent.refl _)) RdS.blk rfl (by intro u hu; simp at hu; rcases hu with rfl | rfl <;> rfl) (by unfold maxLen; omega) (by omega) ?_; clear hs; intro B2 c2 w3 hs; replace hs := hs.rot.drop))
                  have hs2 : St w [NdsB B2 c2 (l ++ [⟨5, kl⟩])] w3 := nd_add HRs.out HLl.out HKl.out (by rw [List.append_nil]; exact hs)
                  go_roundw
                  case rel => exact ⟨j + 1, q + 1, B2, c2, l ++ [⟨5, kl⟩], by omega, by omega, rfl, by go_num, by rw [Hid, List.length_append, HLl.out]; rfl, by omega, hok2.out, hs2⟩
                  case measure => simp [intOf] <;> omega
          · have hk5 : ((K : Int) == 5) = false := by simp; omega
            have hk5n : ((K : Int) != 5) = true := by simp; omega
            replace hs := hs.own_nil 3 1
            go_wp2
            clear c0 hN hand hK
            go_loopw [10, 12] (fun kv cv wr => ∃ (p : Nat) (E : Option Addr) (kc : Nat) (kl : List Nat), p ≤ N3 ∧ kv = .slice E p kc ∧ cv = .int .i64 (p : Nat) ∧ Hid (kl.length = p) ∧ Hid (∀ y ∈ kl, y < q) ∧ St w [own E p kc 3 1 (ints (natI kl)), NdsB B c l] wr) (fun _ cv _ => N3 - (intOf cv).toNat)
            case atStart => exact ⟨0, none, 0, [], Nat.zero_le _, rfl, rfl, rfl, (fun y hy => nomatch hy), hs⟩
            case round =>
              clear hs
              obtain ⟨p, E, kc, kl, hp, rfl, rfl, HKl, HKq, hs⟩ := hrel
              by_cases hp1 : p < N3 ∧ 0 < q
              · obtain ⟨hp1, hq0⟩ := hp1
                obtain ⟨y, hyq, hy⟩ := kid_at x p hq0
                have hy0 : ∀ v ∈ kl ++ [y], v < q := fun v hv => by
                  rcases List.mem_append.1 hv with h | h
                  · exact HKq.out v h
                  · rw [List.mem_singleton.1 h]; exact hyq
                replace hy0 := Lib.hid hy0
                go_wp2_with (first
                  | (refine wpl_build1 (v := .int .i64 (y : Nat)) elem24 (by decide) rfl rfl hs ?_; clear hs; intro gk w3 hs)
                  | (refine wpl_append (A := E) (B := some ⟨gk, 0, none⟩) (m := 1) (news := [.int .i64 (y : Nat)]) elem24 rfl rfl hs (Ent.skip (Ent.refl _)) RdS.blk rfl (ints_one' [(y : Int)]) (by unfold maxLen; omega) (by omega) ?_; clear hs; intro E2 kc2 w4 hs; rw [natI_snoc] at hs; replace hs := hs.rot.drop))
                go_roundw
                case rel => first
                  | exact ⟨p + 1, E2, kc2, kl ++ [y], by omega, rfl, by go_num, by rw [Hid, List.length_append, HKl.out]; rfl, hy0.out, hs⟩
                  | ((repeat apply Exists.intro); refine ⟨?_, rfl⟩; exact ⟨p + 1, E2, kc2, kl ++ [y], by omega, rfl, by go_num, by rw [Hid, List.length_append, HKl.out]; rfl, hy0.out, hs⟩)
                case measure => simp [intOf] <;> omega
              · have hok2 := Lib.hid (addop_m HO.out (k := K) (kids := kl) (by rw [HLl.out]; omega) hK2 (by rw [HKl.out]; omega) (fun h => absurd h hK5) (by rw [HLl.out]; exact HKq.out))
                by_cases hp0 : p < N3
                · have hq0 : q = 0 := by omega
                  have hqd : decide ((0 : Int) < (q : Int)) = false := decide_eq_false (by omega)
                  have hqd2 : decide (0 < q) = false := decide_eq_false (by omega)
                  clear hp1 hq0
                  obtain ⟨rs, hrs, hs⟩ := hs.rot.ndopen2
                  have HRs := Lib.hid hrs
                  rw [HLl.out] at hs
                  clear hrs
                  go_wp2_with (first
                    | (refine wpl_buildS (build_nodeE _ _ _ _) rfl ?_)
                    | (refine wpl_build1 (v := .agg #[.int .i64 (K : Nat), .slice E p kc]) elemN (by decide) rfl rfl hs ?_; clear hs; intro gb w3 hs; replace hs : St w (Ytkcbjkadalebjaa.blk gb #[.int .i64 (K : Nat), .slice E p kc] 38 :: _) w3 := hs)
                    | (refine wpl_append (A := B) (B := some ⟨gb, 0, none⟩) (n := q) (m := 1) (news := [.int .i64 (K : Nat), .slice E p kc]) elemN rfl rfl hs (Ent.skip (Ent.refl _)) RdS.blk rfl (by intro u hu; simp at hu; rcases hu with rfl | rfl <;> rfl) (by unfold maxLen; omega) (by omega) ?_; clear hs; intro B2 c2 w3 hs; replace hs := hs.rot.drop))
                  have hs2 : St w [NdsB B2 c2 (l ++ [⟨K, kl⟩])] w3 := nd_add HRs.out HLl.out HKl.out (by rw [List.append_nil]; exact hs)
                  go_roundw
                  case rel => exact ⟨j + 1, q + 1, B2, c2, l ++ [⟨K, kl⟩], by omega, by omega, rfl, by go_num, by rw [Hid, List.length_append, HLl.out]; rfl, by omega, hok2.out, hs2⟩
                  case measure => simp [intOf] <;> omega
                · clear hp1
                  obtain ⟨rs, hrs, hs⟩ := hs.rot.ndopen2
                  have HRs := Lib.hid hrs
                  rw [HLl.out] at hs
                  clear hrs
                  go_wp2_with (first
                    | (refine wpl_buildS (build_nodeE _ _ _ _) rfl ?_)
                    | (refine wpl_build1 (v := .agg #[.int .i64 (K : Nat), .slice E p kc]) elemN (by decide) rfl rfl hs ?_; clear hs; intro gb w3 hs; replace hs : St w (Ytkcbjkadalebjaa.blk gb #[.int .i64 (K : Nat), .slice E p kc] 38 :: _) w3 := hs)
                    | (refine wpl_append (A := B) (B := some ⟨gb, 0, none⟩) (n := q) (m := 1) (news := [.int .i64 (K : Nat), .slice E p kc]) elemN rfl rfl hs (Ent.skip (Ent.refl _)) RdS.blk rfl (by intro u hu; simp at hu; rcases hu with rfl | rfl <;> rfl) (by unfold maxLen; omega) (by omega) ?_; clear hs; intro B2 c2 w3 hs; replace hs := hs.rot.drop))
                  have hs2 : St w [NdsB B2 c2 (l ++ [⟨K, kl⟩])] w3 := nd_add HRs.out HLl.out HKl.out (by rw [List.append_nil]; exact hs)
                  go_roundw
                  case rel => exact ⟨j + 1, q + 1, B2, c2, l ++ [⟨K, kl⟩], by omega, by omega, rfl, by go_num, by rw [Hid, List.length_append, HLl.out]; rfl, by omega, hok2.out, hs2⟩
                  case measure => simp [intOf] <;> omega
        · by_cases h6 : j < n
          · have d1 : decide (j < n) = true := decide_eq_true h6
            have d2 : decide ((j : Int) < 12) = false := decide_eq_false (by omega)
            have HO := Lib.hid hok
            have hl18 : l.length ≤ 18 := by rw [HLl.out]; omega
            clear hlt h6 hok
            go_wp2
            go_ret
            exact ⟨B, c, l, q, rfl, HLl, HO.out, hl18, hs⟩
          · have d1 : decide (j < n) = false := decide_eq_false h6
            have HO := Lib.hid hok
            have hl18 : l.length ≤ 18 := by rw [HLl.out]; omega
            clear hlt h6 hok
            go_wp2
            go_ret
            exact ⟨B, c, l, q, rfl, HLl, HO.out, hl18, hs⟩
end Go.Proofs.Ytkcbjkadalebjaa
