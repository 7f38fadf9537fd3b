/-
  RegPlays: the walk, loop 4.
-/
import Derived.Test.YtmdjpeblbnbjmaaRgPl2
import Derived.Deep.DeepCutAuto
import Derived.Deep.CutBlock
set_option maxRecDepth 100000
namespace Go.Proofs.Ytmdjpeblbnbjmaa
open Go Go.RowKit
attribute [local irreducible] wpList Calls Code.wp okI okN pS tS memS getG pG insS delS getV pV tV okVal newSl SlS.put SlS.err SlS.putU SlS.putB descE mkD mkV SlS.take SlS.set SlS.errSet SlS.get SlS.has kdE ofN strL rgE dsOf
set_option maxHeartbeats 8000000 in
theorem rgp_puts {w0 w : World} {R j cd np cp : Nat} {Bd Ap : Option Addr} {ds : List V3} {l : List Cmp} {ps : List PutP} {ask : Int} {s0 s1 s4 s5 s6 s7 s8 s11 s12 s13 s14 s15 s16 s17 s18 s19 s20 s21 s22 s23 s24 s25 s26 s27 s28 s29 s30 s31 s32 s33 s34 s35 s36 s37 s38 s39 s40 s41 s42 s43 s44 s45 s46 s47 s48 s49 s50 s51 s52 s53 s54 s55 s56 s57 s58 s59 s60 s61 s62 s63 s64 s65 s66 s67 s68 s69 s70 s71 s72 s73 s74 s75 s76 s77 s78 s79 s80 s81 s82 s83 s84 s85 s86 s87 s88 s89 s90 s91 s92 s93 s94 s95 s96 s97 s98 s99 s100 s101 s102 s103 s104 s105 s106 s107 s108 s109 s110 s111 s112 s113 s114 s115 s116 s117 s118 s119 s120 s121 s122 s123 s124 s125 s126 s127 s128 s129 s130 s131 s132 s133 s134 s135 s136 s137 s138 s139 s140 s141 s142 s143 s144 s145 s146 s147 s148 s149 s150 s151 s152 s153 s154 s155 s156 s157 s158 s159 s160 s161 s162 s163 s164 s165 s166 s167 s168 s169 s170 s171 s172 s173 s174 s175 s176 s177 s178 s179 s180 s181 s182 s183 s184 s185 s186 s187 s188 s189 s190 s191 s192 s193 s194 s195 s196 s197 s198 s199 s200 s201 s202 s203 s204 s205 s206 s207 s208 s209 s210 s211 s212 s213 s214 s215 s216 s217 s218 s219 s220 s221 s222 s223 s224 s225 s226 s227 s228 s229 s230 s231 s232 s233 s234 s235 s236 s237 s238 s239 s240 s241 s242 s243 s244 s245 s246 s247 s248 s249 s250 s251 s252 s253 s254 s255 s256 s257 s258 s259 s260 s261 s262 s263 s264 s265 s266 s267 s268 s269 s270 s271 s272 s273 s274 s275 s276 s277 s278 s279 s280 s281 s282 s283 s284 s285 s286 s287 s288 s289 s290 s291 s292 s293 s294 s295 s296 s297 s298 s299 s300 s301 s302 s303 s304 s305 s306 s307 s308 s309 s310 s311 s312 s313 s314 s315 s316 s317 s318 s319 s320 s321 s322 s323 s324 s325 s326 s327 s328 s329 s330 s331 s332 s333 s334 s335 s336 s337 s338 s339 s340 s341 s342 s343 s344 s345 s346 s347 s348 s349 s350 : Value} (hnp : Hid (ps.length = np)) (hrp : RdS w0 [] Ap (ps.flatMap c2p)) (HPQ : Hid (∀ x ∈ ps, Q2p x)) (HWA : Hid ((Lit.int .i64 ask).wf = true)) (hnl : j ≤ 64) (HP0 : Hid (PuI j ds 0 (List.replicate 64 ⟨none, 0, []⟩) l))
    (hs : St w0 [own Bd j cd 28 3 (cs3 ds), RgB R l] w)
    {K : Act → World → Prop} (hK : ∀ a w, Code.wp Try.prog (tlAt 32 bodyRP) (bodyPost Try.prog Try.f5 (LawPost w0)) a w → K a w) :
    Code.wp Try.prog (hdAt 32 bodyRP) (Exit.then K (bodyPost Try.prog Try.f5 (LawPost w0))) ⟨#[s0, s1, .slice Ap np cp, .int .i64 ask, s4, s5, s6, s7, s8, .pointer (some ⟨R, 0, none⟩), .slice Bd j cd, s11, s12, s13, s14, s15, s16, s17, s18, s19, s20, s21, s22, s23, s24, s25, s26, s27, s28, s29, s30, s31, s32, s33, s34, s35, s36, s37, s38, s39, s40, s41, s42, s43, s44, s45, s46, s47, s48, s49, s50, s51, s52, s53, s54, s55, s56, s57, s58, s59, s60, s61, s62, s63, s64, s65, s66, s67, s68, s69, s70, s71, s72, s73, s74, s75, s76, s77, s78, s79, s80, s81, s82, s83, s84, s85, s86, s87, s88, s89, s90, s91, s92, s93, s94, s95, s96, s97, s98, s99, s100, s101, s102, s103, s104, s105, s106, s107, s108, s109, s110, s111, s112, s113, s114, s115, s116, s117, s118, s119, s120, s121, s122, s123, s124, s125, s126, s127, s128, s129, s130, s131, s132, s133, s134, s135, s136, s137, s138, s139, s140, s141, s142, s143, s144, s145, s146, s147, s148, s149, s150, s151, s152, s153, s154, s155, s156, s157, s158, s159, s160, s161, s162, s163, s164, s165, s166, s167, s168, s169, s170, s171, s172, s173, s174, s175, s176, s177, s178, s179, s180, s181, s182, s183, s184, s185, s186, s187, s188, s189, s190, s191, s192, s193, s194, s195, s196, s197, s198, s199, s200, s201, s202, s203, s204, s205, s206, s207, s208, s209, s210, s211, s212, s213, s214, s215, s216, s217, s218, s219, s220, s221, s222, s223, s224, s225, s226, s227, s228, s229, s230, s231, s232, s233, s234, s235, s236, s237, s238, s239, s240, s241, s242, s243, s244, s245, s246, s247, s248, s249, s250, s251, s252, s253, s254, s255, s256, s257, s258, s259, s260, s261, s262, s263, s264, s265, s266, s267, s268, s269, s270, s271, s272, s273, s274, s275, s276, s277, s278, s279, s280, s281, s282, s283, s284, s285, s286, s287, s288, s289, s290, s291, s292, s293, s294, s295, s296, s297, s298, s299, s300, s301, s302, s303, s304, s305, s306, s307, s308, s309, s310, s311, s312, s313, s314, s315, s316, s317, s318, s319, s320, s321, s322, s323, s324, s325, s326, s327, s328, s329, s330, s331, s332, s333, s334, s335, s336, s337, s338, s339, s340, s341, s342, s343, s344, s345, s346, s347, s348, s349, s350], []⟩ w := by
  conv => arg 2; whnf
  replace hs := hs_nil 64 hs
  obtain ⟨rows, hrows⟩ : ∃ r, Hid (List.replicate 64 (⟨none, 0, []⟩ : Rw) = r) := ⟨_, rfl⟩
  rw [hrows.out] at hs HP0
  go_wp2_with (first
    | (refine wpl_alloc zeroHas hs ?_; rw [hrows.out]; clear hs; intro H w hs))
  conv => arg 2; whnf
  go_upto_region 34 with (fail)
  replace hs : St w0 [own Bd j cd 28 3 (cs3 ds), RgB R l, blk H (hsC rows) 50, HsR rows] w := hs.ent (by (repeat first | exact Ent.refl _ | refine Ent.step (by first | exact Ent.refl _ | exact Ent.skip (Ent.refl _) | exact Ent.skip (Ent.skip (Ent.refl _)) | exact Ent.skip (Ent.skip (Ent.skip (Ent.refl _))) | exact Ent.skip (Ent.skip (Ent.skip (Ent.skip (Ent.refl _)))) | exact Ent.skip (Ent.skip (Ent.skip (Ent.skip (Ent.skip (Ent.refl _))))) | exact Ent.skip (Ent.skip (Ent.skip (Ent.skip (Ent.skip (Ent.skip (Ent.refl _)))))) | exact Ent.skip (Ent.skip (Ent.skip (Ent.skip (Ent.skip (Ent.skip (Ent.skip (Ent.refl _))))))) | exact Ent.skip (Ent.skip (Ent.skip (Ent.skip (Ent.skip (Ent.skip (Ent.skip (Ent.skip (Ent.refl _)))))))) | exact Ent.skip (Ent.skip (Ent.skip (Ent.skip (Ent.skip (Ent.skip (Ent.skip (Ent.skip (Ent.skip (Ent.refl _)))))))))) ?_))
  go_loopw [20] (fun iv wr => ∃ (i : Nat) (l' : List Cmp) (rows' : List Rw), i ≤ np ∧ i ≤ 60 ∧ iv = .int .i64 (i : Nat) ∧ Hid (PuI j ds i rows' l') ∧ St w0 [own Bd j cd 28 3 (cs3 ds), RgB R l', blk H (hsC rows') 50, HsR rows'] wr) (fun iv _ => 60 - (intOf iv).toNat)
  case atStart => exact ⟨0, l, rows, Nat.zero_le _, by decide, rfl, HP0, hs⟩
  case round =>
    clear hs HP0 hrows
    obtain ⟨i, l1, rows1, hi, hi60, rfl, HP, hs⟩ := hrel
    go_upto_region 34 with (fail)
    go_cut [189] (fun bv wx => ∃ bb : Bool, bv = .bool bb ∧ Hid (bb = decide (i < np ∧ i < 60)) ∧ wr = wx)
    case first =>
      by_cases h1 : i < np
      · by_cases h2 : i < 60
        · go_wp2
          go_meet
          exact ⟨true, congrArg Value.bool (decide_eq_true (by omega)), by simp [Hid, h1, h2], rfl⟩
        · go_wp2
          go_meet
          exact ⟨false, congrArg Value.bool (decide_eq_false (by omega)), by simp [Hid, h1, h2], rfl⟩
      · go_wp2
        go_meet
        exact ⟨false, rfl, by simp [Hid, h1], rfl⟩
    case rest =>
      obtain ⟨bb, rfl, hbb, rfl⟩ := hcut
      cases bb
      case true =>
        --{C
        obtain ⟨hin, hi6⟩ := of_decide_eq_true hbb.out.symm
        obtain ⟨p, hp⟩ : ∃ p, ps[i]? = some p := ⟨_, List.getElem?_eq_getElem (by rw [hnp.out]; exact hin)⟩
        obtain ⟨b, o, rfl, hpc0, hpi0⟩ := hrp.row2p hp
        obtain ⟨pc, pi⟩ := p
        clear hbb hp
        simp only at hpc0 hpi0
        have hc0 := hpc0.any _ _ hs
        have hc1 := hpi0.any _ _ hs
        by_cases hr : 0 ≤ pc ∧ pc < (j : Int)
        · skip
          obtain ⟨hr1, hr2⟩ := hr
          obtain ⟨c, rfl⟩ := Int.eq_ofNat_of_zero_le hr1
          have hcj : c < j := by omega
          obtain ⟨x, hx⟩ : ∃ x, l1[c]? = some x := ⟨_, List.getElem?_eq_getElem (by rw [HP.out.len]; exact hcj)⟩
          obtain ⟨X, s⟩ := x
          have HX := Lib.hid hx
          clear hx
          by_cases hq : 0 ≤ pi
          · by_cases hq2 : pi ≤ 65535
            · obtain ⟨q, rfl⟩ := Int.eq_ofNat_of_zero_le hq
              obtain ⟨r0, hr0, hrS, hev, hde⟩ := HP.out.at_ c (X, s) HX.out
              have hkd : ds[c]? = some s.d := HP.out.kind HX.out
              obtain ⟨v, HV⟩ : ∃ v, Hid (mkV s.d.k 5 6 = v) := ⟨_, rfl⟩
              have HE : Hid (s.err (q : Int) v = 0) := mkV_err hde (by omega) HV.out
              obtain ⟨u, HU⟩ : ∃ u, Hid (s.putU (q : Int) v = u) := ⟨_, rfl⟩
              obtain ⟨ub, HB⟩ : ∃ u, Hid (s.putB (q : Int) v = u) := ⟨_, rfl⟩
              obtain ⟨l2, HL2⟩ : ∃ l2, Hid (l1.set c (X, s.put (q : Int) v) = l2) := ⟨_, rfl⟩
              have HEV : Hid (s.evs.length < 4611686018427387904) := by
                have h5 : s.evs.length ≤ i := hev
                rw [Hid]; omega
              have hwf := rg_wf hs.rot HX.out
              have HR0 := Lib.hid hr0
              have HRS : Hid (r0.S = s.S) := hrS
              have HSO : Hid (r0.S.Pairwise (· < ·)) := by rw [Hid, hrS]; exact hwf.sorted
              have HSL : Hid (r0.S.length ≤ 65536) := by rw [Hid]; rw [hrS]; exact sorted_short hwf.sorted hwf.small
              clear hr0 hrS hev hwf
              obtain ⟨gB, rfl⟩ := hs.own_at (by omega)
              have hkc : Rd w0 [own (some ⟨gB, 0, none⟩) j cd 28 3 (cs3 ds)] ⟨gB, c * 3, none⟩ (.int .i64 s.d.k) := Rd.row3o hkd 0 _ rfl
              clear hkd
              go_upto_region 41 with (first
                | (go_at_call 12; refine (rg_slot hs.rot HX.out (X := X) rfl).mono ?_; rintro r w ⟨rfl, rfl⟩))
              clear hc0 hc1
              refine wp_region_plain [false, false, false, false, false, false, false, false, false, false, false, false, false, false, false, true, true] hs.only (by kernel_rfl) (by kernel_rfl) fun hne => ?_
              have c0 := (hpc0.any [own (some ⟨gB, 0, none⟩) j cd 28 3 (cs3 ds)]).alln
              have c1 := (hpi0.any [own (some ⟨gB, 0, none⟩) j cd 28 3 (cs3 ds)]).alln
              have c2 := hkc.alln
              simp only [pickOps]
              repeat (go_big_quiet_step (fail))
              refine wpQuiet_nil ?_
              clear hne c0 c1 c2
              simp only [chainIx]
              replace hs := hs.drew
              refine wpChainP_next rfl ?_
              go_wp2_with (first
                | (go_at_call 24; refine (lvalue_c _ _ _ HV).mono ?_; rintro r w ⟨rfl, hg⟩; replace hs := hs.grew hg; clear hg))
              refine ⟨hs.only, ?_⟩
              refine wpChain_last rfl ?_
              go_wp2_with (first
                | (go_at_call 18; refine (rg_put hs.rot HX HEV.out HU HB HE HL2).mono ?_; clear hs; rintro r w ⟨rfl, hs⟩))
              replace hs : St w0 [blk H (hsC rows1) 50, own (some ⟨gB, 0, none⟩) j cd 28 3 (cs3 ds), RgB R l2, HsR rows1] w := hs.ent (by (repeat first | exact Ent.refl _ | refine Ent.step (by first | exact Ent.refl _ | exact Ent.skip (Ent.refl _) | exact Ent.skip (Ent.skip (Ent.refl _)) | exact Ent.skip (Ent.skip (Ent.skip (Ent.refl _))) | exact Ent.skip (Ent.skip (Ent.skip (Ent.skip (Ent.refl _)))) | exact Ent.skip (Ent.skip (Ent.skip (Ent.skip (Ent.skip (Ent.refl _))))) | exact Ent.skip (Ent.skip (Ent.skip (Ent.skip (Ent.skip (Ent.skip (Ent.refl _)))))) | exact Ent.skip (Ent.skip (Ent.skip (Ent.skip (Ent.skip (Ent.skip (Ent.skip (Ent.refl _))))))) | exact Ent.skip (Ent.skip (Ent.skip (Ent.skip (Ent.skip (Ent.skip (Ent.skip (Ent.skip (Ent.refl _)))))))) | exact Ent.skip (Ent.skip (Ent.skip (Ent.skip (Ent.skip (Ent.skip (Ent.skip (Ent.skip (Ent.skip (Ent.refl _)))))))))) ?_))
              have hhc : Rd w0 [blk H (hsC rows1) 50] ⟨H, c, none⟩ (.slice r0.A r0.S.length r0.cap) := Rd.blk (hsC_get HR0.out)
              obtain ⟨m, hm⟩ : ∃ m, Hid (r0.S.length = m) := ⟨_, rfl⟩
              rw [hm.out] at hhc HSL
              refine wp_region_plain [false, false, false, false, false, false, false, false, false, false, false, false, false, false, false, false, false, true, false, true] hs.only (by kernel_rfl) (by kernel_rfl) fun hne => ?_
              have c0 := (hpc0.any [blk H (hsC rows1) 50]).alln
              have c1 := (hpi0.any [blk H (hsC rows1) 50]).alln
              have c2 := hhc.alln
              simp only [pickOps]
              repeat (go_big_quiet_step (fail))
              refine wpQuiet_nil ?_
              clear hne c0 c1 c2
              simp only [chainIx]
              replace hs := hs.drew
              replace hs := hs.ent (M := [HsR rows1, blk H (hsC rows1) 50, own (some ⟨gB, 0, none⟩) j cd 28 3 (cs3 ds), RgB R l2]) (by (repeat first | exact Ent.refl _ | refine Ent.step (by first | exact Ent.refl _ | exact Ent.skip (Ent.refl _) | exact Ent.skip (Ent.skip (Ent.refl _)) | exact Ent.skip (Ent.skip (Ent.skip (Ent.refl _))) | exact Ent.skip (Ent.skip (Ent.skip (Ent.skip (Ent.refl _)))) | exact Ent.skip (Ent.skip (Ent.skip (Ent.skip (Ent.skip (Ent.refl _))))) | exact Ent.skip (Ent.skip (Ent.skip (Ent.skip (Ent.skip (Ent.skip (Ent.refl _)))))) | exact Ent.skip (Ent.skip (Ent.skip (Ent.skip (Ent.skip (Ent.skip (Ent.skip (Ent.refl _))))))) | exact Ent.skip (Ent.skip (Ent.skip (Ent.skip (Ent.skip (Ent.skip (Ent.skip (Ent.skip (Ent.refl _)))))))) | exact Ent.skip (Ent.skip (Ent.skip (Ent.skip (Ent.skip (Ent.skip (Ent.skip (Ent.skip (Ent.skip (Ent.refl _)))))))))) ?_))
              replace hs := St.hsOut HR0.out hs
              unfold rwB at hs
              rw [hm.out] at hs
              refine wpChainP_next rfl ?_
              go_wp2_with (first
                | (go_at_call 25; refine (rwith_c HSO.out hm.out (by have := HSL.out; omega) hs q).mono ?_; clear hs; rintro r w ⟨B2, cap2, rfl, hs⟩))
              obtain ⟨r1, hr1⟩ : ∃ r1 : Rw, Hid (r1 = ⟨B2, cap2, insS q r0.S⟩) := ⟨_, rfl⟩
              obtain ⟨m1, hm1⟩ : ∃ m, Hid ((insS q r0.S).length = m) := ⟨_, rfl⟩
              have HPN : Hid (PuI j ds (i + 1) (rows1.set c r1) l2) := by
                have := HP.out.step HX.out HR0.out (v := v) (r' := r1) HE.out (by rw [hr1.out])
                rwa [HL2.out] at this
              have hWr : Wr w0 [blk H (hsC rows1) 50, own (some ⟨gB, 0, none⟩) j cd 28 3 (cs3 ds), RgB R l2, HsR (rows1.set c r1)] ⟨H, c, none⟩ (.slice B2 m1 cap2) [blk H (hsC (rows1.set c r1)) 50, own (some ⟨gB, 0, none⟩) j cd 28 3 (cs3 ds), RgB R l2, HsR (rows1.set c r1)] := by
                rw [← hsC_set, show (Value.slice B2 m1 cap2) = Value.slice r1.A r1.S.length r1.cap by rw [hr1.out, ← hm1.out]]
                exact Wr.blk (by have := hsC_get HR0.out; exact (Array.getElem?_eq_some_iff.1 this).1)
              rw [hm1.out] at hs ⊢
              replace hs : St w0 [rwB r1, HsBut rows1 c, blk H (hsC rows1) 50, own (some ⟨gB, 0, none⟩) j cd 28 3 (cs3 ds), RgB R l2] w := by
                rw [hr1.out]; unfold rwB; simp only; rw [hm1.out]; exact hs
              replace hs := St.hsIn HR0.out hs
              replace hs : St w0 [blk H (hsC rows1) 50, own (some ⟨gB, 0, none⟩) j cd 28 3 (cs3 ds), RgB R l2, HsR (rows1.set c r1)] w := hs.ent (by (repeat first | exact Ent.refl _ | refine Ent.step (by first | exact Ent.refl _ | exact Ent.skip (Ent.refl _) | exact Ent.skip (Ent.skip (Ent.refl _)) | exact Ent.skip (Ent.skip (Ent.skip (Ent.refl _))) | exact Ent.skip (Ent.skip (Ent.skip (Ent.skip (Ent.refl _)))) | exact Ent.skip (Ent.skip (Ent.skip (Ent.skip (Ent.skip (Ent.refl _))))) | exact Ent.skip (Ent.skip (Ent.skip (Ent.skip (Ent.skip (Ent.skip (Ent.refl _)))))) | exact Ent.skip (Ent.skip (Ent.skip (Ent.skip (Ent.skip (Ent.skip (Ent.skip (Ent.refl _))))))) | exact Ent.skip (Ent.skip (Ent.skip (Ent.skip (Ent.skip (Ent.skip (Ent.skip (Ent.skip (Ent.refl _)))))))) | exact Ent.skip (Ent.skip (Ent.skip (Ent.skip (Ent.skip (Ent.skip (Ent.skip (Ent.skip (Ent.skip (Ent.refl _)))))))))) ?_))
              refine ⟨hs.only, ?_⟩
              refine wpChain_last rfl ?_
              refine wpl_store (ad := ⟨H, c, none⟩) (v := .slice B2 m1 cap2) rfl rfl rfl size_rowsI hs hWr ?_
              clear hs hWr
              intro w hs
              go_wp2
              go_roundw
              case rel => exact ⟨i + 1, l2, rows1.set c r1, by omega, by omega, by first | rfl | go_num, HPN, hs.ent (by (repeat first | exact Ent.refl _ | refine Ent.step (by first | exact Ent.refl _ | exact Ent.skip (Ent.refl _) | exact Ent.skip (Ent.skip (Ent.refl _)) | exact Ent.skip (Ent.skip (Ent.skip (Ent.refl _))) | exact Ent.skip (Ent.skip (Ent.skip (Ent.skip (Ent.refl _)))) | exact Ent.skip (Ent.skip (Ent.skip (Ent.skip (Ent.skip (Ent.refl _))))) | exact Ent.skip (Ent.skip (Ent.skip (Ent.skip (Ent.skip (Ent.skip (Ent.refl _)))))) | exact Ent.skip (Ent.skip (Ent.skip (Ent.skip (Ent.skip (Ent.skip (Ent.skip (Ent.refl _))))))) | exact Ent.skip (Ent.skip (Ent.skip (Ent.skip (Ent.skip (Ent.skip (Ent.skip (Ent.skip (Ent.refl _)))))))) | exact Ent.skip (Ent.skip (Ent.skip (Ent.skip (Ent.skip (Ent.skip (Ent.skip (Ent.skip (Ent.skip (Ent.refl _)))))))))) ?_))⟩
              case measure => simp [intOf] <;> omega
            · skip
              go_wp2_with (first
                | (go_at_call 12; refine (rg_slot hs.rot HX.out (X := X) rfl).mono ?_; rintro r w ⟨rfl, rfl⟩))
              go_roundw
              case rel => exact ⟨i + 1, l1, rows1, by omega, by omega, by first | rfl | go_num, HP.out.more, hs⟩
              case measure => simp [intOf] <;> omega
          · skip
            go_wp2_with (first
              | (go_at_call 12; refine (rg_slot hs.rot HX.out (X := X) rfl).mono ?_; rintro r w ⟨rfl, rfl⟩))
            go_roundw
            case rel => exact ⟨i + 1, l1, rows1, by omega, by omega, by first | rfl | go_num, HP.out.more, hs⟩
            case measure => simp [intOf] <;> omega
        · by_cases hr0 : 0 ≤ pc
          · have hr3 : ¬ pc < (j : Int) := fun h => hr ⟨hr0, h⟩
            have hl1 : Hid (l1.length = j) := HP.out.len
            clear hr
            go_wp2_with (first
              | (go_at_call 12; refine (rg_slot_no hs.rot (c := pc) (.inr (by rw [hl1.out]; omega))).mono ?_; rintro r w ⟨rfl, rfl⟩))
            go_roundw
            case rel => exact ⟨i + 1, l1, rows1, by omega, by omega, by first | rfl | go_num, HP.out.more, hs⟩
            case measure => simp [intOf] <;> omega
          · clear hr
            go_wp2_with (first
              | (go_at_call 12; refine (rg_slot_no hs.rot (c := pc) (.inl (by omega))).mono ?_; rintro r w ⟨rfl, rfl⟩))
            go_roundw
            case rel => exact ⟨i + 1, l1, rows1, by omega, by omega, by first | rfl | go_num, HP.out.more, hs⟩
            case measure => simp [intOf] <;> omega
        --}C
      case false =>
        clear hbb hi
        replace hs : St w0 [RgB R l1, own Bd j cd 28 3 (cs3 ds), blk H (hsC rows1) 50, HsR rows1] wr := hs.rot
        go_upto_region 43 with (fail)
        go_cut [297] from 290 to 297 (fun bv wx => ∃ bb : Bool, bv = .bool bb ∧ Hid (bb = true → 0 < np) ∧ wr = wx)
        case first =>
          have hy : bits .and .i64 ask 1 = 0 ∨ bits .and .i64 ask 1 = 1 := by
            have h1 := and_1 ask
            have h2 := lo1_lt ask
            omega
          by_cases hn0 : 0 < np
          · rcases hy with hy | hy
            · go_wp2
              go_meet
              exact ⟨true, rfl, fun _ => hn0, rfl⟩
            · go_wp2
              go_meet
              exact ⟨false, rfl, (by intro h; cases h), rfl⟩
          · clear hy
            go_wp2
            go_meet
            exact ⟨false, rfl, (by intro h; cases h), rfl⟩
        case rest =>
        obtain ⟨bb, rfl, hbn, rfl⟩ := hcut
        go_upto_if 297 with (fail)
        go_cut [3] from 298 to 306 (fun av wx => ∃ a : Int, av = .int .i64 a ∧ Hid ((Lit.int .i64 a).wf = true) ∧ wr = wx)
        case first =>
          cases bb
          · go_wp2
            go_meet
            exact ⟨ask, rfl, HWA, rfl⟩
          · have hn0 := hbn.out rfl
            have hand := and_ffff ask
            have hkl := kx_lt ask
            generalize kx ask = r at hand hkl
            obtain ⟨q, hq⟩ : ∃ q, r % np = q := ⟨_, rfl⟩
            have hqn : q < np := by rw [← hq]; exact Nat.mod_lt _ hn0
            have hrm : (r : Int) % (np : Int) = (q : Int) := by rw [← hq]; simp
            have hrt : Int.tmod (r : Int) (np : Int) = (q : Int) := by rw [Int.tmod_eq_emod_of_nonneg (by omega)]; exact hrm
            obtain ⟨p, hp⟩ : ∃ p, ps[q]? = some p := ⟨_, List.getElem?_eq_getElem (by rw [hnp.out]; exact hqn)⟩
            obtain ⟨b, o, rfl, -, hpi0⟩ := hrp.row2p hp
            have hc1 := hpi0.any _ _ hs
            have HW : Hid ((Lit.int .i64 p.i).wf = true) := HPQ.out p (List.mem_of_getElem? hp)
            clear hq hp
            go_wp2
            go_meet
            exact ⟨p.i, rfl, HW, rfl⟩
        case rest =>
          obtain ⟨a, rfl, hwa, rfl⟩ := hcut
          go_upto_region 45 with (fail)
          exact rgp_tail hwa HP hi60 hnl hs (by assumption)
end Go.Proofs.Ytmdjpeblbnbjmaa
