/-
  RegPlays: the walk, its end.
-/
import Derived.Test.YtmdjpeblbnbjmaaJP
import Derived.Test.YtmdjpeblbnbjmaaPart
import Derived.Deep.DeepCutAuto
import Derived.Deep.CutBlock
set_option maxRecDepth 100000
namespace Go.Proofs.Ytmdjpeblbnbjmaa
open Go Go.RowKit
attribute [local irreducible] wpList Calls Code.wp okI okN pS tS memS getG pG insS delS getV pV tV okVal newSl SlS.put SlS.err SlS.putU SlS.putB descE mkD mkV SlS.take SlS.set SlS.errSet SlS.get SlS.has kdE ofN strL rgE dsOf
noncomputable def bodyRP : Code := (Try.f5.body).getD .skip
set_option maxHeartbeats 8000000 in
theorem rgp_tail {w0 wr : World} {R H j cd i : Nat} {Bd : Option Addr} {ds : List V3} {l1 : List Cmp} {rows1 : List Rw} {a : Int} {s0 s1 s2 s4 s5 s6 s7 s8 s11 s12 s13 s14 s15 s16 s17 s18 s20 s21 s22 s23 s24 s25 s26 s27 s28 s29 s30 s31 s32 s33 s34 s35 s36 s37 s38 s39 s40 s41 s42 s43 s44 s45 s46 s47 s48 s49 s50 s51 s52 s53 s54 s55 s56 s57 s58 s59 s60 s61 s62 s63 s64 s65 s66 s67 s68 s69 s70 s71 s72 s73 s74 s75 s76 s77 s78 s79 s80 s81 s82 s83 s84 s85 s86 s87 s88 s89 s90 s91 s92 s93 s94 s95 s96 s97 s98 s99 s100 s101 s102 s103 s104 s105 s106 s107 s108 s109 s110 s111 s112 s113 s114 s115 s116 s117 s118 s119 s120 s121 s122 s123 s124 s125 s126 s127 s128 s129 s130 s131 s132 s133 s134 s135 s136 s137 s138 s139 s140 s141 s142 s143 s144 s145 s146 s147 s148 s149 s150 s151 s152 s153 s154 s155 s156 s157 s158 s159 s160 s161 s162 s163 s164 s165 s166 s167 s168 s169 s170 s171 s172 s173 s174 s175 s176 s177 s178 s179 s180 s181 s182 s183 s184 s185 s186 s187 s188 s189 s190 s191 s192 s193 s194 s195 s196 s197 s198 s199 s200 s201 s202 s203 s204 s205 s206 s207 s208 s209 s210 s211 s212 s213 s214 s215 s216 s217 s218 s219 s220 s221 s222 s223 s224 s225 s226 s227 s228 s229 s230 s231 s232 s233 s234 s235 s236 s237 s238 s239 s240 s241 s242 s243 s244 s245 s246 s247 s248 s249 s250 s251 s252 s253 s254 s255 s256 s257 s258 s259 s260 s261 s262 s263 s264 s265 s266 s267 s268 s269 s270 s271 s272 s273 s274 s275 s276 s277 s278 s279 s280 s281 s282 s283 s284 s285 s286 s287 s288 s289 s290 s291 s292 s293 s294 s295 s296 s297 s298 s299 s300 s301 s302 s303 s304 s305 s306 s307 s308 s309 s310 s311 s312 s313 s314 s315 s316 s317 s318 s319 s320 s321 s322 s323 s324 s325 s326 s327 s328 s329 s330 s331 s332 s333 s334 s335 s336 s337 s338 s339 s340 s341 s342 s343 s344 s345 s346 s347 s348 s349 s350 : Value} (hwa : Hid ((Lit.int .i64 a).wf = true)) (HP : Hid (PuI j ds i rows1 l1)) (hi60 : i ≤ 60) (hnl : j ≤ 64)
    (hs : St w0 [RgB R l1, own Bd j cd 28 3 (cs3 ds), blk H (hsC rows1) 50, HsR rows1] wr)
    {K : Act → World → Prop} (hK : ∀ a w, Code.wp Try.prog (tlAt 45 bodyRP) (bodyPost Try.prog Try.f5 (LawPost w0)) a w → K a w) :
    Code.wp Try.prog (hdAt 45 bodyRP) (Exit.then K (bodyPost Try.prog Try.f5 (LawPost w0))) ⟨#[s0, s1, s2, .int .i64 a, s4, s5, s6, s7, s8, .pointer (some ⟨R, 0, none⟩), .slice Bd j cd, s11, s12, s13, s14, s15, s16, s17, s18, .pointer (some ⟨H, 0, none⟩), s20, s21, s22, s23, s24, s25, s26, s27, s28, s29, s30, s31, s32, s33, s34, s35, s36, s37, s38, s39, s40, s41, s42, s43, s44, s45, s46, s47, s48, s49, s50, s51, s52, s53, s54, s55, s56, s57, s58, s59, s60, s61, s62, s63, s64, s65, s66, s67, s68, s69, s70, s71, s72, s73, s74, s75, s76, s77, s78, s79, s80, s81, s82, s83, s84, s85, s86, s87, s88, s89, s90, s91, s92, s93, s94, s95, s96, s97, s98, s99, s100, s101, s102, s103, s104, s105, s106, s107, s108, s109, s110, s111, s112, s113, s114, s115, s116, s117, s118, s119, s120, s121, s122, s123, s124, s125, s126, s127, s128, s129, s130, s131, s132, s133, s134, s135, s136, s137, s138, s139, s140, s141, s142, s143, s144, s145, s146, s147, s148, s149, s150, s151, s152, s153, s154, s155, s156, s157, s158, s159, s160, s161, s162, s163, s164, s165, s166, s167, s168, s169, s170, s171, s172, s173, s174, s175, s176, s177, s178, s179, s180, s181, s182, s183, s184, s185, s186, s187, s188, s189, s190, s191, s192, s193, s194, s195, s196, s197, s198, s199, s200, s201, s202, s203, s204, s205, s206, s207, s208, s209, s210, s211, s212, s213, s214, s215, s216, s217, s218, s219, s220, s221, s222, s223, s224, s225, s226, s227, s228, s229, s230, s231, s232, s233, s234, s235, s236, s237, s238, s239, s240, s241, s242, s243, s244, s245, s246, s247, s248, s249, s250, s251, s252, s253, s254, s255, s256, s257, s258, s259, s260, s261, s262, s263, s264, s265, s266, s267, s268, s269, s270, s271, s272, s273, s274, s275, s276, s277, s278, s279, s280, s281, s282, s283, s284, s285, s286, s287, s288, s289, s290, s291, s292, s293, s294, s295, s296, s297, s298, s299, s300, s301, s302, s303, s304, s305, s306, s307, s308, s309, s310, s311, s312, s313, s314, s315, s316, s317, s318, s319, s320, s321, s322, s323, s324, s325, s326, s327, s328, s329, s330, s331, s332, s333, s334, s335, s336, s337, s338, s339, s340, s341, s342, s343, s344, s345, s346, s347, s348, s349, s350], []⟩ wr := by
  conv => arg 2; whnf
  go_wp2
  conv => arg 2; whnf
  have hl1 : Hid (l1.length = j) := HP.out.len
  replace hs := hs.own_nil 3 1
  go_upto_region 47 with (fail)
  go_loopw [24, 25] (fun wv cv wr => ∃ (c m cw : Nat) (W : Option Addr), c ≤ j ∧ m ≤ c ∧ wv = .slice W m cw ∧ cv = .int .i64 (c : Nat) ∧ Hid ((ofN l1 a c).length = m) ∧ St w0 [own W m cw 3 1 (nsV (ofN l1 a c)), RgB R l1, own Bd j cd 28 3 (cs3 ds), blk H (hsC rows1) 50, HsR rows1] wr) (fun _ cv _ => j - (intOf cv).toNat)
  case atStart => exact ⟨0, 0, 0, none, Nat.zero_le _, Nat.zero_le _, rfl, rfl, by unfold ofN; rfl, by rw [show ofN l1 a 0 = [] by unfold ofN; rfl]; exact hs⟩
  case round =>
    clear hs
    obtain ⟨c, m, cw, W, hc, hmc, rfl, rfl, hm, hs⟩ := hrel
    by_cases hcj : c < j
    · skip
      obtain ⟨x, hx⟩ : ∃ x, l1[c]? = some x := ⟨_, List.getElem?_eq_getElem (by rw [hl1.out]; exact hcj)⟩
      obtain ⟨r0, hr0, hrS, hev, hde⟩ := HP.out.at_ c x hx
      have hs2 : St w0 [HsR rows1, blk H (hsC rows1) 50, own W m cw 3 1 (nsV (ofN l1 a c)), RgB R l1, own Bd j cd 28 3 (cs3 ds)] wr := hs.ent (by (repeat first | exact Ent.refl _ | refine Ent.step (by first | exact Ent.refl _ | exact Ent.skip (Ent.refl _) | exact Ent.skip (Ent.skip (Ent.refl _)) | exact Ent.skip (Ent.skip (Ent.skip (Ent.refl _))) | exact Ent.skip (Ent.skip (Ent.skip (Ent.skip (Ent.refl _)))) | exact Ent.skip (Ent.skip (Ent.skip (Ent.skip (Ent.skip (Ent.refl _))))) | exact Ent.skip (Ent.skip (Ent.skip (Ent.skip (Ent.skip (Ent.skip (Ent.refl _)))))) | exact Ent.skip (Ent.skip (Ent.skip (Ent.skip (Ent.skip (Ent.skip (Ent.skip (Ent.refl _))))))) | exact Ent.skip (Ent.skip (Ent.skip (Ent.skip (Ent.skip (Ent.skip (Ent.skip (Ent.skip (Ent.refl _)))))))) | exact Ent.skip (Ent.skip (Ent.skip (Ent.skip (Ent.skip (Ent.skip (Ent.skip (Ent.skip (Ent.skip (Ent.refl _)))))))))) ?_))
      have hhc : wr.cell? ⟨H, c, none⟩ = some (.slice r0.A r0.S.length r0.cap) := (Rd.blk (hsC_get hr0)) _ hs2.rot
      have hs3 := St.hsOut hr0 hs2
      have hwf := rg_wf (hs.rot) hx
      have HSO : Hid (r0.S.Pairwise (· < ·)) := by rw [Hid, hrS]; exact hwf.sorted
      obtain ⟨m0, hm0⟩ : ∃ m, Hid (r0.S.length = m) := ⟨_, rfl⟩
      have HSL : Hid (m0 ≤ 65536) := by rw [Hid, ← hm0.out, hrS]; exact sorted_short hwf.sorted hwf.small
      rw [hm0.out] at hhc
      obtain ⟨bb, hbb⟩ : ∃ b, Hid (memS r0.S a = b) := ⟨_, rfl⟩
      have HON : Hid (ofN l1 a (c + 1) = if bb then ofN l1 a c ++ [c] else ofN l1 a c) := by
        rw [Hid, ofN_succ, ← hbb.out, hrS]
        unfold hasAt SlS.has
        rw [hx]
      unfold rwB at hs3
      rw [hm0.out] at hs3
      clear hx hr0 hrS hev hde hs2 hwf
      go_upto_if 317 with (first
        | (go_at_call 26; refine (rin_c HSO.out hm0.out (by have := HSL.out; omega) hs3 (RdS.own hs3) hbb).mono ?_; clear hs3 hhc; rintro r w ⟨rfl, hg⟩; replace hs := hs.grew hg; clear hg))
      cases bb
      · replace HON : Hid (ofN l1 a (c + 1) = ofN l1 a c) := HON
        rw [← HON.out] at hs hm
        go_wp2
        go_roundw
        case rel => exact ⟨c + 1, m, cw, W, by omega, by omega, by first | rfl | go_num, by first | rfl | go_num, hm, hs⟩
        case measure => simp [intOf] <;> omega
      · replace HON : Hid (ofN l1 a (c + 1) = ofN l1 a c ++ [c]) := HON
        go_wp2_with (first
          | (refine wpl_build1 (v := .int .i64 (c : Nat)) elemN (by decide) rfl rfl hs ?_; clear hs; intro G w hs)
          | (refine wpl_append (A := W) (n := m) (cap := cw) (xs := nsV (ofN l1 a c)) (m := 1) (news := [.int .i64 (c : Nat)]) elemN rfl rfl hs (L' := blk G (Value.int .i64 (c : Nat)).cells 3 :: RgB R l1 :: own Bd j cd 28 3 (cs3 ds) :: blk H (hsC rows1) 50 :: [HsR rows1]) (by (repeat first | exact Ent.refl _ | refine Ent.step (by first | exact Ent.refl _ | exact Ent.skip (Ent.refl _) | exact Ent.skip (Ent.skip (Ent.refl _)) | exact Ent.skip (Ent.skip (Ent.skip (Ent.refl _))) | exact Ent.skip (Ent.skip (Ent.skip (Ent.skip (Ent.refl _)))) | exact Ent.skip (Ent.skip (Ent.skip (Ent.skip (Ent.skip (Ent.refl _))))) | exact Ent.skip (Ent.skip (Ent.skip (Ent.skip (Ent.skip (Ent.skip (Ent.refl _)))))) | exact Ent.skip (Ent.skip (Ent.skip (Ent.skip (Ent.skip (Ent.skip (Ent.skip (Ent.refl _))))))) | exact Ent.skip (Ent.skip (Ent.skip (Ent.skip (Ent.skip (Ent.skip (Ent.skip (Ent.skip (Ent.refl _)))))))) | exact Ent.skip (Ent.skip (Ent.skip (Ent.skip (Ent.skip (Ent.skip (Ent.skip (Ent.skip (Ent.skip (Ent.refl _)))))))))) ?_)) RdS.blk rfl (by simp; rfl) (by unfold maxLen; omega) (by omega) ?_; clear hs; intro B3 cap3 w hs; replace hs := hs.rot.drop))
        have hns : nsV (ofN l1 a c) ++ [.int .i64 (c : Nat)] = nsV (ofN l1 a (c + 1)) := by rw [HON.out]; unfold nsV; rw [List.map_append]; rfl
        have hmN : Hid ((ofN l1 a (c + 1)).length = m + 1) := by rw [Hid, HON.out, List.length_append, hm.out]; rfl
        rw [hns] at hs
        go_roundw
        case rel => exact ⟨c + 1, m + 1, cap3, B3, by omega, by omega, by first | rfl | go_num, by first | rfl | go_num, hmN, hs⟩
        case measure => simp [intOf] <;> omega
    · skip
      obtain rfl : c = j := by omega
      obtain ⟨o, ho⟩ : ∃ o, Hid (ofN l1 a c = o) := ⟨_, rfl⟩
      obtain ⟨l2, HL2⟩ : ∃ l2, Hid (strL l1 a = l2) := ⟨_, rfl⟩
      obtain ⟨l3, HL3⟩ : ∃ l3, Hid (strL l2 a = l3) := ⟨_, rfl⟩
      have HO1 : Hid (ofN l1 a l1.length = o) := by rw [Hid, hl1.out]; exact ho.out
      have HM1 : Hid ((ofN l1 a l1.length).length = m) := by rw [Hid, hl1.out]; exact hm.out
      have HMO : Hid (o.length = m) := by rw [Hid, ← ho.out]; exact hm.out
      have HO2 : Hid (ofN l2 a l2.length = []) := by rw [Hid, ← HL2.out]; exact ofN_strL_same
      have HM2 : Hid ((ofN l2 a l2.length).length = 0) := by rw [Hid, HO2.out]; rfl
      have HEV1 : Hid (∀ x ∈ l1, x.2.evs.length < 4611686018427387904) := fun x hx => by
        have := HP.out.ev x hx
        omega
      have HEV2 : Hid (∀ x ∈ l2, x.2.evs.length < 4611686018427387904) := fun x hx => by
        rw [← HL2.out] at hx
        have := ev_strL HP.out.ev x hx
        omega
      rw [ho.out] at hs
      replace hs := hs.rot
      clear HP hm hl1 ho hi60
      go_wp2_with (first
        | (go_at_call 28; refine (rg_of hs hwa.out HO1).mono ?_; clear hs; rintro r w ⟨B3, m3, c3, hm3, rfl, hs⟩; obtain rfl : m = m3 := (by rw [← HMO.out, ← hm3.out]))
        | (go_at_call 27; refine (rsame_c (S1 := o) (S2 := o) HMO.out HMO.out (by omega) hs (RdS.own hs) (RdS.own hs.drop.drop).tail.tail (b := true) (by simp)).mono ?_; rintro r w ⟨rfl, hg⟩; replace hs := (hs.grew hg).drop; clear hg)
        | (go_at_call 29; refine (rg_strip hs hwa.out HEV1.out HM1 HL2).mono ?_; clear hs; rintro r w ⟨rfl, hs⟩)
        | (go_at_call 28; refine (rg_of hs hwa.out HO2).mono ?_; clear hs; rintro r w ⟨B4, m4, c4, hm4, rfl, hs⟩; obtain rfl : m4 = 0 := hm4.out.symm; replace hs := hs.drop)
        | (go_at_call 29; refine (rg_strip hs hwa.out HEV2.out HM2 HL3).mono ?_; clear hs; rintro r w ⟨rfl, hs⟩)
        | (go_at_call 14; refine awake12.mono ?_; rintro r w ⟨rfl, hg⟩; replace hs := hs.grew hg; clear hg))
      go_ret
      exact ⟨rfl, hs.grew0⟩
end Go.Proofs.Ytmdjpeblbnbjmaa
