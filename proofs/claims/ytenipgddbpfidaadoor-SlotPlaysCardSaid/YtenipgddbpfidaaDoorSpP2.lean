/-
  SlotPlays: the walk, its end. (Printed by gen_rgplays.py 297.)
-/
import Derived.Test.YtenipgddbpfidaaDoorSpP3
import Derived.Test.YtenipgddbpfidaaDoorSpPl
import Derived.Test.YtenipgddbpfidaaDoorJX
import Derived.Test.YtenipgddbpfidaaDoorJU
import Derived.Test.YtenipgddbpfidaaDoorPart
import Derived.Deep.DeepCutAuto
import Derived.Deep.CutRange
import Derived.Deep.CutBlock
set_option maxRecDepth 100000
namespace Go.Proofs.YtenipgddbpfidaaDoor
open Go Go.RowKit
attribute [local irreducible] wpList Calls Code.wp okI okN pS tS memS getG pG insS delS getV pV tV okVal newSl SlS.put SlS.err SlS.putU SlS.putB descE mkD mkV SlS.take SlS.set SlS.errSet SlS.get SlS.has kdE
theorem descE_cases (d : V3) : descE d = 0 ∨ descE d = 1 ∨ descE d = 9 := by
  unfold descE
  split
  · split
    · exact .inr (.inr rfl)
    · exact .inl rfl
  · exact .inr (.inl rfl)
set_option maxHeartbeats 8000000 in
theorem spp_tail {w0 w : World} {X g14 : Nat} {d : V3} {v : Value} {F : Option Nat} {A : Option Addr} {n cA : Nat} {xs : List OpS} {s0 s1 s2 s3 s5 s6 s7 s8 s9 s11 s12 s13 s16 s17 s18 s19 s20 s21 s22 s23 s24 s25 s26 s27 s28 s29 s30 s31 s32 s33 s34 s35 s36 s37 s38 s39 s40 s41 s42 s43 s44 s45 s46 s47 s48 s49 s50 s51 s52 s53 s54 s55 s56 s57 s58 s59 s60 s61 s62 s63 s64 s65 s66 s67 s68 s69 s70 s71 s72 s73 s74 s75 s76 s77 s78 s79 s80 s81 s82 s83 s84 s85 s86 s87 s88 s89 s90 s91 s92 s93 s94 s95 s96 s97 s98 s99 s100 s101 s102 s103 s104 s105 s106 s107 s108 s109 s110 s111 s112 s113 s114 s115 s116 s117 s118 s119 s120 s121 s122 s123 s124 s125 s126 s127 s128 s129 s130 s131 s132 s133 s134 s135 s136 s137 s138 s139 s140 s141 s142 s143 s144 s145 s146 s147 s148 s149 s150 s151 s152 s153 s154 s155 s156 s157 s158 s159 s160 s161 s162 s163 s164 s165 s166 s167 s168 s169 s170 s171 s172 s173 s174 s175 s176 s177 s178 s179 s180 s181 s182 s183 s184 s185 s186 s187 s188 s189 s190 s191 s192 s193 s194 s195 s196 s197 s198 s199 s200 s201 s202 s203 s204 s205 s206 s207 s208 s209 s210 s211 s212 s213 s214 s215 s216 s217 s218 s219 s220 s221 s222 s223 s224 s225 s226 s227 s228 s229 s230 s231 s232 s233 s234 s235 s236 s237 s238 s239 s240 s241 s242 s243 s244 s245 s246 s247 s248 s249 s250 s251 s252 s253 s254 s255 s256 s257 s258 s259 s260 s261 s262 s263 s264 s265 s266 s267 s268 s269 s270 s271 s272 s273 s274 s275 s276 s277 s278 s279 s280 s281 s282 s283 s284 s285 s286 s287 s288 s289 s290 s291 s292 s293 s294 s295 s296 : Value} (hT : Tab w0) (hn : Hid (xs.length = n)) (hra : RdS w0 [] A (xs.flatMap c5o)) (HQ : Hid (∀ x ∈ xs, Q5o x)) (hde : Hid (descE d = 0)) (hs : St w0 [SlB X (newSl d v F), blk g14 (c3 d).toArray 23] w) {K : Act → World → Prop} (hK : ∀ a w, Code.wp Tryd.prog (tlAt 9 bodySP) (bodyPost Tryd.prog Tryd.f3 (LawPost w0)) a w → K a w) :
    Code.wp Tryd.prog (hdAt 9 bodySP) (Exit.then K (bodyPost Tryd.prog Tryd.f3 (LawPost w0))) ⟨#[s0, s1, s2, s3, .slice A n cA, s5, s6, s7, s8, s9, .bool false, s11, s12, s13, .pointer (some ⟨g14, 0, none⟩), .pointer (some ⟨X, 0, none⟩), s16, s17, s18, s19, s20, s21, s22, s23, s24, s25, s26, s27, s28, s29, s30, s31, s32, s33, s34, s35, s36, s37, s38, s39, s40, s41, s42, s43, s44, s45, s46, s47, s48, s49, s50, s51, s52, s53, s54, s55, s56, s57, s58, s59, s60, s61, s62, s63, s64, s65, s66, s67, s68, s69, s70, s71, s72, s73, s74, s75, s76, s77, s78, s79, s80, s81, s82, s83, s84, s85, s86, s87, s88, s89, s90, s91, s92, s93, s94, s95, s96, s97, s98, s99, s100, s101, s102, s103, s104, s105, s106, s107, s108, s109, s110, s111, s112, s113, s114, s115, s116, s117, s118, s119, s120, s121, s122, s123, s124, s125, s126, s127, s128, s129, s130, s131, s132, s133, s134, s135, s136, s137, s138, s139, s140, s141, s142, s143, s144, s145, s146, s147, s148, s149, s150, s151, s152, s153, s154, s155, s156, s157, s158, s159, s160, s161, s162, s163, s164, s165, s166, s167, s168, s169, s170, s171, s172, s173, s174, s175, s176, s177, s178, s179, s180, s181, s182, s183, s184, s185, s186, s187, s188, s189, s190, s191, s192, s193, s194, s195, s196, s197, s198, s199, s200, s201, s202, s203, s204, s205, s206, s207, s208, s209, s210, s211, s212, s213, s214, s215, s216, s217, s218, s219, s220, s221, s222, s223, s224, s225, s226, s227, s228, s229, s230, s231, s232, s233, s234, s235, s236, s237, s238, s239, s240, s241, s242, s243, s244, s245, s246, s247, s248, s249, s250, s251, s252, s253, s254, s255, s256, s257, s258, s259, s260, s261, s262, s263, s264, s265, s266, s267, s268, s269, s270, s271, s272, s273, s274, s275, s276, s277, s278, s279, s280, s281, s282, s283, s284, s285, s286, s287, s288, s289, s290, s291, s292, s293, s294, s295, s296], []⟩ w := by
  conv => arg 2; whnf
  go_wp2_with (first
    | (refine wpl_load3 (v := d) rfl (has3_tail (has3_slot (t := 23))) agg3D (size3Dn (v := V3.z)) hs ?_)
    | (go_at_call 16; refine (ds_new hs d hde).mono ?_; clear hs; rintro r w ⟨D, F', rfl, hs⟩))
  conv => arg 2; whnf
  replace hs : St w0 [SlB X (newSl d v F), DsB D (newSl d (.pointer none) F'), blk g14 (c3 d).toArray 23] w := hs.ent (by (repeat first | exact Ent.refl _ | refine Ent.step (by first | exact Ent.refl _ | exact Ent.skip (Ent.refl _) | exact Ent.skip (Ent.skip (Ent.refl _)) | exact Ent.skip (Ent.skip (Ent.skip (Ent.refl _))) | exact Ent.skip (Ent.skip (Ent.skip (Ent.skip (Ent.refl _)))) | exact Ent.skip (Ent.skip (Ent.skip (Ent.skip (Ent.skip (Ent.refl _))))) | exact Ent.skip (Ent.skip (Ent.skip (Ent.skip (Ent.skip (Ent.skip (Ent.refl _)))))) | exact Ent.skip (Ent.skip (Ent.skip (Ent.skip (Ent.skip (Ent.skip (Ent.skip (Ent.refl _))))))) | exact Ent.skip (Ent.skip (Ent.skip (Ent.skip (Ent.skip (Ent.skip (Ent.skip (Ent.skip (Ent.refl _)))))))) | exact Ent.skip (Ent.skip (Ent.skip (Ent.skip (Ent.skip (Ent.skip (Ent.skip (Ent.skip (Ent.skip (Ent.refl _)))))))))) ?_))
  have hokF := hs.slwf.ok
  have hokF' := (hs.rot.dsopen).1
  obtain ⟨rdv, HRV⟩ : ∃ z : Int, Hid ((if 0 < d.b then 0 else -1) = z) := ⟨_, rfl⟩
  have hbb : 0 < d.b ∨ ¬ 0 < d.b := by omega
  obtain ⟨k0, k1, k2⟩ := Has3.facts (has3_slot (w0 := w0) (L := []) (g := g14) (v := d) (t := 23)) hs.drop.drop
  go_upto_if 107 with (fail)
  clear k0 k1 k2
  go_cut [18] from 105 to 129 (fun rv wx => ∃ s t, rv = .int .i64 rdv ∧ Hid (SpI d s t 0) ∧ St w0 [SlB X s, DsB D t, blk g14 (c3 d).toArray 23] wx)
  case first =>
    rcases hbb with hb | hb
    · obtain ⟨f, rfl⟩ := newF_some hokF hb
      obtain ⟨f', rfl⟩ := newF_some hokF' hb
      obtain rfl : rdv = 0 := by rw [← HRV.out, if_pos hb]
      have HF := newSl_F d v f
      obtain ⟨s1, HS1⟩ : ∃ u, Hid ((newSl d v (some f)).rdr = u) := ⟨_, rfl⟩
      obtain ⟨t1, HT1⟩ : ∃ u, Hid ((newSl d (.pointer none) (some f')).rdr = u) := ⟨_, rfl⟩
      have HSI : Hid (SpI d s1 t1 0) := by rw [Hid, ← HS1.out, ← HT1.out]; exact SpI.start hokF hokF'
      have HR1 : Hid ((newSl d v (some f)).F = some f ∧ (newSl d v (some f)).rds.length < 100 ∧ (newSl d v (some f)).rds.length = 0) := by unfold newSl; exact ⟨rfl, (show 0 < 100 by decide), rfl⟩
      have HR2 : Hid ((newSl d (.pointer none) (some f')).F = some f' ∧ (newSl d (.pointer none) (some f')).rds.length < 100 ∧ (newSl d (.pointer none) (some f')).rds.length = 0) := by unfold newSl; exact ⟨rfl, (show 0 < 100 by decide), rfl⟩
      have c4 : w.cell? ⟨D, 4, none⟩ = some (.pointer (some ⟨f', 0, none⟩)) := by
        have := Rd.dsf _ hs.rot
        rwa [HR2.out.1] at this
      go_wp2_with (first
        | (go_at_call 14; refine (sl_flag_v hs HF).mono ?_; rintro r w ⟨rfl, rfl⟩)
        | (go_at_call 17; refine (sl_reader hs HR1.out.1 HR1.out.2.1 (n := 0) HR1.out.2.2 HS1).mono ?_; clear hs c4; rintro r w ⟨rfl, hs⟩; have c4 : w.cell? ⟨D, 4, none⟩ = some (.pointer (some ⟨f', 0, none⟩)) := by (have := Rd.dsf _ hs.rot; rwa [HR2.out.1] at this))
        | (go_at_call 18; refine (ds_reader hs.rot HR2.out.1 HR2.out.2.1 (n := 0) HR2.out.2.2 HT1).mono ?_; clear hs c4; rintro r w ⟨rfl, hs⟩; replace hs := hs.rot))
      go_meet
      exact ⟨s1, t1, rfl, HSI, hs⟩
    · obtain rfl : rdv = -1 := by rw [← HRV.out, if_neg hb]
      have HSI := Lib.hid (SpI.start0 hokF hokF' hb)
      go_wp2
      go_meet
      exact ⟨_, _, rfl, HSI, hs⟩
  case rest =>
  clear hs hokF hokF'
  obtain ⟨s, t, rfl, HI, hs⟩ := hcut
  go_upto_region 18 with (fail)
  go_loopw [23] (fun iv wr => ∃ (k : Nat) (s t : SlS), k ≤ n ∧ k ≤ 80 ∧ iv = .int .i64 (k : Nat) ∧ Hid (SpI d s t k) ∧ St w0 [SlB X s, DsB D t, blk g14 (c3 d).toArray 23] wr) (fun iv _ => 80 - (intOf iv).toNat)
  case atStart => exact ⟨0, s, t, Nat.zero_le _, by decide, rfl, HI, hs⟩
  case round =>
    clear hs HI
    obtain ⟨k, s, t, hk, hk80, rfl, HI, hs⟩ := hrel
    go_upto_region 18 with (fail)
    go_cut [137] from 130 to 137 (fun bv wx => ∃ bb : Bool, bv = .bool bb ∧ Hid (bb = decide (k < n ∧ k < 80)) ∧ wr = wx)
    case first =>
      by_cases h1 : k < n
      · by_cases h2 : k < 80
        · go_wp2
          go_meet
          exact ⟨true, congrArg Value.bool (decide_eq_true (by omega)), by simp [Hid, h1, h2], rfl⟩
        · go_wp2
          go_meet
          exact ⟨false, congrArg Value.bool (decide_eq_false (by omega)), by simp [Hid, h1, h2], rfl⟩
      · go_wp2
        go_meet
        exact ⟨false, rfl, by simp [Hid, h1], rfl⟩
    case rest =>
    obtain ⟨bb, rfl, hbc, rfl⟩ := hcut
    cases bb
    case false =>
      go_wp2
      go_ret
      exact ⟨rfl, hs.drop.drop.drop⟩
    case true =>
      obtain ⟨hkn, hk8⟩ := of_decide_eq_true hbc.out.symm
      clear hbc
      go_upto_region 20 with (fail)
      refine spp_round hT hn hra HQ hkn hk8 HRV HI hs (by assumption) ?HN ?HC
      case HN =>
        refine Lib.hid ?_
        intros
        rename_i w s t HI hs
        go_wp2
        go_roundw
        case rel => exact ⟨k + 1, s, t, by omega, by omega, by first | rfl | go_num, Lib.hid HI, hs⟩
        case measure => simp [intOf] <;> omega
      case HC =>
        refine Lib.hid ?_
        intros
        rename_i w s t HI hs
        go_wp2
        go_roundw
        case rel => exact ⟨k + 1, s, t, by omega, by omega, by first | rfl | go_num, Lib.hid HI, hs⟩
        case measure => simp [intOf] <;> omega
end Go.Proofs.YtenipgddbpfidaaDoor
