/-
  SlotPlays: the walk, a round of its loop. (Printed by gen_spp3.py.)
-/
import Derived.Test.YtenipgddbpfidaaDoorSpPl
import Derived.Test.YtenipgddbpfidaaDoorJX
import Derived.Test.YtenipgddbpfidaaDoorJU
import Derived.Test.YtenipgddbpfidaaDoorPart
import Derived.Deep.DeepCutAuto
import Derived.Deep.CutRange
import Derived.Deep.CutBlock
set_option maxRecDepth 100000
namespace Go.Proofs.YtenipgddbpfidaaDoor
open Go Go.RowKit
theorem newE_len (b : Nat) (evs : List Ev) (k : Nat) : (newE b evs k).length ≤ evs.length := by
  unfold newE
  split
  · simp
  · simp [List.length_drop]
theorem get_pv {s : SlS} : ∃ v, Hid (s.pv = v) := ⟨_, rfl⟩
attribute [local irreducible] wpList Calls Code.wp okI okN pS tS memS getG pG insS delS getV pV tV okVal newSl SlS.put SlS.err SlS.putU SlS.putB descE mkD mkV SlS.take SlS.set SlS.errSet SlS.get SlS.has kdE
noncomputable def bodySP : Code := (Tryd.f3.body).getD .skip
theorem zero5o : (Tryd.prog.info? 51).bind (·.zero) = some (.agg (c5o ⟨0, 0, V3.z⟩).toArray) := by kernel_rfl
theorem agg5o : aggB Tryd.prog 51 = true := by kernel_rfl
theorem size5o (o : OpS) : (Tryd.prog.info? 51).map (·.size) = some (c5o o).length := by kernel_rfl
theorem size5ov (o : OpS) : (Tryd.prog.info? 51).map (·.size) = some (Value.agg (c5o o).toArray).cells.size := by kernel_rfl
theorem WrA.slot5o {w0 : World} {g : Nat} {u v : OpS} {t : TypeId} {L : List As} : WrA w0 (YtenipgddbpfidaaDoor.blk g (c5o u).toArray t :: L) ⟨g, 0, none⟩ (Value.agg (c5o v).toArray).cells.toList (YtenipgddbpfidaaDoor.blk g (c5o v).toArray t :: L) := by
  have := WrA.blk (w0 := w0) (g := g) (o := 0) (cs := c5o u) (t := t) (vs := c5o v) (L := L) (by simp [c5o]) (c5o_one v)
  rwa [splice_all (by simp [c5o])] at this
set_option maxHeartbeats 8000000 in
theorem spp_round {w0 w : World} {X D g14 k : Nat} {rdv : Int} {d : V3} {A : Option Addr} {n cA : Nat} {xs : List OpS} {s t : SlS} {s0 s1 s2 s3 s5 s6 s7 s8 s9 s10 s11 s12 s13 s16 s19 s20 s21 s22 s24 s25 s26 s27 s28 s29 s30 s31 s32 s33 s34 s35 s36 s37 s38 s39 s40 s41 s42 s43 s44 s45 s46 s47 s48 s49 s50 s51 s52 s53 s54 s55 s56 s57 s58 s59 s60 s61 s62 s63 s64 s65 s66 s67 s68 s69 s70 s71 s72 s73 s74 s75 s76 s77 s78 s79 s80 s81 s82 s83 s84 s85 s86 s87 s88 s89 s90 s91 s92 s93 s94 s95 s96 s97 s98 s99 s100 s101 s102 s103 s104 s105 s106 s107 s108 s109 s110 s111 s112 s113 s114 s115 s116 s117 s118 s119 s120 s121 s122 s123 s124 s125 s126 s127 s128 s129 s130 s131 s132 s133 s134 s135 s136 s137 s138 s139 s140 s141 s142 s143 s144 s145 s146 s147 s148 s149 s150 s151 s152 s153 s154 s155 s156 s157 s158 s159 s160 s161 s162 s163 s164 s165 s166 s167 s168 s169 s170 s171 s172 s173 s174 s175 s176 s177 s178 s179 s180 s181 s182 s183 s184 s185 s186 s187 s188 s189 s190 s191 s192 s193 s194 s195 s196 s197 s198 s199 s200 s201 s202 s203 s204 s205 s206 s207 s208 s209 s210 s211 s212 s213 s214 s215 s216 s217 s218 s219 s220 s221 s222 s223 s224 s225 s226 s227 s228 s229 s230 s231 s232 s233 s234 s235 s236 s237 s238 s239 s240 s241 s242 s243 s244 s245 s246 s247 s248 s249 s250 s251 s252 s253 s254 s255 s256 s257 s258 s259 s260 s261 s262 s263 s264 s265 s266 s267 s268 s269 s270 s271 s272 s273 s274 s275 s276 s277 s278 s279 s280 s281 s282 s283 s284 s285 s286 s287 s288 s289 s290 s291 s292 s293 s294 s295 s296 : Value} (hT : Tab w0) (hn : Hid (xs.length = n)) (hra : RdS w0 [] A (xs.flatMap c5o)) (HQ : Hid (∀ x ∈ xs, Q5o x)) (hkn : k < n) (hk8 : k < 80) (HRV : Hid ((if 0 < d.b then 0 else -1) = rdv)) (HI : Hid (SpI d s t k)) (hs : St w0 [SlB X s, DsB D t, blk g14 (c3 d).toArray 23] w) {K : Act → World → Prop} {Q : Exit → Act → World → Prop} (hK : ∀ a w, Code.wp Tryd.prog (tlAt 20 bodySP) Q a w → K a w)
    (HN : Hid (∀ {u24 u25 u26 u27 u28 u29 u30 u31 u32 u33 u34 u35 u36 u37 u38 u39 u40 u41 u42 u43 u44 u45 u140 u141 u142 u143 u144 u145 u146 u147 u148 u149 u150 u151 u152 u153 u154 u155 u156 u157 u158 u159 u160 u161 u162 u163 u164 u165 u166 u167 u168 u169 u170 u171 u172 u173 u174 u175 u176 u177 u178 u179 u180 u181 u182 u183 u184 u185 u186 u187 u188 u189 u190 u191 u192 u193 u194 u195 u196 u197 u198 u199 u200 u201 u202 u203 u204 u205 u206 u207 u208 u209 u210 u211 u212 u213 u214 u215 u216 u217 u218 u219 u220 u221 u222 u223 u224 u225 u226 u227 u228 u229 u230 u231 u232 u233 u234 u235 u236 u237 u238 u239 u240 u241 u242 u243 u244 u245 u246 u247 u248 u249 u250 u251 u252 u253 u254 u255 u256 u257 u258 u259 u260 u261 u262 u263 u264 u265 u266 u267 u268 u269 u270 u271 u272 u273 u274 u275 u276 u277 u278 u279 u280 u281 u282 u283 u284 u285 u286 u287 u288 u289 u290 u291 u292 u293 u294 u295 u296 : Value} (w : World) (s t : SlS), SpI d s t (k + 1) → St w0 [SlB X s, DsB D t, blk g14 (c3 d).toArray 23] w → Q .normal ⟨#[s0, s1, s2, s3, .slice A n cA, s5, s6, s7, s8, s9, s10, s11, s12, s13, .pointer (some ⟨g14, 0, none⟩), .pointer (some ⟨X, 0, none⟩), s16, .pointer (some ⟨D, 0, none⟩), .int .i64 rdv, s19, s20, s21, s22, .int .i64 (k : Nat), u24, u25, u26, u27, u28, u29, u30, u31, u32, u33, u34, u35, u36, u37, u38, u39, u40, u41, u42, u43, u44, u45, s46, s47, s48, s49, s50, s51, s52, s53, s54, s55, s56, s57, s58, s59, s60, s61, s62, s63, s64, s65, s66, s67, s68, s69, s70, s71, s72, s73, s74, s75, s76, s77, s78, s79, s80, s81, s82, s83, s84, s85, s86, s87, s88, s89, s90, s91, s92, s93, s94, s95, s96, s97, s98, s99, s100, s101, s102, s103, s104, s105, s106, s107, s108, s109, s110, s111, s112, s113, s114, s115, s116, s117, s118, s119, s120, s121, s122, s123, s124, s125, s126, s127, s128, s129, s130, s131, s132, s133, s134, s135, s136, s137, s138, s139, u140, u141, u142, u143, u144, u145, u146, u147, u148, u149, u150, u151, u152, u153, u154, u155, u156, u157, u158, u159, u160, u161, u162, u163, u164, u165, u166, u167, u168, u169, u170, u171, u172, u173, u174, u175, u176, u177, u178, u179, u180, u181, u182, u183, u184, u185, u186, u187, u188, u189, u190, u191, u192, u193, u194, u195, u196, u197, u198, u199, u200, u201, u202, u203, u204, u205, u206, u207, u208, u209, u210, u211, u212, u213, u214, u215, u216, u217, u218, u219, u220, u221, u222, u223, u224, u225, u226, u227, u228, u229, u230, u231, u232, u233, u234, u235, u236, u237, u238, u239, u240, u241, u242, u243, u244, u245, u246, u247, u248, u249, u250, u251, u252, u253, u254, u255, u256, u257, u258, u259, u260, u261, u262, u263, u264, u265, u266, u267, u268, u269, u270, u271, u272, u273, u274, u275, u276, u277, u278, u279, u280, u281, u282, u283, u284, u285, u286, u287, u288, u289, u290, u291, u292, u293, u294, u295, u296], []⟩ w))
    (HC : Hid (∀ {u24 u25 u26 u27 u28 u29 u30 u31 u32 u33 u34 u35 u36 u37 u38 u39 u40 u41 u42 u43 u44 u45 u140 u141 u142 u143 u144 u145 u146 u147 u148 u149 u150 u151 u152 u153 u154 u155 u156 u157 u158 u159 u160 u161 u162 u163 u164 u165 u166 u167 u168 u169 u170 u171 u172 u173 u174 u175 u176 u177 u178 u179 u180 u181 u182 u183 u184 u185 u186 u187 u188 u189 u190 u191 u192 u193 u194 u195 u196 u197 u198 u199 u200 u201 u202 u203 u204 u205 u206 u207 u208 u209 u210 u211 u212 u213 u214 u215 u216 u217 u218 u219 u220 u221 u222 u223 u224 u225 u226 u227 u228 u229 u230 u231 u232 u233 u234 u235 u236 u237 u238 u239 u240 u241 u242 u243 u244 u245 u246 u247 u248 u249 u250 u251 u252 u253 u254 u255 u256 u257 u258 u259 u260 u261 u262 u263 u264 u265 u266 u267 u268 u269 u270 u271 u272 u273 u274 u275 u276 u277 u278 u279 u280 u281 u282 u283 u284 u285 u286 u287 u288 u289 u290 u291 u292 u293 u294 u295 u296 : Value} (w : World) (s t : SlS), SpI d s t (k + 1) → St w0 [SlB X s, DsB D t, blk g14 (c3 d).toArray 23] w → Q (.exit 1) ⟨#[s0, s1, s2, s3, .slice A n cA, s5, s6, s7, s8, s9, s10, s11, s12, s13, .pointer (some ⟨g14, 0, none⟩), .pointer (some ⟨X, 0, none⟩), s16, .pointer (some ⟨D, 0, none⟩), .int .i64 rdv, s19, s20, s21, s22, .int .i64 (k : Nat), u24, u25, u26, u27, u28, u29, u30, u31, u32, u33, u34, u35, u36, u37, u38, u39, u40, u41, u42, u43, u44, u45, s46, s47, s48, s49, s50, s51, s52, s53, s54, s55, s56, s57, s58, s59, s60, s61, s62, s63, s64, s65, s66, s67, s68, s69, s70, s71, s72, s73, s74, s75, s76, s77, s78, s79, s80, s81, s82, s83, s84, s85, s86, s87, s88, s89, s90, s91, s92, s93, s94, s95, s96, s97, s98, s99, s100, s101, s102, s103, s104, s105, s106, s107, s108, s109, s110, s111, s112, s113, s114, s115, s116, s117, s118, s119, s120, s121, s122, s123, s124, s125, s126, s127, s128, s129, s130, s131, s132, s133, s134, s135, s136, s137, s138, s139, u140, u141, u142, u143, u144, u145, u146, u147, u148, u149, u150, u151, u152, u153, u154, u155, u156, u157, u158, u159, u160, u161, u162, u163, u164, u165, u166, u167, u168, u169, u170, u171, u172, u173, u174, u175, u176, u177, u178, u179, u180, u181, u182, u183, u184, u185, u186, u187, u188, u189, u190, u191, u192, u193, u194, u195, u196, u197, u198, u199, u200, u201, u202, u203, u204, u205, u206, u207, u208, u209, u210, u211, u212, u213, u214, u215, u216, u217, u218, u219, u220, u221, u222, u223, u224, u225, u226, u227, u228, u229, u230, u231, u232, u233, u234, u235, u236, u237, u238, u239, u240, u241, u242, u243, u244, u245, u246, u247, u248, u249, u250, u251, u252, u253, u254, u255, u256, u257, u258, u259, u260, u261, u262, u263, u264, u265, u266, u267, u268, u269, u270, u271, u272, u273, u274, u275, u276, u277, u278, u279, u280, u281, u282, u283, u284, u285, u286, u287, u288, u289, u290, u291, u292, u293, u294, u295, u296], []⟩ w)) :
    Code.wp Tryd.prog (hdAt 20 bodySP) (Exit.then K Q) ⟨#[s0, s1, s2, s3, .slice A n cA, s5, s6, s7, s8, s9, s10, s11, s12, s13, .pointer (some ⟨g14, 0, none⟩), .pointer (some ⟨X, 0, none⟩), s16, .pointer (some ⟨D, 0, none⟩), .int .i64 rdv, s19, s20, s21, s22, .int .i64 (k : Nat), s24, s25, s26, s27, s28, s29, s30, s31, s32, s33, s34, s35, s36, s37, s38, s39, s40, s41, s42, s43, s44, s45, s46, s47, s48, s49, s50, s51, s52, s53, s54, s55, s56, s57, s58, s59, s60, s61, s62, s63, s64, s65, s66, s67, s68, s69, s70, s71, s72, s73, s74, s75, s76, s77, s78, s79, s80, s81, s82, s83, s84, s85, s86, s87, s88, s89, s90, s91, s92, s93, s94, s95, s96, s97, s98, s99, s100, s101, s102, s103, s104, s105, s106, s107, s108, s109, s110, s111, s112, s113, s114, s115, s116, s117, s118, s119, s120, s121, s122, s123, s124, s125, s126, s127, s128, s129, s130, s131, s132, s133, s134, s135, s136, s137, s138, s139, s140, s141, s142, s143, s144, s145, s146, s147, s148, s149, s150, s151, s152, s153, s154, s155, s156, s157, s158, s159, s160, s161, s162, s163, s164, s165, s166, s167, s168, s169, s170, s171, s172, s173, s174, s175, s176, s177, s178, s179, s180, s181, s182, s183, s184, s185, s186, s187, s188, s189, s190, s191, s192, s193, s194, s195, s196, s197, s198, s199, s200, s201, s202, s203, s204, s205, s206, s207, s208, s209, s210, s211, s212, s213, s214, s215, s216, s217, s218, s219, s220, s221, s222, s223, s224, s225, s226, s227, s228, s229, s230, s231, s232, s233, s234, s235, s236, s237, s238, s239, s240, s241, s242, s243, s244, s245, s246, s247, s248, s249, s250, s251, s252, s253, s254, s255, s256, s257, s258, s259, s260, s261, s262, s263, s264, s265, s266, s267, s268, s269, s270, s271, s272, s273, s274, s275, s276, s277, s278, s279, s280, s281, s282, s283, s284, s285, s286, s287, s288, s289, s290, s291, s292, s293, s294, s295, s296], []⟩ w := by
  obtain ⟨o, ho⟩ : ∃ o, xs[k]? = some o := ⟨_, List.getElem?_eq_getElem (by rw [hn.out]; exact hkn)⟩
  have HWF : (Lit.int .i64 o.i).wf = true := HQ.out o (List.mem_of_getElem? ho)
  have hcell := fun j x hx => hra.get (rows_get (C := 5) (encX := c5o) (fun _ => rfl) ho j x hx)
  obtain ⟨b9, off, rfl, _⟩ := hcell 0 _ rfl
  have hld : ∀ j x, (c5o o)[j]? = some x → Rd w0 [] ⟨b9, off + k * 5 + j, none⟩ x := fun j x hx => by
    obtain ⟨b', o', he, hr⟩ := hcell j x hx
    injection he with he
    injection he with e1 e2
    subst e1; subst e2
    rw [Nat.add_assoc]; exact hr
  clear hcell ho HQ hn hra
  obtain ⟨ok, oi, ov⟩ := o
  obtain ⟨x0, HX⟩ : ∃ x, Hid (mkV d.k ov.a ov.b = x) := ⟨_, rfl⟩
  have HLs : Hid (s.evs.length < 4611686018427387904) := by have := HI.out.len; rw [Hid]; omega
  have HLt : Hid (t.evs.length ≤ 4000000000) := by have := HI.out.len; rw [Hid, ← HI.out.al.evs]; omega
  have HAL : Hid (AlD s t) := HI.out.al
  conv => arg 2; whnf
  go_wp2_with (first
    | (refine wpl_load_agg (cs := c5o ⟨ok, oi, ov⟩) (b := b9) (o := off + k * 5) rfl agg5o (size5o _) hs ?hh ?_; case hh => exact fun j x hx => (hld j x hx).tail.tail.tail)
    | (refine wpl_alloc zero5o hs ?_; clear hs; intro g24 w hs)
    | (refine wpl_store_agg (v := .agg (c5o ⟨ok, oi, ov⟩).toArray) rfl rfl (size5ov _) hs WrA.slot5o ?_; clear hs; intro w hs))
  conv => arg 2; whnf
  clear hld
  go_upto_region 22 with (first
    | (refine wpl_load_agg (cs := c3 ov) (b := g24) (o := 2) rfl agg3 (size3n) hs ?hh ?_; case hh => exact fun j x hx => Rd.blk (by rw [Nat.add_comm]; simpa [c5o, c3] using hx))
    | (refine wpl_alloc zero3 hs ?_; clear hs; intro g25 w hs)
    | (refine wpl_store_agg (v := val3 ov) rfl rfl (size3 _) hs WrA.slot3 ?_; clear hs; intro w hs))
  have hr0 := fun L => (Rd.blk (w0 := w0) (g := g24) (k := 0) (cs := (c5o ⟨ok, oi, ov⟩).toArray) (t := 51) (L := L) (v := .int .i64 ok) rfl)
  have hr1 := fun L => (Rd.blk (w0 := w0) (g := g24) (k := 1) (cs := (c5o ⟨ok, oi, ov⟩).toArray) (t := 51) (L := L) (v := .int .i64 oi) rfl)
  replace hs : St w0 [SlB X s, DsB D t, blk g24 (c5o ⟨ok, oi, ov⟩).toArray 51, blk g25 (c3 ov).toArray 49, blk g14 (c3 d).toArray 23] w := hs.ent (by (repeat first | exact Ent.refl _ | refine Ent.step (by first | exact Ent.refl _ | exact Ent.skip (Ent.refl _) | exact Ent.skip (Ent.skip (Ent.refl _)) | exact Ent.skip (Ent.skip (Ent.skip (Ent.refl _))) | exact Ent.skip (Ent.skip (Ent.skip (Ent.skip (Ent.refl _)))) | exact Ent.skip (Ent.skip (Ent.skip (Ent.skip (Ent.skip (Ent.refl _))))) | exact Ent.skip (Ent.skip (Ent.skip (Ent.skip (Ent.skip (Ent.skip (Ent.refl _)))))) | exact Ent.skip (Ent.skip (Ent.skip (Ent.skip (Ent.skip (Ent.skip (Ent.skip (Ent.refl _))))))) | exact Ent.skip (Ent.skip (Ent.skip (Ent.skip (Ent.skip (Ent.skip (Ent.skip (Ent.skip (Ent.refl _)))))))) | exact Ent.skip (Ent.skip (Ent.skip (Ent.skip (Ent.skip (Ent.skip (Ent.skip (Ent.skip (Ent.skip (Ent.refl _)))))))))) ?_))
  have f1 := hr1 _ _ hs.drop.drop
  simp only [Act.put, List.setIfInBounds_toArray, List.set_cons_succ, List.set_cons_zero]
  go_cut [149] from 146 to 149 (fun bv wx => ∃ bb : Bool, bv = .bool bb ∧ w = wx)
  case first =>
    by_cases h13 : bits .and .i64 oi 3 = 1
    · have d13 : (bits .and .i64 oi 3 == 1) = true := by simp [h13]
      have d14 : (bits .and .i64 oi 3 != 1) = false := by simp [h13]
      go_wp2
      go_meet
      exact ⟨false, rfl, rfl⟩
    · have d13 : (bits .and .i64 oi 3 == 1) = false := by simp [h13]
      have d14 : (bits .and .i64 oi 3 != 1) = true := by simp [h13]
      go_wp2
      go_meet
      exact ⟨true, rfl, rfl⟩
  case rest =>
  obtain ⟨bb, rfl, rfl⟩ := hcut
  clear f1
  go_upto_if 149 with (fail)
  go_cut [25] from 150 to 158 (fun pv wx => pv = .pointer (some ⟨g25, 0, none⟩) ∧ ∃ v : V3, St w0 [SlB X s, DsB D t, blk g24 (c5o ⟨ok, oi, ov⟩).toArray 51, blk g25 (c3 v).toArray 49, blk g14 (c3 d).toArray 23] wx)
  case first =>
    cases bb
    · go_wp2
      go_meet
      exact ⟨rfl, ov, hs⟩
    · have f3 := (Rd.blk (w0 := w0) (g := g24) (k := 3) (cs := (c5o ⟨ok, oi, ov⟩).toArray) (t := 51) (v := .int .i64 ov.a) rfl) _ hs.drop.drop
      have f4 := (Rd.blk (w0 := w0) (g := g24) (k := 4) (cs := (c5o ⟨ok, oi, ov⟩).toArray) (t := 51) (v := .int .i64 ov.b) rfl) _ hs.drop.drop
      obtain ⟨f7, _, _⟩ := Has3.facts has3_slot hs.drop.drop.drop.drop
      go_wp2_with (first
        | (go_at_call 19; refine (lvalue_c _ _ _ HX).mono ?_; rintro r w ⟨rfl, hg⟩; replace hs := hs.grew hg; clear hg f3 f4 f7)
        | (refine wpl_store_agg (v := val3 x0) rfl rfl (size3 _) hs WrA.slot3.tail.tail.tail ?_; clear hs; intro w hs))
      go_meet
      exact ⟨rfl, x0, hs⟩
  case rest =>
  clear hs HX
  obtain ⟨rfl, v, hs⟩ := hcut
  have f0 := hr0 _ _ hs.drop.drop
  have f1 := hr1 _ _ hs.drop.drop
  by_cases k0 : ok = 0
  · have d0 : (ok == 0) = true := by simp [k0]
    clear k0
    obtain ⟨s', HS'⟩ : ∃ z, Hid (s.put oi v = z) := ⟨_, rfl⟩
    obtain ⟨t', HT'⟩ : ∃ z, Hid (t.put oi v = z) := ⟨_, rfl⟩
    obtain ⟨u, HU⟩ : ∃ z, Hid (s.putU oi v = z) := ⟨_, rfl⟩
    obtain ⟨b, HB⟩ : ∃ z, Hid (s.putB oi v = z) := ⟨_, rfl⟩
    obtain ⟨e, HE⟩ : ∃ z, Hid (s.err oi v = z) := ⟨_, rfl⟩
    have HU2 : Hid (t.putU oi v = u) := by rw [Hid, ← HAL.out.putU]; exact HU.out
    have HB2 : Hid (t.putB oi v = b) := by rw [Hid, ← HAL.out.putB]; exact HB.out
    have HE2 : Hid (t.err oi v = e) := by rw [Hid, ← HAL.out.err]; exact HE.out
    have HI' : Hid (SpI d s' t' (k + 1)) := by rw [Hid, ← HS'.out, ← HT'.out]; exact HI.out.put oi v
    have HST : Hid (t'.S = s'.S) := HI'.out.al.S.symm
    go_upto_region 31 with (fail)
    clear f0
    go_upto_region 32 with (first
      | (refine wpl_load3 (v := v) (g := g25) rfl (has3_tail (has3_tail (has3_tail (has3_slot (t := 49))))) agg3 size3n hs ?_)
      | (go_at_call 20; refine (sl_put hs HLs.out HU HB HE HS').mono ?_; clear hs f1; rintro r w ⟨rfl, hs⟩)
      | (refine wpl_alloc zero3 hs ?_; clear hs; intro g26 w hs)
      | (refine wpl_store_agg (v := val3 u) rfl rfl (size3 _) hs WrA.slot3 ?_; clear hs; intro w hs))
    replace hs : St w0 [DsB D t, blk g24 (c5o ⟨ok, oi, ov⟩).toArray 51, blk g25 (c3 v).toArray 49, SlB X s', blk g26 (c3 u).toArray 49, blk g14 (c3 d).toArray 23] w := hs.ent (by (repeat first | exact Ent.refl _ | refine Ent.step (by first | exact Ent.refl _ | exact Ent.skip (Ent.refl _) | exact Ent.skip (Ent.skip (Ent.refl _)) | exact Ent.skip (Ent.skip (Ent.skip (Ent.refl _))) | exact Ent.skip (Ent.skip (Ent.skip (Ent.skip (Ent.refl _)))) | exact Ent.skip (Ent.skip (Ent.skip (Ent.skip (Ent.skip (Ent.refl _))))) | exact Ent.skip (Ent.skip (Ent.skip (Ent.skip (Ent.skip (Ent.skip (Ent.refl _)))))) | exact Ent.skip (Ent.skip (Ent.skip (Ent.skip (Ent.skip (Ent.skip (Ent.skip (Ent.refl _))))))) | exact Ent.skip (Ent.skip (Ent.skip (Ent.skip (Ent.skip (Ent.skip (Ent.skip (Ent.skip (Ent.refl _)))))))) | exact Ent.skip (Ent.skip (Ent.skip (Ent.skip (Ent.skip (Ent.skip (Ent.skip (Ent.skip (Ent.skip (Ent.refl _)))))))))) ?_))
    have f1 := hr1 _ _ hs.drop
    go_upto_region 33 with (first
      | (refine wpl_load3 (v := v) (g := g25) rfl (has3_tail (has3_tail (has3_slot (t := 49)))) agg3 size3n hs ?_)
      | (go_at_call 21; refine (ds_put hs HLt.out HU2 HB2 HE2 HT').mono ?_; clear hs f1; rintro r w ⟨rfl, hs⟩)
      | (refine wpl_alloc zero3 hs ?_; clear hs; intro g29 w hs)
      | (refine wpl_store_agg (v := val3 u) rfl rfl (size3 _) hs WrA.slot3 ?_; clear hs; intro w hs))
    replace hs : St w0 [SlB X s', DsB D t', blk g26 (c3 u).toArray 49, blk g29 (c3 u).toArray 49, blk g24 (c5o ⟨ok, oi, ov⟩).toArray 51, blk g25 (c3 v).toArray 49, blk g14 (c3 d).toArray 23] w := hs.ent (by (repeat first | exact Ent.refl _ | refine Ent.step (by first | exact Ent.refl _ | exact Ent.skip (Ent.refl _) | exact Ent.skip (Ent.skip (Ent.refl _)) | exact Ent.skip (Ent.skip (Ent.skip (Ent.refl _))) | exact Ent.skip (Ent.skip (Ent.skip (Ent.skip (Ent.refl _)))) | exact Ent.skip (Ent.skip (Ent.skip (Ent.skip (Ent.skip (Ent.refl _))))) | exact Ent.skip (Ent.skip (Ent.skip (Ent.skip (Ent.skip (Ent.skip (Ent.refl _)))))) | exact Ent.skip (Ent.skip (Ent.skip (Ent.skip (Ent.skip (Ent.skip (Ent.skip (Ent.refl _))))))) | exact Ent.skip (Ent.skip (Ent.skip (Ent.skip (Ent.skip (Ent.skip (Ent.skip (Ent.skip (Ent.refl _)))))))) | exact Ent.skip (Ent.skip (Ent.skip (Ent.skip (Ent.skip (Ent.skip (Ent.skip (Ent.skip (Ent.skip (Ent.refl _)))))))))) ?_))
    obtain ⟨p0, p1, p2⟩ := Has3.facts (has3_tail (has3_tail (has3_slot (g := g26) (v := u) (t := 49)))) hs
    obtain ⟨q0, q1, q2⟩ := Has3.facts (has3_tail (has3_tail (has3_tail (has3_slot (g := g29) (v := u) (t := 49))))) hs
    go_upto_region 48 with (fail)
    clear p0 p1 p2 q0 q1 q2
    (go_wp2_with (first
      | (go_at_call 30; refine (masked_c hT hs HST).mono ?_; clear hs; rintro r w ⟨rfl, hs⟩)))
    exact HN.out _ _ _ HI'.out (hs.ent (M := blk g26 (c3 u).toArray 49 :: blk g29 (c3 u).toArray 49 :: blk g24 (c5o ⟨ok, oi, ov⟩).toArray 51 :: blk g25 (c3 v).toArray 49 :: [SlB X s', DsB D t', blk g14 (c3 d).toArray 23]) (by (repeat first | exact Ent.refl _ | refine Ent.step (by first | exact Ent.refl _ | exact Ent.skip (Ent.refl _) | exact Ent.skip (Ent.skip (Ent.refl _)) | exact Ent.skip (Ent.skip (Ent.skip (Ent.refl _))) | exact Ent.skip (Ent.skip (Ent.skip (Ent.skip (Ent.refl _)))) | exact Ent.skip (Ent.skip (Ent.skip (Ent.skip (Ent.skip (Ent.refl _))))) | exact Ent.skip (Ent.skip (Ent.skip (Ent.skip (Ent.skip (Ent.skip (Ent.refl _)))))) | exact Ent.skip (Ent.skip (Ent.skip (Ent.skip (Ent.skip (Ent.skip (Ent.skip (Ent.refl _))))))) | exact Ent.skip (Ent.skip (Ent.skip (Ent.skip (Ent.skip (Ent.skip (Ent.skip (Ent.skip (Ent.refl _)))))))) | exact Ent.skip (Ent.skip (Ent.skip (Ent.skip (Ent.skip (Ent.skip (Ent.skip (Ent.skip (Ent.skip (Ent.refl _)))))))))) ?_))).drop.drop.drop.drop
  · have d0 : (ok == 0) = false := by simp [k0]
    by_cases k1 : ok = 1
    · have d1 : (ok == 1) = true := by simp [k1]
      clear k0 k1
      obtain ⟨s', HS'⟩ : ∃ z, Hid (s.take oi = z) := ⟨_, rfl⟩
      obtain ⟨t', HT'⟩ : ∃ z, Hid (t.take oi = z) := ⟨_, rfl⟩
      obtain ⟨u, HU⟩ : ∃ z, Hid (s.get oi = z) := ⟨_, rfl⟩
      obtain ⟨b, HB⟩ : ∃ z, Hid (s.has oi = z) := ⟨_, rfl⟩
      have HU2 : Hid (t.get oi = u) := by rw [Hid, ← HAL.out.get]; exact HU.out
      have HB2 : Hid (t.has oi = b) := by rw [Hid, ← HAL.out.has]; exact HB.out
      have HI' : Hid (SpI d s' t' (k + 1)) := by rw [Hid, ← HS'.out, ← HT'.out]; exact HI.out.take oi
      have HST : Hid (t'.S = s'.S) := HI'.out.al.S.symm
      go_upto_region 36 with (fail)
      clear f0
      go_upto_region 37 with (first
        | (go_at_call 22; refine (sl_take hs HWF HLs.out HU HB HS').mono ?_; clear hs f1; rintro r w ⟨rfl, hs⟩)
        | (refine wpl_alloc zero3 hs ?_; clear hs; intro g26 w hs)
        | (refine wpl_store_agg (v := val3 u) rfl rfl (size3 _) hs WrA.slot3 ?_; clear hs; intro w hs))
      replace hs : St w0 [DsB D t, blk g24 (c5o ⟨ok, oi, ov⟩).toArray 51, blk g25 (c3 v).toArray 49, SlB X s', blk g26 (c3 u).toArray 49, blk g14 (c3 d).toArray 23] w := hs.ent (by (repeat first | exact Ent.refl _ | refine Ent.step (by first | exact Ent.refl _ | exact Ent.skip (Ent.refl _) | exact Ent.skip (Ent.skip (Ent.refl _)) | exact Ent.skip (Ent.skip (Ent.skip (Ent.refl _))) | exact Ent.skip (Ent.skip (Ent.skip (Ent.skip (Ent.refl _)))) | exact Ent.skip (Ent.skip (Ent.skip (Ent.skip (Ent.skip (Ent.refl _))))) | exact Ent.skip (Ent.skip (Ent.skip (Ent.skip (Ent.skip (Ent.skip (Ent.refl _)))))) | exact Ent.skip (Ent.skip (Ent.skip (Ent.skip (Ent.skip (Ent.skip (Ent.skip (Ent.refl _))))))) | exact Ent.skip (Ent.skip (Ent.skip (Ent.skip (Ent.skip (Ent.skip (Ent.skip (Ent.skip (Ent.refl _)))))))) | exact Ent.skip (Ent.skip (Ent.skip (Ent.skip (Ent.skip (Ent.skip (Ent.skip (Ent.skip (Ent.skip (Ent.refl _)))))))))) ?_))
      have f1 := hr1 _ _ hs.drop
      go_upto_region 38 with (first
        | (go_at_call 23; refine (ds_take hs HLt.out HU2 HB2 HT').mono ?_; clear hs f1; rintro r w ⟨rfl, hs⟩)
        | (refine wpl_alloc zero3 hs ?_; clear hs; intro g29 w hs)
        | (refine wpl_store_agg (v := val3 u) rfl rfl (size3 _) hs WrA.slot3 ?_; clear hs; intro w hs))
      replace hs : St w0 [SlB X s', DsB D t', blk g26 (c3 u).toArray 49, blk g29 (c3 u).toArray 49, blk g24 (c5o ⟨ok, oi, ov⟩).toArray 51, blk g25 (c3 v).toArray 49, blk g14 (c3 d).toArray 23] w := hs.ent (by (repeat first | exact Ent.refl _ | refine Ent.step (by first | exact Ent.refl _ | exact Ent.skip (Ent.refl _) | exact Ent.skip (Ent.skip (Ent.refl _)) | exact Ent.skip (Ent.skip (Ent.skip (Ent.refl _))) | exact Ent.skip (Ent.skip (Ent.skip (Ent.skip (Ent.refl _)))) | exact Ent.skip (Ent.skip (Ent.skip (Ent.skip (Ent.skip (Ent.refl _))))) | exact Ent.skip (Ent.skip (Ent.skip (Ent.skip (Ent.skip (Ent.skip (Ent.refl _)))))) | exact Ent.skip (Ent.skip (Ent.skip (Ent.skip (Ent.skip (Ent.skip (Ent.skip (Ent.refl _))))))) | exact Ent.skip (Ent.skip (Ent.skip (Ent.skip (Ent.skip (Ent.skip (Ent.skip (Ent.skip (Ent.refl _)))))))) | exact Ent.skip (Ent.skip (Ent.skip (Ent.skip (Ent.skip (Ent.skip (Ent.skip (Ent.skip (Ent.skip (Ent.refl _)))))))))) ?_))
      obtain ⟨p0, p1, p2⟩ := Has3.facts (has3_tail (has3_tail (has3_slot (g := g26) (v := u) (t := 49)))) hs
      obtain ⟨q0, q1, q2⟩ := Has3.facts (has3_tail (has3_tail (has3_tail (has3_slot (g := g29) (v := u) (t := 49))))) hs
      go_upto_region 48 with (fail)
      clear p0 p1 p2 q0 q1 q2
      (go_wp2_with (first
        | (go_at_call 30; refine (masked_c hT hs HST).mono ?_; clear hs; rintro r w ⟨rfl, hs⟩)))
      exact HN.out _ _ _ HI'.out (hs.ent (M := blk g26 (c3 u).toArray 49 :: blk g29 (c3 u).toArray 49 :: blk g24 (c5o ⟨ok, oi, ov⟩).toArray 51 :: blk g25 (c3 v).toArray 49 :: [SlB X s', DsB D t', blk g14 (c3 d).toArray 23]) (by (repeat first | exact Ent.refl _ | refine Ent.step (by first | exact Ent.refl _ | exact Ent.skip (Ent.refl _) | exact Ent.skip (Ent.skip (Ent.refl _)) | exact Ent.skip (Ent.skip (Ent.skip (Ent.refl _))) | exact Ent.skip (Ent.skip (Ent.skip (Ent.skip (Ent.refl _)))) | exact Ent.skip (Ent.skip (Ent.skip (Ent.skip (Ent.skip (Ent.refl _))))) | exact Ent.skip (Ent.skip (Ent.skip (Ent.skip (Ent.skip (Ent.skip (Ent.refl _)))))) | exact Ent.skip (Ent.skip (Ent.skip (Ent.skip (Ent.skip (Ent.skip (Ent.skip (Ent.refl _))))))) | exact Ent.skip (Ent.skip (Ent.skip (Ent.skip (Ent.skip (Ent.skip (Ent.skip (Ent.skip (Ent.refl _)))))))) | exact Ent.skip (Ent.skip (Ent.skip (Ent.skip (Ent.skip (Ent.skip (Ent.skip (Ent.skip (Ent.skip (Ent.refl _)))))))))) ?_))).drop.drop.drop.drop
    · have d1 : (ok == 1) = false := by simp [k1]
      by_cases k2 : ok = 2
      · have d2 : (ok == 2) = true := by simp [k2]
        clear k0 k1 k2
        obtain ⟨u, HU⟩ : ∃ z, Hid (s.get oi = z) := ⟨_, rfl⟩
        obtain ⟨b, HB⟩ : ∃ z, Hid (s.has oi = z) := ⟨_, rfl⟩
        have HU2 : Hid (t.get oi = u) := by rw [Hid, ← HAL.out.get]; exact HU.out
        have HB2 : Hid (t.has oi = b) := by rw [Hid, ← HAL.out.has]; exact HB.out
        have HI' : Hid (SpI d s t (k + 1)) := HI.out.more
        have HST : Hid (t.S = s.S) := HAL.out.S.symm
        obtain ⟨pv, HPV⟩ : ∃ z, Hid (s.pv = z) := ⟨_, rfl⟩
        replace hs : St w0 [SlB X s, blk g24 (c5o ⟨ok, oi, ov⟩).toArray 51, DsB D t, blk g25 (c3 v).toArray 49, blk g14 (c3 d).toArray 23] _ := hs.ent (by (repeat first | exact Ent.refl _ | refine Ent.step (by first | exact Ent.refl _ | exact Ent.skip (Ent.refl _) | exact Ent.skip (Ent.skip (Ent.refl _)) | exact Ent.skip (Ent.skip (Ent.skip (Ent.refl _))) | exact Ent.skip (Ent.skip (Ent.skip (Ent.skip (Ent.refl _)))) | exact Ent.skip (Ent.skip (Ent.skip (Ent.skip (Ent.skip (Ent.refl _))))) | exact Ent.skip (Ent.skip (Ent.skip (Ent.skip (Ent.skip (Ent.skip (Ent.refl _)))))) | exact Ent.skip (Ent.skip (Ent.skip (Ent.skip (Ent.skip (Ent.skip (Ent.skip (Ent.refl _))))))) | exact Ent.skip (Ent.skip (Ent.skip (Ent.skip (Ent.skip (Ent.skip (Ent.skip (Ent.skip (Ent.refl _)))))))) | exact Ent.skip (Ent.skip (Ent.skip (Ent.skip (Ent.skip (Ent.skip (Ent.skip (Ent.skip (Ent.skip (Ent.refl _)))))))))) ?_))
        go_upto_region 41 with (fail)
        clear f0 f1
        go_cut [36, 37] from 253 to 262 (fun pv hv wx => ∃ g36, pv = .pointer (some ⟨g36, 0, none⟩) ∧ hv = .bool b ∧ St w0 [SlB X s, blk g24 (c5o ⟨ok, oi, ov⟩).toArray 51, DsB D t, blk g36 (c3 u).toArray 49, blk g25 (c3 v).toArray 49, blk g14 (c3 d).toArray 23] wx)
        case first =>
          refine wp_all_plain (n := 7) [false, false, false, false, false, false, true, true, true, true, true, true, true] hs.only2 (by kernel_rfl) (by kernel_rfl) (by kernel_rfl) fun hne => ?_
          have c0 := (Rd.slp_v (w0 := w0) (X := X) (L := [blk g24 (c5o ⟨ok, oi, ov⟩).toArray 51]) HPV).alln
          have c1 := ((hr1 []).tail (p := SlB X s)).alln
          simp only [pickOps]
          repeat (go_big_quiet_step (fail))
          refine wpQuiet_nil ?_
          clear hne c0 c1
          replace hs := hs.drew
          refine wpAllP_next [6, 10] (by kernel_rfl) (fun c hc => ?_)
          simp only [List.mem_cons, List.not_mem_nil, or_false] at hc
          rcases hc with rfl | rfl
          · skip
            refine ⟨_, rfl, ?_⟩
            refine wpl_inv1 (v := pv) (v1 := .int .i64 oi) rfl rfl (sl_get hs HPV HWF HU HB) ?_
            rintro r w ⟨rfl, hg⟩
            replace hs := hs.grew hg
            clear hg
            refine wpList_nil ⟨rfl, hs.only2, ?_⟩
            refine wpAllP_next [7, 10] (by kernel_rfl) (fun c hc => ?_)
            simp only [List.mem_cons, List.not_mem_nil, or_false] at hc
            rcases hc with rfl | rfl
            · skip
              refine ⟨_, rfl, ?_⟩
              go_wp2
              refine ⟨hs.only2, ?_⟩
              refine wpAllP_next [8, 9, 10] (by kernel_rfl) (fun c hc => ?_)
              simp only [List.mem_cons, List.not_mem_nil, or_false] at hc
              rcases hc with rfl | rfl | rfl
              · skip
                refine ⟨_, rfl, ?_⟩
                go_wp2
                refine ⟨hs.only2, ?_⟩
                refine wpAllP_next [9, 10] (by kernel_rfl) (fun c hc => ?_)
                simp only [List.mem_cons, List.not_mem_nil, or_false] at hc
                rcases hc with rfl | rfl
                · skip
                  refine ⟨_, rfl, ?_⟩
                  go_wp2
                  refine ⟨hs.only2, ?_⟩
                  refine wpAllP_next [10] (by kernel_rfl) (fun c hc => ?_)
                  simp only [List.mem_singleton] at hc
                  subst hc
                  refine ⟨_, rfl, ?_⟩
                  refine wpl_alloc zero3 hs ?_
                  clear hs
                  intro g36 w hs
                  replace hs : St w0 (blk g36 (c3 V3.z).toArray 49 :: _) w := hs
                  replace hs : St w0 (SlB X s :: blk g24 (c5o ⟨ok, oi, ov⟩).toArray 51 :: blk g25 (c3 v).toArray 49 :: blk g36 (c3 V3.z).toArray 49 :: DsB D t :: blk g14 (c3 d).toArray 23 :: []) w := hs.ent (by (repeat first | exact Ent.refl _ | refine Ent.step (by first | exact Ent.refl _ | exact Ent.skip (Ent.refl _) | exact Ent.skip (Ent.skip (Ent.refl _)) | exact Ent.skip (Ent.skip (Ent.skip (Ent.refl _))) | exact Ent.skip (Ent.skip (Ent.skip (Ent.skip (Ent.refl _)))) | exact Ent.skip (Ent.skip (Ent.skip (Ent.skip (Ent.skip (Ent.refl _))))) | exact Ent.skip (Ent.skip (Ent.skip (Ent.skip (Ent.skip (Ent.skip (Ent.refl _)))))) | exact Ent.skip (Ent.skip (Ent.skip (Ent.skip (Ent.skip (Ent.skip (Ent.skip (Ent.refl _))))))) | exact Ent.skip (Ent.skip (Ent.skip (Ent.skip (Ent.skip (Ent.skip (Ent.skip (Ent.skip (Ent.refl _)))))))) | exact Ent.skip (Ent.skip (Ent.skip (Ent.skip (Ent.skip (Ent.skip (Ent.skip (Ent.skip (Ent.skip (Ent.refl _)))))))))) ?_))
                  refine wpList_nil ⟨rfl, hs.only2, ?_⟩
                  refine wpAllP_next [11] (by kernel_rfl) (fun c hc => ?_)
                  simp only [List.mem_singleton] at hc
                  subst hc
                  refine ⟨_, rfl, ?_⟩
                  refine wpl_store_agg (v := val3 u) rfl rfl (size3 _) (hs.ent (M := blk g36 (c3 V3.z).toArray 49 :: SlB X s :: blk g24 (c5o ⟨ok, oi, ov⟩).toArray 51 :: blk g25 (c3 v).toArray 49 :: DsB D t :: blk g14 (c3 d).toArray 23 :: []) (by (repeat first | exact Ent.refl _ | refine Ent.step (by first | exact Ent.refl _ | exact Ent.skip (Ent.refl _) | exact Ent.skip (Ent.skip (Ent.refl _)) | exact Ent.skip (Ent.skip (Ent.skip (Ent.refl _))) | exact Ent.skip (Ent.skip (Ent.skip (Ent.skip (Ent.refl _)))) | exact Ent.skip (Ent.skip (Ent.skip (Ent.skip (Ent.skip (Ent.refl _))))) | exact Ent.skip (Ent.skip (Ent.skip (Ent.skip (Ent.skip (Ent.skip (Ent.refl _)))))) | exact Ent.skip (Ent.skip (Ent.skip (Ent.skip (Ent.skip (Ent.skip (Ent.skip (Ent.refl _))))))) | exact Ent.skip (Ent.skip (Ent.skip (Ent.skip (Ent.skip (Ent.skip (Ent.skip (Ent.skip (Ent.refl _)))))))) | exact Ent.skip (Ent.skip (Ent.skip (Ent.skip (Ent.skip (Ent.skip (Ent.skip (Ent.skip (Ent.skip (Ent.refl _)))))))))) ?_))) WrA.slot3 ?_
                  clear hs
                  intro w hs
                  replace hs : St w0 (SlB X s :: blk g24 (c5o ⟨ok, oi, ov⟩).toArray 51 :: blk g25 (c3 v).toArray 49 :: blk g36 (c3 u).toArray 49 :: DsB D t :: blk g14 (c3 d).toArray 23 :: []) w := hs.ent (by (repeat first | exact Ent.refl _ | refine Ent.step (by first | exact Ent.refl _ | exact Ent.skip (Ent.refl _) | exact Ent.skip (Ent.skip (Ent.refl _)) | exact Ent.skip (Ent.skip (Ent.skip (Ent.refl _))) | exact Ent.skip (Ent.skip (Ent.skip (Ent.skip (Ent.refl _)))) | exact Ent.skip (Ent.skip (Ent.skip (Ent.skip (Ent.skip (Ent.refl _))))) | exact Ent.skip (Ent.skip (Ent.skip (Ent.skip (Ent.skip (Ent.skip (Ent.refl _)))))) | exact Ent.skip (Ent.skip (Ent.skip (Ent.skip (Ent.skip (Ent.skip (Ent.skip (Ent.refl _))))))) | exact Ent.skip (Ent.skip (Ent.skip (Ent.skip (Ent.skip (Ent.skip (Ent.skip (Ent.skip (Ent.refl _)))))))) | exact Ent.skip (Ent.skip (Ent.skip (Ent.skip (Ent.skip (Ent.skip (Ent.skip (Ent.skip (Ent.skip (Ent.refl _)))))))))) ?_))
                  refine wpList_nil ⟨rfl, hs.only2, ?_⟩
                  refine wpAll_last [12] (by kernel_rfl) (fun c hc => ?_)
                  simp only [List.mem_singleton] at hc
                  subst hc
                  refine ⟨_, rfl, ?_⟩
                  go_wp2
                  go_meet
                  exact ⟨g36, rfl, rfl, hs.ent (by (repeat first | exact Ent.refl _ | refine Ent.step (by first | exact Ent.refl _ | exact Ent.skip (Ent.refl _) | exact Ent.skip (Ent.skip (Ent.refl _)) | exact Ent.skip (Ent.skip (Ent.skip (Ent.refl _))) | exact Ent.skip (Ent.skip (Ent.skip (Ent.skip (Ent.refl _)))) | exact Ent.skip (Ent.skip (Ent.skip (Ent.skip (Ent.skip (Ent.refl _))))) | exact Ent.skip (Ent.skip (Ent.skip (Ent.skip (Ent.skip (Ent.skip (Ent.refl _)))))) | exact Ent.skip (Ent.skip (Ent.skip (Ent.skip (Ent.skip (Ent.skip (Ent.skip (Ent.refl _))))))) | exact Ent.skip (Ent.skip (Ent.skip (Ent.skip (Ent.skip (Ent.skip (Ent.skip (Ent.skip (Ent.refl _)))))))) | exact Ent.skip (Ent.skip (Ent.skip (Ent.skip (Ent.skip (Ent.skip (Ent.skip (Ent.skip (Ent.skip (Ent.refl _)))))))))) ?_))⟩
                · skip
                  refine ⟨_, rfl, ?_⟩
                  refine wpl_alloc zero3 hs ?_
                  clear hs
                  intro g36 w hs
                  replace hs : St w0 (blk g36 (c3 V3.z).toArray 49 :: _) w := hs
                  replace hs : St w0 (SlB X s :: blk g24 (c5o ⟨ok, oi, ov⟩).toArray 51 :: blk g25 (c3 v).toArray 49 :: blk g36 (c3 V3.z).toArray 49 :: DsB D t :: blk g14 (c3 d).toArray 23 :: []) w := hs.ent (by (repeat first | exact Ent.refl _ | refine Ent.step (by first | exact Ent.refl _ | exact Ent.skip (Ent.refl _) | exact Ent.skip (Ent.skip (Ent.refl _)) | exact Ent.skip (Ent.skip (Ent.skip (Ent.refl _))) | exact Ent.skip (Ent.skip (Ent.skip (Ent.skip (Ent.refl _)))) | exact Ent.skip (Ent.skip (Ent.skip (Ent.skip (Ent.skip (Ent.refl _))))) | exact Ent.skip (Ent.skip (Ent.skip (Ent.skip (Ent.skip (Ent.skip (Ent.refl _)))))) | exact Ent.skip (Ent.skip (Ent.skip (Ent.skip (Ent.skip (Ent.skip (Ent.skip (Ent.refl _))))))) | exact Ent.skip (Ent.skip (Ent.skip (Ent.skip (Ent.skip (Ent.skip (Ent.skip (Ent.skip (Ent.refl _)))))))) | exact Ent.skip (Ent.skip (Ent.skip (Ent.skip (Ent.skip (Ent.skip (Ent.skip (Ent.skip (Ent.skip (Ent.refl _)))))))))) ?_))
                  refine wpList_nil ⟨rfl, hs.only2, ?_⟩
                  refine wpAllP_next [9, 11] (by kernel_rfl) (fun c hc => ?_)
                  simp only [List.mem_cons, List.not_mem_nil, or_false] at hc
                  rcases hc with rfl | rfl
                  · skip
                    refine ⟨_, rfl, ?_⟩
                    go_wp2
                    refine ⟨hs.only2, ?_⟩
                    refine wpAllP_next [11] (by kernel_rfl) (fun c hc => ?_)
                    simp only [List.mem_singleton] at hc
                    subst hc
                    refine ⟨_, rfl, ?_⟩
                    refine wpl_store_agg (v := val3 u) rfl rfl (size3 _) (hs.ent (M := blk g36 (c3 V3.z).toArray 49 :: SlB X s :: blk g24 (c5o ⟨ok, oi, ov⟩).toArray 51 :: blk g25 (c3 v).toArray 49 :: DsB D t :: blk g14 (c3 d).toArray 23 :: []) (by (repeat first | exact Ent.refl _ | refine Ent.step (by first | exact Ent.refl _ | exact Ent.skip (Ent.refl _) | exact Ent.skip (Ent.skip (Ent.refl _)) | exact Ent.skip (Ent.skip (Ent.skip (Ent.refl _))) | exact Ent.skip (Ent.skip (Ent.skip (Ent.skip (Ent.refl _)))) | exact Ent.skip (Ent.skip (Ent.skip (Ent.skip (Ent.skip (Ent.refl _))))) | exact Ent.skip (Ent.skip (Ent.skip (Ent.skip (Ent.skip (Ent.skip (Ent.refl _)))))) | exact Ent.skip (Ent.skip (Ent.skip (Ent.skip (Ent.skip (Ent.skip (Ent.skip (Ent.refl _))))))) | exact Ent.skip (Ent.skip (Ent.skip (Ent.skip (Ent.skip (Ent.skip (Ent.skip (Ent.skip (Ent.refl _)))))))) | exact Ent.skip (Ent.skip (Ent.skip (Ent.skip (Ent.skip (Ent.skip (Ent.skip (Ent.skip (Ent.skip (Ent.refl _)))))))))) ?_))) WrA.slot3 ?_
                    clear hs
                    intro w hs
                    replace hs : St w0 (SlB X s :: blk g24 (c5o ⟨ok, oi, ov⟩).toArray 51 :: blk g25 (c3 v).toArray 49 :: blk g36 (c3 u).toArray 49 :: DsB D t :: blk g14 (c3 d).toArray 23 :: []) w := hs.ent (by (repeat first | exact Ent.refl _ | refine Ent.step (by first | exact Ent.refl _ | exact Ent.skip (Ent.refl _) | exact Ent.skip (Ent.skip (Ent.refl _)) | exact Ent.skip (Ent.skip (Ent.skip (Ent.refl _))) | exact Ent.skip (Ent.skip (Ent.skip (Ent.skip (Ent.refl _)))) | exact Ent.skip (Ent.skip (Ent.skip (Ent.skip (Ent.skip (Ent.refl _))))) | exact Ent.skip (Ent.skip (Ent.skip (Ent.skip (Ent.skip (Ent.skip (Ent.refl _)))))) | exact Ent.skip (Ent.skip (Ent.skip (Ent.skip (Ent.skip (Ent.skip (Ent.skip (Ent.refl _))))))) | exact Ent.skip (Ent.skip (Ent.skip (Ent.skip (Ent.skip (Ent.skip (Ent.skip (Ent.skip (Ent.refl _)))))))) | exact Ent.skip (Ent.skip (Ent.skip (Ent.skip (Ent.skip (Ent.skip (Ent.skip (Ent.skip (Ent.skip (Ent.refl _)))))))))) ?_))
                    refine wpList_nil ⟨rfl, hs.only2, ?_⟩
                    refine wpAll_last [12] (by kernel_rfl) (fun c hc => ?_)
                    simp only [List.mem_singleton] at hc
                    subst hc
                    refine ⟨_, rfl, ?_⟩
                    go_wp2
                    go_meet
                    exact ⟨g36, rfl, rfl, hs.ent (by (repeat first | exact Ent.refl _ | refine Ent.step (by first | exact Ent.refl _ | exact Ent.skip (Ent.refl _) | exact Ent.skip (Ent.skip (Ent.refl _)) | exact Ent.skip (Ent.skip (Ent.skip (Ent.refl _))) | exact Ent.skip (Ent.skip (Ent.skip (Ent.skip (Ent.refl _)))) | exact Ent.skip (Ent.skip (Ent.skip (Ent.skip (Ent.skip (Ent.refl _))))) | exact Ent.skip (Ent.skip (Ent.skip (Ent.skip (Ent.skip (Ent.skip (Ent.refl _)))))) | exact Ent.skip (Ent.skip (Ent.skip (Ent.skip (Ent.skip (Ent.skip (Ent.skip (Ent.refl _))))))) | exact Ent.skip (Ent.skip (Ent.skip (Ent.skip (Ent.skip (Ent.skip (Ent.skip (Ent.skip (Ent.refl _)))))))) | exact Ent.skip (Ent.skip (Ent.skip (Ent.skip (Ent.skip (Ent.skip (Ent.skip (Ent.skip (Ent.skip (Ent.refl _)))))))))) ?_))⟩
                  · skip
                    refine ⟨_, rfl, ?_⟩
                    refine wpl_store_agg (v := val3 u) rfl rfl (size3 _) (hs.ent (M := blk g36 (c3 V3.z).toArray 49 :: SlB X s :: blk g24 (c5o ⟨ok, oi, ov⟩).toArray 51 :: blk g25 (c3 v).toArray 49 :: DsB D t :: blk g14 (c3 d).toArray 23 :: []) (by (repeat first | exact Ent.refl _ | refine Ent.step (by first | exact Ent.refl _ | exact Ent.skip (Ent.refl _) | exact Ent.skip (Ent.skip (Ent.refl _)) | exact Ent.skip (Ent.skip (Ent.skip (Ent.refl _))) | exact Ent.skip (Ent.skip (Ent.skip (Ent.skip (Ent.refl _)))) | exact Ent.skip (Ent.skip (Ent.skip (Ent.skip (Ent.skip (Ent.refl _))))) | exact Ent.skip (Ent.skip (Ent.skip (Ent.skip (Ent.skip (Ent.skip (Ent.refl _)))))) | exact Ent.skip (Ent.skip (Ent.skip (Ent.skip (Ent.skip (Ent.skip (Ent.skip (Ent.refl _))))))) | exact Ent.skip (Ent.skip (Ent.skip (Ent.skip (Ent.skip (Ent.skip (Ent.skip (Ent.skip (Ent.refl _)))))))) | exact Ent.skip (Ent.skip (Ent.skip (Ent.skip (Ent.skip (Ent.skip (Ent.skip (Ent.skip (Ent.skip (Ent.refl _)))))))))) ?_))) WrA.slot3 ?_
                    clear hs
                    intro w hs
                    replace hs : St w0 (SlB X s :: blk g24 (c5o ⟨ok, oi, ov⟩).toArray 51 :: blk g25 (c3 v).toArray 49 :: blk g36 (c3 u).toArray 49 :: DsB D t :: blk g14 (c3 d).toArray 23 :: []) w := hs.ent (by (repeat first | exact Ent.refl _ | refine Ent.step (by first | exact Ent.refl _ | exact Ent.skip (Ent.refl _) | exact Ent.skip (Ent.skip (Ent.refl _)) | exact Ent.skip (Ent.skip (Ent.skip (Ent.refl _))) | exact Ent.skip (Ent.skip (Ent.skip (Ent.skip (Ent.refl _)))) | exact Ent.skip (Ent.skip (Ent.skip (Ent.skip (Ent.skip (Ent.refl _))))) | exact Ent.skip (Ent.skip (Ent.skip (Ent.skip (Ent.skip (Ent.skip (Ent.refl _)))))) | exact Ent.skip (Ent.skip (Ent.skip (Ent.skip (Ent.skip (Ent.skip (Ent.skip (Ent.refl _))))))) | exact Ent.skip (Ent.skip (Ent.skip (Ent.skip (Ent.skip (Ent.skip (Ent.skip (Ent.skip (Ent.refl _)))))))) | exact Ent.skip (Ent.skip (Ent.skip (Ent.skip (Ent.skip (Ent.skip (Ent.skip (Ent.skip (Ent.skip (Ent.refl _)))))))))) ?_))
                    refine wpList_nil ⟨rfl, hs.only2, ?_⟩
                    refine wpAllP_next [9] (by kernel_rfl) (fun c hc => ?_)
                    simp only [List.mem_singleton] at hc
                    subst hc
                    refine ⟨_, rfl, ?_⟩
                    go_wp2
                    refine ⟨hs.only2, ?_⟩
                    refine wpAll_last [12] (by kernel_rfl) (fun c hc => ?_)
                    simp only [List.mem_singleton] at hc
                    subst hc
                    refine ⟨_, rfl, ?_⟩
                    go_wp2
                    go_meet
                    exact ⟨g36, rfl, rfl, hs.ent (by (repeat first | exact Ent.refl _ | refine Ent.step (by first | exact Ent.refl _ | exact Ent.skip (Ent.refl _) | exact Ent.skip (Ent.skip (Ent.refl _)) | exact Ent.skip (Ent.skip (Ent.skip (Ent.refl _))) | exact Ent.skip (Ent.skip (Ent.skip (Ent.skip (Ent.refl _)))) | exact Ent.skip (Ent.skip (Ent.skip (Ent.skip (Ent.skip (Ent.refl _))))) | exact Ent.skip (Ent.skip (Ent.skip (Ent.skip (Ent.skip (Ent.skip (Ent.refl _)))))) | exact Ent.skip (Ent.skip (Ent.skip (Ent.skip (Ent.skip (Ent.skip (Ent.skip (Ent.refl _))))))) | exact Ent.skip (Ent.skip (Ent.skip (Ent.skip (Ent.skip (Ent.skip (Ent.skip (Ent.skip (Ent.refl _)))))))) | exact Ent.skip (Ent.skip (Ent.skip (Ent.skip (Ent.skip (Ent.skip (Ent.skip (Ent.skip (Ent.skip (Ent.refl _)))))))))) ?_))⟩
              · skip
                refine ⟨_, rfl, ?_⟩
                go_wp2
                refine ⟨hs.only2, ?_⟩
                refine wpAllP_next [8, 10] (by kernel_rfl) (fun c hc => ?_)
                simp only [List.mem_cons, List.not_mem_nil, or_false] at hc
                rcases hc with rfl | rfl
                · skip
                  refine ⟨_, rfl, ?_⟩
                  go_wp2
                  refine ⟨hs.only2, ?_⟩
                  refine wpAllP_next [10] (by kernel_rfl) (fun c hc => ?_)
                  simp only [List.mem_singleton] at hc
                  subst hc
                  refine ⟨_, rfl, ?_⟩
                  refine wpl_alloc zero3 hs ?_
                  clear hs
                  intro g36 w hs
                  replace hs : St w0 (blk g36 (c3 V3.z).toArray 49 :: _) w := hs
                  replace hs : St w0 (SlB X s :: blk g24 (c5o ⟨ok, oi, ov⟩).toArray 51 :: blk g25 (c3 v).toArray 49 :: blk g36 (c3 V3.z).toArray 49 :: DsB D t :: blk g14 (c3 d).toArray 23 :: []) w := hs.ent (by (repeat first | exact Ent.refl _ | refine Ent.step (by first | exact Ent.refl _ | exact Ent.skip (Ent.refl _) | exact Ent.skip (Ent.skip (Ent.refl _)) | exact Ent.skip (Ent.skip (Ent.skip (Ent.refl _))) | exact Ent.skip (Ent.skip (Ent.skip (Ent.skip (Ent.refl _)))) | exact Ent.skip (Ent.skip (Ent.skip (Ent.skip (Ent.skip (Ent.refl _))))) | exact Ent.skip (Ent.skip (Ent.skip (Ent.skip (Ent.skip (Ent.skip (Ent.refl _)))))) | exact Ent.skip (Ent.skip (Ent.skip (Ent.skip (Ent.skip (Ent.skip (Ent.skip (Ent.refl _))))))) | exact Ent.skip (Ent.skip (Ent.skip (Ent.skip (Ent.skip (Ent.skip (Ent.skip (Ent.skip (Ent.refl _)))))))) | exact Ent.skip (Ent.skip (Ent.skip (Ent.skip (Ent.skip (Ent.skip (Ent.skip (Ent.skip (Ent.skip (Ent.refl _)))))))))) ?_))
                  refine wpList_nil ⟨rfl, hs.only2, ?_⟩
                  refine wpAllP_next [11] (by kernel_rfl) (fun c hc => ?_)
                  simp only [List.mem_singleton] at hc
                  subst hc
                  refine ⟨_, rfl, ?_⟩
                  refine wpl_store_agg (v := val3 u) rfl rfl (size3 _) (hs.ent (M := blk g36 (c3 V3.z).toArray 49 :: SlB X s :: blk g24 (c5o ⟨ok, oi, ov⟩).toArray 51 :: blk g25 (c3 v).toArray 49 :: DsB D t :: blk g14 (c3 d).toArray 23 :: []) (by (repeat first | exact Ent.refl _ | refine Ent.step (by first | exact Ent.refl _ | exact Ent.skip (Ent.refl _) | exact Ent.skip (Ent.skip (Ent.refl _)) | exact Ent.skip (Ent.skip (Ent.skip (Ent.refl _))) | exact Ent.skip (Ent.skip (Ent.skip (Ent.skip (Ent.refl _)))) | exact Ent.skip (Ent.skip (Ent.skip (Ent.skip (Ent.skip (Ent.refl _))))) | exact Ent.skip (Ent.skip (Ent.skip (Ent.skip (Ent.skip (Ent.skip (Ent.refl _)))))) | exact Ent.skip (Ent.skip (Ent.skip (Ent.skip (Ent.skip (Ent.skip (Ent.skip (Ent.refl _))))))) | exact Ent.skip (Ent.skip (Ent.skip (Ent.skip (Ent.skip (Ent.skip (Ent.skip (Ent.skip (Ent.refl _)))))))) | exact Ent.skip (Ent.skip (Ent.skip (Ent.skip (Ent.skip (Ent.skip (Ent.skip (Ent.skip (Ent.skip (Ent.refl _)))))))))) ?_))) WrA.slot3 ?_
                  clear hs
                  intro w hs
                  replace hs : St w0 (SlB X s :: blk g24 (c5o ⟨ok, oi, ov⟩).toArray 51 :: blk g25 (c3 v).toArray 49 :: blk g36 (c3 u).toArray 49 :: DsB D t :: blk g14 (c3 d).toArray 23 :: []) w := hs.ent (by (repeat first | exact Ent.refl _ | refine Ent.step (by first | exact Ent.refl _ | exact Ent.skip (Ent.refl _) | exact Ent.skip (Ent.skip (Ent.refl _)) | exact Ent.skip (Ent.skip (Ent.skip (Ent.refl _))) | exact Ent.skip (Ent.skip (Ent.skip (Ent.skip (Ent.refl _)))) | exact Ent.skip (Ent.skip (Ent.skip (Ent.skip (Ent.skip (Ent.refl _))))) | exact Ent.skip (Ent.skip (Ent.skip (Ent.skip (Ent.skip (Ent.skip (Ent.refl _)))))) | exact Ent.skip (Ent.skip (Ent.skip (Ent.skip (Ent.skip (Ent.skip (Ent.skip (Ent.refl _))))))) | exact Ent.skip (Ent.skip (Ent.skip (Ent.skip (Ent.skip (Ent.skip (Ent.skip (Ent.skip (Ent.refl _)))))))) | exact Ent.skip (Ent.skip (Ent.skip (Ent.skip (Ent.skip (Ent.skip (Ent.skip (Ent.skip (Ent.skip (Ent.refl _)))))))))) ?_))
                  refine wpList_nil ⟨rfl, hs.only2, ?_⟩
                  refine wpAll_last [12] (by kernel_rfl) (fun c hc => ?_)
                  simp only [List.mem_singleton] at hc
                  subst hc
                  refine ⟨_, rfl, ?_⟩
                  go_wp2
                  go_meet
                  exact ⟨g36, rfl, rfl, hs.ent (by (repeat first | exact Ent.refl _ | refine Ent.step (by first | exact Ent.refl _ | exact Ent.skip (Ent.refl _) | exact Ent.skip (Ent.skip (Ent.refl _)) | exact Ent.skip (Ent.skip (Ent.skip (Ent.refl _))) | exact Ent.skip (Ent.skip (Ent.skip (Ent.skip (Ent.refl _)))) | exact Ent.skip (Ent.skip (Ent.skip (Ent.skip (Ent.skip (Ent.refl _))))) | exact Ent.skip (Ent.skip (Ent.skip (Ent.skip (Ent.skip (Ent.skip (Ent.refl _)))))) | exact Ent.skip (Ent.skip (Ent.skip (Ent.skip (Ent.skip (Ent.skip (Ent.skip (Ent.refl _))))))) | exact Ent.skip (Ent.skip (Ent.skip (Ent.skip (Ent.skip (Ent.skip (Ent.skip (Ent.skip (Ent.refl _)))))))) | exact Ent.skip (Ent.skip (Ent.skip (Ent.skip (Ent.skip (Ent.skip (Ent.skip (Ent.skip (Ent.skip (Ent.refl _)))))))))) ?_))⟩
                · skip
                  refine ⟨_, rfl, ?_⟩
                  refine wpl_alloc zero3 hs ?_
                  clear hs
                  intro g36 w hs
                  replace hs : St w0 (blk g36 (c3 V3.z).toArray 49 :: _) w := hs
                  replace hs : St w0 (SlB X s :: blk g24 (c5o ⟨ok, oi, ov⟩).toArray 51 :: blk g25 (c3 v).toArray 49 :: blk g36 (c3 V3.z).toArray 49 :: DsB D t :: blk g14 (c3 d).toArray 23 :: []) w := hs.ent (by (repeat first | exact Ent.refl _ | refine Ent.step (by first | exact Ent.refl _ | exact Ent.skip (Ent.refl _) | exact Ent.skip (Ent.skip (Ent.refl _)) | exact Ent.skip (Ent.skip (Ent.skip (Ent.refl _))) | exact Ent.skip (Ent.skip (Ent.skip (Ent.skip (Ent.refl _)))) | exact Ent.skip (Ent.skip (Ent.skip (Ent.skip (Ent.skip (Ent.refl _))))) | exact Ent.skip (Ent.skip (Ent.skip (Ent.skip (Ent.skip (Ent.skip (Ent.refl _)))))) | exact Ent.skip (Ent.skip (Ent.skip (Ent.skip (Ent.skip (Ent.skip (Ent.skip (Ent.refl _))))))) | exact Ent.skip (Ent.skip (Ent.skip (Ent.skip (Ent.skip (Ent.skip (Ent.skip (Ent.skip (Ent.refl _)))))))) | exact Ent.skip (Ent.skip (Ent.skip (Ent.skip (Ent.skip (Ent.skip (Ent.skip (Ent.skip (Ent.skip (Ent.refl _)))))))))) ?_))
                  refine wpList_nil ⟨rfl, hs.only2, ?_⟩
                  refine wpAllP_next [8] (by kernel_rfl) (fun c hc => ?_)
                  simp only [List.mem_singleton] at hc
                  subst hc
                  refine ⟨_, rfl, ?_⟩
                  go_wp2
                  refine ⟨hs.only2, ?_⟩
                  refine wpAllP_next [11] (by kernel_rfl) (fun c hc => ?_)
                  simp only [List.mem_singleton] at hc
                  subst hc
                  refine ⟨_, rfl, ?_⟩
                  refine wpl_store_agg (v := val3 u) rfl rfl (size3 _) (hs.ent (M := blk g36 (c3 V3.z).toArray 49 :: SlB X s :: blk g24 (c5o ⟨ok, oi, ov⟩).toArray 51 :: blk g25 (c3 v).toArray 49 :: DsB D t :: blk g14 (c3 d).toArray 23 :: []) (by (repeat first | exact Ent.refl _ | refine Ent.step (by first | exact Ent.refl _ | exact Ent.skip (Ent.refl _) | exact Ent.skip (Ent.skip (Ent.refl _)) | exact Ent.skip (Ent.skip (Ent.skip (Ent.refl _))) | exact Ent.skip (Ent.skip (Ent.skip (Ent.skip (Ent.refl _)))) | exact Ent.skip (Ent.skip (Ent.skip (Ent.skip (Ent.skip (Ent.refl _))))) | exact Ent.skip (Ent.skip (Ent.skip (Ent.skip (Ent.skip (Ent.skip (Ent.refl _)))))) | exact Ent.skip (Ent.skip (Ent.skip (Ent.skip (Ent.skip (Ent.skip (Ent.skip (Ent.refl _))))))) | exact Ent.skip (Ent.skip (Ent.skip (Ent.skip (Ent.skip (Ent.skip (Ent.skip (Ent.skip (Ent.refl _)))))))) | exact Ent.skip (Ent.skip (Ent.skip (Ent.skip (Ent.skip (Ent.skip (Ent.skip (Ent.skip (Ent.skip (Ent.refl _)))))))))) ?_))) WrA.slot3 ?_
                  clear hs
                  intro w hs
                  replace hs : St w0 (SlB X s :: blk g24 (c5o ⟨ok, oi, ov⟩).toArray 51 :: blk g25 (c3 v).toArray 49 :: blk g36 (c3 u).toArray 49 :: DsB D t :: blk g14 (c3 d).toArray 23 :: []) w := hs.ent (by (repeat first | exact Ent.refl _ | refine Ent.step (by first | exact Ent.refl _ | exact Ent.skip (Ent.refl _) | exact Ent.skip (Ent.skip (Ent.refl _)) | exact Ent.skip (Ent.skip (Ent.skip (Ent.refl _))) | exact Ent.skip (Ent.skip (Ent.skip (Ent.skip (Ent.refl _)))) | exact Ent.skip (Ent.skip (Ent.skip (Ent.skip (Ent.skip (Ent.refl _))))) | exact Ent.skip (Ent.skip (Ent.skip (Ent.skip (Ent.skip (Ent.skip (Ent.refl _)))))) | exact Ent.skip (Ent.skip (Ent.skip (Ent.skip (Ent.skip (Ent.skip (Ent.skip (Ent.refl _))))))) | exact Ent.skip (Ent.skip (Ent.skip (Ent.skip (Ent.skip (Ent.skip (Ent.skip (Ent.skip (Ent.refl _)))))))) | exact Ent.skip (Ent.skip (Ent.skip (Ent.skip (Ent.skip (Ent.skip (Ent.skip (Ent.skip (Ent.skip (Ent.refl _)))))))))) ?_))
                  refine wpList_nil ⟨rfl, hs.only2, ?_⟩
                  refine wpAll_last [12] (by kernel_rfl) (fun c hc => ?_)
                  simp only [List.mem_singleton] at hc
                  subst hc
                  refine ⟨_, rfl, ?_⟩
                  go_wp2
                  go_meet
                  exact ⟨g36, rfl, rfl, hs.ent (by (repeat first | exact Ent.refl _ | refine Ent.step (by first | exact Ent.refl _ | exact Ent.skip (Ent.refl _) | exact Ent.skip (Ent.skip (Ent.refl _)) | exact Ent.skip (Ent.skip (Ent.skip (Ent.refl _))) | exact Ent.skip (Ent.skip (Ent.skip (Ent.skip (Ent.refl _)))) | exact Ent.skip (Ent.skip (Ent.skip (Ent.skip (Ent.skip (Ent.refl _))))) | exact Ent.skip (Ent.skip (Ent.skip (Ent.skip (Ent.skip (Ent.skip (Ent.refl _)))))) | exact Ent.skip (Ent.skip (Ent.skip (Ent.skip (Ent.skip (Ent.skip (Ent.skip (Ent.refl _))))))) | exact Ent.skip (Ent.skip (Ent.skip (Ent.skip (Ent.skip (Ent.skip (Ent.skip (Ent.skip (Ent.refl _)))))))) | exact Ent.skip (Ent.skip (Ent.skip (Ent.skip (Ent.skip (Ent.skip (Ent.skip (Ent.skip (Ent.skip (Ent.refl _)))))))))) ?_))⟩
              · skip
                refine ⟨_, rfl, ?_⟩
                refine wpl_alloc zero3 hs ?_
                clear hs
                intro g36 w hs
                replace hs : St w0 (blk g36 (c3 V3.z).toArray 49 :: _) w := hs
                replace hs : St w0 (SlB X s :: blk g24 (c5o ⟨ok, oi, ov⟩).toArray 51 :: blk g25 (c3 v).toArray 49 :: blk g36 (c3 V3.z).toArray 49 :: DsB D t :: blk g14 (c3 d).toArray 23 :: []) w := hs.ent (by (repeat first | exact Ent.refl _ | refine Ent.step (by first | exact Ent.refl _ | exact Ent.skip (Ent.refl _) | exact Ent.skip (Ent.skip (Ent.refl _)) | exact Ent.skip (Ent.skip (Ent.skip (Ent.refl _))) | exact Ent.skip (Ent.skip (Ent.skip (Ent.skip (Ent.refl _)))) | exact Ent.skip (Ent.skip (Ent.skip (Ent.skip (Ent.skip (Ent.refl _))))) | exact Ent.skip (Ent.skip (Ent.skip (Ent.skip (Ent.skip (Ent.skip (Ent.refl _)))))) | exact Ent.skip (Ent.skip (Ent.skip (Ent.skip (Ent.skip (Ent.skip (Ent.skip (Ent.refl _))))))) | exact Ent.skip (Ent.skip (Ent.skip (Ent.skip (Ent.skip (Ent.skip (Ent.skip (Ent.skip (Ent.refl _)))))))) | exact Ent.skip (Ent.skip (Ent.skip (Ent.skip (Ent.skip (Ent.skip (Ent.skip (Ent.skip (Ent.skip (Ent.refl _)))))))))) ?_))
                refine wpList_nil ⟨rfl, hs.only2, ?_⟩
                refine wpAllP_next [8, 9] (by kernel_rfl) (fun c hc => ?_)
                simp only [List.mem_cons, List.not_mem_nil, or_false] at hc
                rcases hc with rfl | rfl
                · skip
                  refine ⟨_, rfl, ?_⟩
                  go_wp2
                  refine ⟨hs.only2, ?_⟩
                  refine wpAllP_next [9, 11] (by kernel_rfl) (fun c hc => ?_)
                  simp only [List.mem_cons, List.not_mem_nil, or_false] at hc
                  rcases hc with rfl | rfl
                  · skip
                    refine ⟨_, rfl, ?_⟩
                    go_wp2
                    refine ⟨hs.only2, ?_⟩
                    refine wpAllP_next [11] (by kernel_rfl) (fun c hc => ?_)
                    simp only [List.mem_singleton] at hc
                    subst hc
                    refine ⟨_, rfl, ?_⟩
                    refine wpl_store_agg (v := val3 u) rfl rfl (size3 _) (hs.ent (M := blk g36 (c3 V3.z).toArray 49 :: SlB X s :: blk g24 (c5o ⟨ok, oi, ov⟩).toArray 51 :: blk g25 (c3 v).toArray 49 :: DsB D t :: blk g14 (c3 d).toArray 23 :: []) (by (repeat first | exact Ent.refl _ | refine Ent.step (by first | exact Ent.refl _ | exact Ent.skip (Ent.refl _) | exact Ent.skip (Ent.skip (Ent.refl _)) | exact Ent.skip (Ent.skip (Ent.skip (Ent.refl _))) | exact Ent.skip (Ent.skip (Ent.skip (Ent.skip (Ent.refl _)))) | exact Ent.skip (Ent.skip (Ent.skip (Ent.skip (Ent.skip (Ent.refl _))))) | exact Ent.skip (Ent.skip (Ent.skip (Ent.skip (Ent.skip (Ent.skip (Ent.refl _)))))) | exact Ent.skip (Ent.skip (Ent.skip (Ent.skip (Ent.skip (Ent.skip (Ent.skip (Ent.refl _))))))) | exact Ent.skip (Ent.skip (Ent.skip (Ent.skip (Ent.skip (Ent.skip (Ent.skip (Ent.skip (Ent.refl _)))))))) | exact Ent.skip (Ent.skip (Ent.skip (Ent.skip (Ent.skip (Ent.skip (Ent.skip (Ent.skip (Ent.skip (Ent.refl _)))))))))) ?_))) WrA.slot3 ?_
                    clear hs
                    intro w hs
                    replace hs : St w0 (SlB X s :: blk g24 (c5o ⟨ok, oi, ov⟩).toArray 51 :: blk g25 (c3 v).toArray 49 :: blk g36 (c3 u).toArray 49 :: DsB D t :: blk g14 (c3 d).toArray 23 :: []) w := hs.ent (by (repeat first | exact Ent.refl _ | refine Ent.step (by first | exact Ent.refl _ | exact Ent.skip (Ent.refl _) | exact Ent.skip (Ent.skip (Ent.refl _)) | exact Ent.skip (Ent.skip (Ent.skip (Ent.refl _))) | exact Ent.skip (Ent.skip (Ent.skip (Ent.skip (Ent.refl _)))) | exact Ent.skip (Ent.skip (Ent.skip (Ent.skip (Ent.skip (Ent.refl _))))) | exact Ent.skip (Ent.skip (Ent.skip (Ent.skip (Ent.skip (Ent.skip (Ent.refl _)))))) | exact Ent.skip (Ent.skip (Ent.skip (Ent.skip (Ent.skip (Ent.skip (Ent.skip (Ent.refl _))))))) | exact Ent.skip (Ent.skip (Ent.skip (Ent.skip (Ent.skip (Ent.skip (Ent.skip (Ent.skip (Ent.refl _)))))))) | exact Ent.skip (Ent.skip (Ent.skip (Ent.skip (Ent.skip (Ent.skip (Ent.skip (Ent.skip (Ent.skip (Ent.refl _)))))))))) ?_))
                    refine wpList_nil ⟨rfl, hs.only2, ?_⟩
                    refine wpAll_last [12] (by kernel_rfl) (fun c hc => ?_)
                    simp only [List.mem_singleton] at hc
                    subst hc
                    refine ⟨_, rfl, ?_⟩
                    go_wp2
                    go_meet
                    exact ⟨g36, rfl, rfl, hs.ent (by (repeat first | exact Ent.refl _ | refine Ent.step (by first | exact Ent.refl _ | exact Ent.skip (Ent.refl _) | exact Ent.skip (Ent.skip (Ent.refl _)) | exact Ent.skip (Ent.skip (Ent.skip (Ent.refl _))) | exact Ent.skip (Ent.skip (Ent.skip (Ent.skip (Ent.refl _)))) | exact Ent.skip (Ent.skip (Ent.skip (Ent.skip (Ent.skip (Ent.refl _))))) | exact Ent.skip (Ent.skip (Ent.skip (Ent.skip (Ent.skip (Ent.skip (Ent.refl _)))))) | exact Ent.skip (Ent.skip (Ent.skip (Ent.skip (Ent.skip (Ent.skip (Ent.skip (Ent.refl _))))))) | exact Ent.skip (Ent.skip (Ent.skip (Ent.skip (Ent.skip (Ent.skip (Ent.skip (Ent.skip (Ent.refl _)))))))) | exact Ent.skip (Ent.skip (Ent.skip (Ent.skip (Ent.skip (Ent.skip (Ent.skip (Ent.skip (Ent.skip (Ent.refl _)))))))))) ?_))⟩
                  · skip
                    refine ⟨_, rfl, ?_⟩
                    refine wpl_store_agg (v := val3 u) rfl rfl (size3 _) (hs.ent (M := blk g36 (c3 V3.z).toArray 49 :: SlB X s :: blk g24 (c5o ⟨ok, oi, ov⟩).toArray 51 :: blk g25 (c3 v).toArray 49 :: DsB D t :: blk g14 (c3 d).toArray 23 :: []) (by (repeat first | exact Ent.refl _ | refine Ent.step (by first | exact Ent.refl _ | exact Ent.skip (Ent.refl _) | exact Ent.skip (Ent.skip (Ent.refl _)) | exact Ent.skip (Ent.skip (Ent.skip (Ent.refl _))) | exact Ent.skip (Ent.skip (Ent.skip (Ent.skip (Ent.refl _)))) | exact Ent.skip (Ent.skip (Ent.skip (Ent.skip (Ent.skip (Ent.refl _))))) | exact Ent.skip (Ent.skip (Ent.skip (Ent.skip (Ent.skip (Ent.skip (Ent.refl _)))))) | exact Ent.skip (Ent.skip (Ent.skip (Ent.skip (Ent.skip (Ent.skip (Ent.skip (Ent.refl _))))))) | exact Ent.skip (Ent.skip (Ent.skip (Ent.skip (Ent.skip (Ent.skip (Ent.skip (Ent.skip (Ent.refl _)))))))) | exact Ent.skip (Ent.skip (Ent.skip (Ent.skip (Ent.skip (Ent.skip (Ent.skip (Ent.skip (Ent.skip (Ent.refl _)))))))))) ?_))) WrA.slot3 ?_
                    clear hs
                    intro w hs
                    replace hs : St w0 (SlB X s :: blk g24 (c5o ⟨ok, oi, ov⟩).toArray 51 :: blk g25 (c3 v).toArray 49 :: blk g36 (c3 u).toArray 49 :: DsB D t :: blk g14 (c3 d).toArray 23 :: []) w := hs.ent (by (repeat first | exact Ent.refl _ | refine Ent.step (by first | exact Ent.refl _ | exact Ent.skip (Ent.refl _) | exact Ent.skip (Ent.skip (Ent.refl _)) | exact Ent.skip (Ent.skip (Ent.skip (Ent.refl _))) | exact Ent.skip (Ent.skip (Ent.skip (Ent.skip (Ent.refl _)))) | exact Ent.skip (Ent.skip (Ent.skip (Ent.skip (Ent.skip (Ent.refl _))))) | exact Ent.skip (Ent.skip (Ent.skip (Ent.skip (Ent.skip (Ent.skip (Ent.refl _)))))) | exact Ent.skip (Ent.skip (Ent.skip (Ent.skip (Ent.skip (Ent.skip (Ent.skip (Ent.refl _))))))) | exact Ent.skip (Ent.skip (Ent.skip (Ent.skip (Ent.skip (Ent.skip (Ent.skip (Ent.skip (Ent.refl _)))))))) | exact Ent.skip (Ent.skip (Ent.skip (Ent.skip (Ent.skip (Ent.skip (Ent.skip (Ent.skip (Ent.skip (Ent.refl _)))))))))) ?_))
                    refine wpList_nil ⟨rfl, hs.only2, ?_⟩
                    refine wpAllP_next [9] (by kernel_rfl) (fun c hc => ?_)
                    simp only [List.mem_singleton] at hc
                    subst hc
                    refine ⟨_, rfl, ?_⟩
                    go_wp2
                    refine ⟨hs.only2, ?_⟩
                    refine wpAll_last [12] (by kernel_rfl) (fun c hc => ?_)
                    simp only [List.mem_singleton] at hc
                    subst hc
                    refine ⟨_, rfl, ?_⟩
                    go_wp2
                    go_meet
                    exact ⟨g36, rfl, rfl, hs.ent (by (repeat first | exact Ent.refl _ | refine Ent.step (by first | exact Ent.refl _ | exact Ent.skip (Ent.refl _) | exact Ent.skip (Ent.skip (Ent.refl _)) | exact Ent.skip (Ent.skip (Ent.skip (Ent.refl _))) | exact Ent.skip (Ent.skip (Ent.skip (Ent.skip (Ent.refl _)))) | exact Ent.skip (Ent.skip (Ent.skip (Ent.skip (Ent.skip (Ent.refl _))))) | exact Ent.skip (Ent.skip (Ent.skip (Ent.skip (Ent.skip (Ent.skip (Ent.refl _)))))) | exact Ent.skip (Ent.skip (Ent.skip (Ent.skip (Ent.skip (Ent.skip (Ent.skip (Ent.refl _))))))) | exact Ent.skip (Ent.skip (Ent.skip (Ent.skip (Ent.skip (Ent.skip (Ent.skip (Ent.skip (Ent.refl _)))))))) | exact Ent.skip (Ent.skip (Ent.skip (Ent.skip (Ent.skip (Ent.skip (Ent.skip (Ent.skip (Ent.skip (Ent.refl _)))))))))) ?_))⟩
                · skip
                  refine ⟨_, rfl, ?_⟩
                  go_wp2
                  refine ⟨hs.only2, ?_⟩
                  refine wpAllP_next [8] (by kernel_rfl) (fun c hc => ?_)
                  simp only [List.mem_singleton] at hc
                  subst hc
                  refine ⟨_, rfl, ?_⟩
                  go_wp2
                  refine ⟨hs.only2, ?_⟩
                  refine wpAllP_next [11] (by kernel_rfl) (fun c hc => ?_)
                  simp only [List.mem_singleton] at hc
                  subst hc
                  refine ⟨_, rfl, ?_⟩
                  refine wpl_store_agg (v := val3 u) rfl rfl (size3 _) (hs.ent (M := blk g36 (c3 V3.z).toArray 49 :: SlB X s :: blk g24 (c5o ⟨ok, oi, ov⟩).toArray 51 :: blk g25 (c3 v).toArray 49 :: DsB D t :: blk g14 (c3 d).toArray 23 :: []) (by (repeat first | exact Ent.refl _ | refine Ent.step (by first | exact Ent.refl _ | exact Ent.skip (Ent.refl _) | exact Ent.skip (Ent.skip (Ent.refl _)) | exact Ent.skip (Ent.skip (Ent.skip (Ent.refl _))) | exact Ent.skip (Ent.skip (Ent.skip (Ent.skip (Ent.refl _)))) | exact Ent.skip (Ent.skip (Ent.skip (Ent.skip (Ent.skip (Ent.refl _))))) | exact Ent.skip (Ent.skip (Ent.skip (Ent.skip (Ent.skip (Ent.skip (Ent.refl _)))))) | exact Ent.skip (Ent.skip (Ent.skip (Ent.skip (Ent.skip (Ent.skip (Ent.skip (Ent.refl _))))))) | exact Ent.skip (Ent.skip (Ent.skip (Ent.skip (Ent.skip (Ent.skip (Ent.skip (Ent.skip (Ent.refl _)))))))) | exact Ent.skip (Ent.skip (Ent.skip (Ent.skip (Ent.skip (Ent.skip (Ent.skip (Ent.skip (Ent.skip (Ent.refl _)))))))))) ?_))) WrA.slot3 ?_
                  clear hs
                  intro w hs
                  replace hs : St w0 (SlB X s :: blk g24 (c5o ⟨ok, oi, ov⟩).toArray 51 :: blk g25 (c3 v).toArray 49 :: blk g36 (c3 u).toArray 49 :: DsB D t :: blk g14 (c3 d).toArray 23 :: []) w := hs.ent (by (repeat first | exact Ent.refl _ | refine Ent.step (by first | exact Ent.refl _ | exact Ent.skip (Ent.refl _) | exact Ent.skip (Ent.skip (Ent.refl _)) | exact Ent.skip (Ent.skip (Ent.skip (Ent.refl _))) | exact Ent.skip (Ent.skip (Ent.skip (Ent.skip (Ent.refl _)))) | exact Ent.skip (Ent.skip (Ent.skip (Ent.skip (Ent.skip (Ent.refl _))))) | exact Ent.skip (Ent.skip (Ent.skip (Ent.skip (Ent.skip (Ent.skip (Ent.refl _)))))) | exact Ent.skip (Ent.skip (Ent.skip (Ent.skip (Ent.skip (Ent.skip (Ent.skip (Ent.refl _))))))) | exact Ent.skip (Ent.skip (Ent.skip (Ent.skip (Ent.skip (Ent.skip (Ent.skip (Ent.skip (Ent.refl _)))))))) | exact Ent.skip (Ent.skip (Ent.skip (Ent.skip (Ent.skip (Ent.skip (Ent.skip (Ent.skip (Ent.skip (Ent.refl _)))))))))) ?_))
                  refine wpList_nil ⟨rfl, hs.only2, ?_⟩
                  refine wpAll_last [12] (by kernel_rfl) (fun c hc => ?_)
                  simp only [List.mem_singleton] at hc
                  subst hc
                  refine ⟨_, rfl, ?_⟩
                  go_wp2
                  go_meet
                  exact ⟨g36, rfl, rfl, hs.ent (by (repeat first | exact Ent.refl _ | refine Ent.step (by first | exact Ent.refl _ | exact Ent.skip (Ent.refl _) | exact Ent.skip (Ent.skip (Ent.refl _)) | exact Ent.skip (Ent.skip (Ent.skip (Ent.refl _))) | exact Ent.skip (Ent.skip (Ent.skip (Ent.skip (Ent.refl _)))) | exact Ent.skip (Ent.skip (Ent.skip (Ent.skip (Ent.skip (Ent.refl _))))) | exact Ent.skip (Ent.skip (Ent.skip (Ent.skip (Ent.skip (Ent.skip (Ent.refl _)))))) | exact Ent.skip (Ent.skip (Ent.skip (Ent.skip (Ent.skip (Ent.skip (Ent.skip (Ent.refl _))))))) | exact Ent.skip (Ent.skip (Ent.skip (Ent.skip (Ent.skip (Ent.skip (Ent.skip (Ent.skip (Ent.refl _)))))))) | exact Ent.skip (Ent.skip (Ent.skip (Ent.skip (Ent.skip (Ent.skip (Ent.skip (Ent.skip (Ent.skip (Ent.refl _)))))))))) ?_))⟩
            · skip
              refine ⟨_, rfl, ?_⟩
              refine wpl_alloc zero3 hs ?_
              clear hs
              intro g36 w hs
              replace hs : St w0 (blk g36 (c3 V3.z).toArray 49 :: _) w := hs
              replace hs : St w0 (SlB X s :: blk g24 (c5o ⟨ok, oi, ov⟩).toArray 51 :: blk g25 (c3 v).toArray 49 :: blk g36 (c3 V3.z).toArray 49 :: DsB D t :: blk g14 (c3 d).toArray 23 :: []) w := hs.ent (by (repeat first | exact Ent.refl _ | refine Ent.step (by first | exact Ent.refl _ | exact Ent.skip (Ent.refl _) | exact Ent.skip (Ent.skip (Ent.refl _)) | exact Ent.skip (Ent.skip (Ent.skip (Ent.refl _))) | exact Ent.skip (Ent.skip (Ent.skip (Ent.skip (Ent.refl _)))) | exact Ent.skip (Ent.skip (Ent.skip (Ent.skip (Ent.skip (Ent.refl _))))) | exact Ent.skip (Ent.skip (Ent.skip (Ent.skip (Ent.skip (Ent.skip (Ent.refl _)))))) | exact Ent.skip (Ent.skip (Ent.skip (Ent.skip (Ent.skip (Ent.skip (Ent.skip (Ent.refl _))))))) | exact Ent.skip (Ent.skip (Ent.skip (Ent.skip (Ent.skip (Ent.skip (Ent.skip (Ent.skip (Ent.refl _)))))))) | exact Ent.skip (Ent.skip (Ent.skip (Ent.skip (Ent.skip (Ent.skip (Ent.skip (Ent.skip (Ent.skip (Ent.refl _)))))))))) ?_))
              refine wpList_nil ⟨rfl, hs.only2, ?_⟩
              refine wpAllP_next [7] (by kernel_rfl) (fun c hc => ?_)
              simp only [List.mem_singleton] at hc
              subst hc
              refine ⟨_, rfl, ?_⟩
              go_wp2
              refine ⟨hs.only2, ?_⟩
              refine wpAllP_next [8, 9] (by kernel_rfl) (fun c hc => ?_)
              simp only [List.mem_cons, List.not_mem_nil, or_false] at hc
              rcases hc with rfl | rfl
              · skip
                refine ⟨_, rfl, ?_⟩
                go_wp2
                refine ⟨hs.only2, ?_⟩
                refine wpAllP_next [9, 11] (by kernel_rfl) (fun c hc => ?_)
                simp only [List.mem_cons, List.not_mem_nil, or_false] at hc
                rcases hc with rfl | rfl
                · skip
                  refine ⟨_, rfl, ?_⟩
                  go_wp2
                  refine ⟨hs.only2, ?_⟩
                  refine wpAllP_next [11] (by kernel_rfl) (fun c hc => ?_)
                  simp only [List.mem_singleton] at hc
                  subst hc
                  refine ⟨_, rfl, ?_⟩
                  refine wpl_store_agg (v := val3 u) rfl rfl (size3 _) (hs.ent (M := blk g36 (c3 V3.z).toArray 49 :: SlB X s :: blk g24 (c5o ⟨ok, oi, ov⟩).toArray 51 :: blk g25 (c3 v).toArray 49 :: DsB D t :: blk g14 (c3 d).toArray 23 :: []) (by (repeat first | exact Ent.refl _ | refine Ent.step (by first | exact Ent.refl _ | exact Ent.skip (Ent.refl _) | exact Ent.skip (Ent.skip (Ent.refl _)) | exact Ent.skip (Ent.skip (Ent.skip (Ent.refl _))) | exact Ent.skip (Ent.skip (Ent.skip (Ent.skip (Ent.refl _)))) | exact Ent.skip (Ent.skip (Ent.skip (Ent.skip (Ent.skip (Ent.refl _))))) | exact Ent.skip (Ent.skip (Ent.skip (Ent.skip (Ent.skip (Ent.skip (Ent.refl _)))))) | exact Ent.skip (Ent.skip (Ent.skip (Ent.skip (Ent.skip (Ent.skip (Ent.skip (Ent.refl _))))))) | exact Ent.skip (Ent.skip (Ent.skip (Ent.skip (Ent.skip (Ent.skip (Ent.skip (Ent.skip (Ent.refl _)))))))) | exact Ent.skip (Ent.skip (Ent.skip (Ent.skip (Ent.skip (Ent.skip (Ent.skip (Ent.skip (Ent.skip (Ent.refl _)))))))))) ?_))) WrA.slot3 ?_
                  clear hs
                  intro w hs
                  replace hs : St w0 (SlB X s :: blk g24 (c5o ⟨ok, oi, ov⟩).toArray 51 :: blk g25 (c3 v).toArray 49 :: blk g36 (c3 u).toArray 49 :: DsB D t :: blk g14 (c3 d).toArray 23 :: []) w := hs.ent (by (repeat first | exact Ent.refl _ | refine Ent.step (by first | exact Ent.refl _ | exact Ent.skip (Ent.refl _) | exact Ent.skip (Ent.skip (Ent.refl _)) | exact Ent.skip (Ent.skip (Ent.skip (Ent.refl _))) | exact Ent.skip (Ent.skip (Ent.skip (Ent.skip (Ent.refl _)))) | exact Ent.skip (Ent.skip (Ent.skip (Ent.skip (Ent.skip (Ent.refl _))))) | exact Ent.skip (Ent.skip (Ent.skip (Ent.skip (Ent.skip (Ent.skip (Ent.refl _)))))) | exact Ent.skip (Ent.skip (Ent.skip (Ent.skip (Ent.skip (Ent.skip (Ent.skip (Ent.refl _))))))) | exact Ent.skip (Ent.skip (Ent.skip (Ent.skip (Ent.skip (Ent.skip (Ent.skip (Ent.skip (Ent.refl _)))))))) | exact Ent.skip (Ent.skip (Ent.skip (Ent.skip (Ent.skip (Ent.skip (Ent.skip (Ent.skip (Ent.skip (Ent.refl _)))))))))) ?_))
                  refine wpList_nil ⟨rfl, hs.only2, ?_⟩
                  refine wpAll_last [12] (by kernel_rfl) (fun c hc => ?_)
                  simp only [List.mem_singleton] at hc
                  subst hc
                  refine ⟨_, rfl, ?_⟩
                  go_wp2
                  go_meet
                  exact ⟨g36, rfl, rfl, hs.ent (by (repeat first | exact Ent.refl _ | refine Ent.step (by first | exact Ent.refl _ | exact Ent.skip (Ent.refl _) | exact Ent.skip (Ent.skip (Ent.refl _)) | exact Ent.skip (Ent.skip (Ent.skip (Ent.refl _))) | exact Ent.skip (Ent.skip (Ent.skip (Ent.skip (Ent.refl _)))) | exact Ent.skip (Ent.skip (Ent.skip (Ent.skip (Ent.skip (Ent.refl _))))) | exact Ent.skip (Ent.skip (Ent.skip (Ent.skip (Ent.skip (Ent.skip (Ent.refl _)))))) | exact Ent.skip (Ent.skip (Ent.skip (Ent.skip (Ent.skip (Ent.skip (Ent.skip (Ent.refl _))))))) | exact Ent.skip (Ent.skip (Ent.skip (Ent.skip (Ent.skip (Ent.skip (Ent.skip (Ent.skip (Ent.refl _)))))))) | exact Ent.skip (Ent.skip (Ent.skip (Ent.skip (Ent.skip (Ent.skip (Ent.skip (Ent.skip (Ent.skip (Ent.refl _)))))))))) ?_))⟩
                · skip
                  refine ⟨_, rfl, ?_⟩
                  refine wpl_store_agg (v := val3 u) rfl rfl (size3 _) (hs.ent (M := blk g36 (c3 V3.z).toArray 49 :: SlB X s :: blk g24 (c5o ⟨ok, oi, ov⟩).toArray 51 :: blk g25 (c3 v).toArray 49 :: DsB D t :: blk g14 (c3 d).toArray 23 :: []) (by (repeat first | exact Ent.refl _ | refine Ent.step (by first | exact Ent.refl _ | exact Ent.skip (Ent.refl _) | exact Ent.skip (Ent.skip (Ent.refl _)) | exact Ent.skip (Ent.skip (Ent.skip (Ent.refl _))) | exact Ent.skip (Ent.skip (Ent.skip (Ent.skip (Ent.refl _)))) | exact Ent.skip (Ent.skip (Ent.skip (Ent.skip (Ent.skip (Ent.refl _))))) | exact Ent.skip (Ent.skip (Ent.skip (Ent.skip (Ent.skip (Ent.skip (Ent.refl _)))))) | exact Ent.skip (Ent.skip (Ent.skip (Ent.skip (Ent.skip (Ent.skip (Ent.skip (Ent.refl _))))))) | exact Ent.skip (Ent.skip (Ent.skip (Ent.skip (Ent.skip (Ent.skip (Ent.skip (Ent.skip (Ent.refl _)))))))) | exact Ent.skip (Ent.skip (Ent.skip (Ent.skip (Ent.skip (Ent.skip (Ent.skip (Ent.skip (Ent.skip (Ent.refl _)))))))))) ?_))) WrA.slot3 ?_
                  clear hs
                  intro w hs
                  replace hs : St w0 (SlB X s :: blk g24 (c5o ⟨ok, oi, ov⟩).toArray 51 :: blk g25 (c3 v).toArray 49 :: blk g36 (c3 u).toArray 49 :: DsB D t :: blk g14 (c3 d).toArray 23 :: []) w := hs.ent (by (repeat first | exact Ent.refl _ | refine Ent.step (by first | exact Ent.refl _ | exact Ent.skip (Ent.refl _) | exact Ent.skip (Ent.skip (Ent.refl _)) | exact Ent.skip (Ent.skip (Ent.skip (Ent.refl _))) | exact Ent.skip (Ent.skip (Ent.skip (Ent.skip (Ent.refl _)))) | exact Ent.skip (Ent.skip (Ent.skip (Ent.skip (Ent.skip (Ent.refl _))))) | exact Ent.skip (Ent.skip (Ent.skip (Ent.skip (Ent.skip (Ent.skip (Ent.refl _)))))) | exact Ent.skip (Ent.skip (Ent.skip (Ent.skip (Ent.skip (Ent.skip (Ent.skip (Ent.refl _))))))) | exact Ent.skip (Ent.skip (Ent.skip (Ent.skip (Ent.skip (Ent.skip (Ent.skip (Ent.skip (Ent.refl _)))))))) | exact Ent.skip (Ent.skip (Ent.skip (Ent.skip (Ent.skip (Ent.skip (Ent.skip (Ent.skip (Ent.skip (Ent.refl _)))))))))) ?_))
                  refine wpList_nil ⟨rfl, hs.only2, ?_⟩
                  refine wpAllP_next [9] (by kernel_rfl) (fun c hc => ?_)
                  simp only [List.mem_singleton] at hc
                  subst hc
                  refine ⟨_, rfl, ?_⟩
                  go_wp2
                  refine ⟨hs.only2, ?_⟩
                  refine wpAll_last [12] (by kernel_rfl) (fun c hc => ?_)
                  simp only [List.mem_singleton] at hc
                  subst hc
                  refine ⟨_, rfl, ?_⟩
                  go_wp2
                  go_meet
                  exact ⟨g36, rfl, rfl, hs.ent (by (repeat first | exact Ent.refl _ | refine Ent.step (by first | exact Ent.refl _ | exact Ent.skip (Ent.refl _) | exact Ent.skip (Ent.skip (Ent.refl _)) | exact Ent.skip (Ent.skip (Ent.skip (Ent.refl _))) | exact Ent.skip (Ent.skip (Ent.skip (Ent.skip (Ent.refl _)))) | exact Ent.skip (Ent.skip (Ent.skip (Ent.skip (Ent.skip (Ent.refl _))))) | exact Ent.skip (Ent.skip (Ent.skip (Ent.skip (Ent.skip (Ent.skip (Ent.refl _)))))) | exact Ent.skip (Ent.skip (Ent.skip (Ent.skip (Ent.skip (Ent.skip (Ent.skip (Ent.refl _))))))) | exact Ent.skip (Ent.skip (Ent.skip (Ent.skip (Ent.skip (Ent.skip (Ent.skip (Ent.skip (Ent.refl _)))))))) | exact Ent.skip (Ent.skip (Ent.skip (Ent.skip (Ent.skip (Ent.skip (Ent.skip (Ent.skip (Ent.skip (Ent.refl _)))))))))) ?_))⟩
              · skip
                refine ⟨_, rfl, ?_⟩
                go_wp2
                refine ⟨hs.only2, ?_⟩
                refine wpAllP_next [8] (by kernel_rfl) (fun c hc => ?_)
                simp only [List.mem_singleton] at hc
                subst hc
                refine ⟨_, rfl, ?_⟩
                go_wp2
                refine ⟨hs.only2, ?_⟩
                refine wpAllP_next [11] (by kernel_rfl) (fun c hc => ?_)
                simp only [List.mem_singleton] at hc
                subst hc
                refine ⟨_, rfl, ?_⟩
                refine wpl_store_agg (v := val3 u) rfl rfl (size3 _) (hs.ent (M := blk g36 (c3 V3.z).toArray 49 :: SlB X s :: blk g24 (c5o ⟨ok, oi, ov⟩).toArray 51 :: blk g25 (c3 v).toArray 49 :: DsB D t :: blk g14 (c3 d).toArray 23 :: []) (by (repeat first | exact Ent.refl _ | refine Ent.step (by first | exact Ent.refl _ | exact Ent.skip (Ent.refl _) | exact Ent.skip (Ent.skip (Ent.refl _)) | exact Ent.skip (Ent.skip (Ent.skip (Ent.refl _))) | exact Ent.skip (Ent.skip (Ent.skip (Ent.skip (Ent.refl _)))) | exact Ent.skip (Ent.skip (Ent.skip (Ent.skip (Ent.skip (Ent.refl _))))) | exact Ent.skip (Ent.skip (Ent.skip (Ent.skip (Ent.skip (Ent.skip (Ent.refl _)))))) | exact Ent.skip (Ent.skip (Ent.skip (Ent.skip (Ent.skip (Ent.skip (Ent.skip (Ent.refl _))))))) | exact Ent.skip (Ent.skip (Ent.skip (Ent.skip (Ent.skip (Ent.skip (Ent.skip (Ent.skip (Ent.refl _)))))))) | exact Ent.skip (Ent.skip (Ent.skip (Ent.skip (Ent.skip (Ent.skip (Ent.skip (Ent.skip (Ent.skip (Ent.refl _)))))))))) ?_))) WrA.slot3 ?_
                clear hs
                intro w hs
                replace hs : St w0 (SlB X s :: blk g24 (c5o ⟨ok, oi, ov⟩).toArray 51 :: blk g25 (c3 v).toArray 49 :: blk g36 (c3 u).toArray 49 :: DsB D t :: blk g14 (c3 d).toArray 23 :: []) w := hs.ent (by (repeat first | exact Ent.refl _ | refine Ent.step (by first | exact Ent.refl _ | exact Ent.skip (Ent.refl _) | exact Ent.skip (Ent.skip (Ent.refl _)) | exact Ent.skip (Ent.skip (Ent.skip (Ent.refl _))) | exact Ent.skip (Ent.skip (Ent.skip (Ent.skip (Ent.refl _)))) | exact Ent.skip (Ent.skip (Ent.skip (Ent.skip (Ent.skip (Ent.refl _))))) | exact Ent.skip (Ent.skip (Ent.skip (Ent.skip (Ent.skip (Ent.skip (Ent.refl _)))))) | exact Ent.skip (Ent.skip (Ent.skip (Ent.skip (Ent.skip (Ent.skip (Ent.skip (Ent.refl _))))))) | exact Ent.skip (Ent.skip (Ent.skip (Ent.skip (Ent.skip (Ent.skip (Ent.skip (Ent.skip (Ent.refl _)))))))) | exact Ent.skip (Ent.skip (Ent.skip (Ent.skip (Ent.skip (Ent.skip (Ent.skip (Ent.skip (Ent.skip (Ent.refl _)))))))))) ?_))
                refine wpList_nil ⟨rfl, hs.only2, ?_⟩
                refine wpAll_last [12] (by kernel_rfl) (fun c hc => ?_)
                simp only [List.mem_singleton] at hc
                subst hc
                refine ⟨_, rfl, ?_⟩
                go_wp2
                go_meet
                exact ⟨g36, rfl, rfl, hs.ent (by (repeat first | exact Ent.refl _ | refine Ent.step (by first | exact Ent.refl _ | exact Ent.skip (Ent.refl _) | exact Ent.skip (Ent.skip (Ent.refl _)) | exact Ent.skip (Ent.skip (Ent.skip (Ent.refl _))) | exact Ent.skip (Ent.skip (Ent.skip (Ent.skip (Ent.refl _)))) | exact Ent.skip (Ent.skip (Ent.skip (Ent.skip (Ent.skip (Ent.refl _))))) | exact Ent.skip (Ent.skip (Ent.skip (Ent.skip (Ent.skip (Ent.skip (Ent.refl _)))))) | exact Ent.skip (Ent.skip (Ent.skip (Ent.skip (Ent.skip (Ent.skip (Ent.skip (Ent.refl _))))))) | exact Ent.skip (Ent.skip (Ent.skip (Ent.skip (Ent.skip (Ent.skip (Ent.skip (Ent.skip (Ent.refl _)))))))) | exact Ent.skip (Ent.skip (Ent.skip (Ent.skip (Ent.skip (Ent.skip (Ent.skip (Ent.skip (Ent.skip (Ent.refl _)))))))))) ?_))⟩
          · skip
            refine ⟨_, rfl, ?_⟩
            refine wpl_alloc zero3 hs ?_
            clear hs
            intro g36 w hs
            replace hs : St w0 (blk g36 (c3 V3.z).toArray 49 :: _) w := hs
            replace hs : St w0 (SlB X s :: blk g24 (c5o ⟨ok, oi, ov⟩).toArray 51 :: blk g25 (c3 v).toArray 49 :: blk g36 (c3 V3.z).toArray 49 :: DsB D t :: blk g14 (c3 d).toArray 23 :: []) w := hs.ent (by (repeat first | exact Ent.refl _ | refine Ent.step (by first | exact Ent.refl _ | exact Ent.skip (Ent.refl _) | exact Ent.skip (Ent.skip (Ent.refl _)) | exact Ent.skip (Ent.skip (Ent.skip (Ent.refl _))) | exact Ent.skip (Ent.skip (Ent.skip (Ent.skip (Ent.refl _)))) | exact Ent.skip (Ent.skip (Ent.skip (Ent.skip (Ent.skip (Ent.refl _))))) | exact Ent.skip (Ent.skip (Ent.skip (Ent.skip (Ent.skip (Ent.skip (Ent.refl _)))))) | exact Ent.skip (Ent.skip (Ent.skip (Ent.skip (Ent.skip (Ent.skip (Ent.skip (Ent.refl _))))))) | exact Ent.skip (Ent.skip (Ent.skip (Ent.skip (Ent.skip (Ent.skip (Ent.skip (Ent.skip (Ent.refl _)))))))) | exact Ent.skip (Ent.skip (Ent.skip (Ent.skip (Ent.skip (Ent.skip (Ent.skip (Ent.skip (Ent.skip (Ent.refl _)))))))))) ?_))
            refine wpList_nil ⟨rfl, hs.only2, ?_⟩
            refine wpAllP_next [6] (by kernel_rfl) (fun c hc => ?_)
            simp only [List.mem_singleton] at hc
            subst hc
            refine ⟨_, rfl, ?_⟩
            refine wpl_inv1 (v := pv) (v1 := .int .i64 oi) rfl rfl (sl_get hs HPV HWF HU HB) ?_
            rintro r w ⟨rfl, hg⟩
            replace hs := hs.grew hg
            clear hg
            refine wpList_nil ⟨rfl, hs.only2, ?_⟩
            refine wpAllP_next [7] (by kernel_rfl) (fun c hc => ?_)
            simp only [List.mem_singleton] at hc
            subst hc
            refine ⟨_, rfl, ?_⟩
            go_wp2
            refine ⟨hs.only2, ?_⟩
            refine wpAllP_next [8, 9] (by kernel_rfl) (fun c hc => ?_)
            simp only [List.mem_cons, List.not_mem_nil, or_false] at hc
            rcases hc with rfl | rfl
            · skip
              refine ⟨_, rfl, ?_⟩
              go_wp2
              refine ⟨hs.only2, ?_⟩
              refine wpAllP_next [9, 11] (by kernel_rfl) (fun c hc => ?_)
              simp only [List.mem_cons, List.not_mem_nil, or_false] at hc
              rcases hc with rfl | rfl
              · skip
                refine ⟨_, rfl, ?_⟩
                go_wp2
                refine ⟨hs.only2, ?_⟩
                refine wpAllP_next [11] (by kernel_rfl) (fun c hc => ?_)
                simp only [List.mem_singleton] at hc
                subst hc
                refine ⟨_, rfl, ?_⟩
                refine wpl_store_agg (v := val3 u) rfl rfl (size3 _) (hs.ent (M := blk g36 (c3 V3.z).toArray 49 :: SlB X s :: blk g24 (c5o ⟨ok, oi, ov⟩).toArray 51 :: blk g25 (c3 v).toArray 49 :: DsB D t :: blk g14 (c3 d).toArray 23 :: []) (by (repeat first | exact Ent.refl _ | refine Ent.step (by first | exact Ent.refl _ | exact Ent.skip (Ent.refl _) | exact Ent.skip (Ent.skip (Ent.refl _)) | exact Ent.skip (Ent.skip (Ent.skip (Ent.refl _))) | exact Ent.skip (Ent.skip (Ent.skip (Ent.skip (Ent.refl _)))) | exact Ent.skip (Ent.skip (Ent.skip (Ent.skip (Ent.skip (Ent.refl _))))) | exact Ent.skip (Ent.skip (Ent.skip (Ent.skip (Ent.skip (Ent.skip (Ent.refl _)))))) | exact Ent.skip (Ent.skip (Ent.skip (Ent.skip (Ent.skip (Ent.skip (Ent.skip (Ent.refl _))))))) | exact Ent.skip (Ent.skip (Ent.skip (Ent.skip (Ent.skip (Ent.skip (Ent.skip (Ent.skip (Ent.refl _)))))))) | exact Ent.skip (Ent.skip (Ent.skip (Ent.skip (Ent.skip (Ent.skip (Ent.skip (Ent.skip (Ent.skip (Ent.refl _)))))))))) ?_))) WrA.slot3 ?_
                clear hs
                intro w hs
                replace hs : St w0 (SlB X s :: blk g24 (c5o ⟨ok, oi, ov⟩).toArray 51 :: blk g25 (c3 v).toArray 49 :: blk g36 (c3 u).toArray 49 :: DsB D t :: blk g14 (c3 d).toArray 23 :: []) w := hs.ent (by (repeat first | exact Ent.refl _ | refine Ent.step (by first | exact Ent.refl _ | exact Ent.skip (Ent.refl _) | exact Ent.skip (Ent.skip (Ent.refl _)) | exact Ent.skip (Ent.skip (Ent.skip (Ent.refl _))) | exact Ent.skip (Ent.skip (Ent.skip (Ent.skip (Ent.refl _)))) | exact Ent.skip (Ent.skip (Ent.skip (Ent.skip (Ent.skip (Ent.refl _))))) | exact Ent.skip (Ent.skip (Ent.skip (Ent.skip (Ent.skip (Ent.skip (Ent.refl _)))))) | exact Ent.skip (Ent.skip (Ent.skip (Ent.skip (Ent.skip (Ent.skip (Ent.skip (Ent.refl _))))))) | exact Ent.skip (Ent.skip (Ent.skip (Ent.skip (Ent.skip (Ent.skip (Ent.skip (Ent.skip (Ent.refl _)))))))) | exact Ent.skip (Ent.skip (Ent.skip (Ent.skip (Ent.skip (Ent.skip (Ent.skip (Ent.skip (Ent.skip (Ent.refl _)))))))))) ?_))
                refine wpList_nil ⟨rfl, hs.only2, ?_⟩
                refine wpAll_last [12] (by kernel_rfl) (fun c hc => ?_)
                simp only [List.mem_singleton] at hc
                subst hc
                refine ⟨_, rfl, ?_⟩
                go_wp2
                go_meet
                exact ⟨g36, rfl, rfl, hs.ent (by (repeat first | exact Ent.refl _ | refine Ent.step (by first | exact Ent.refl _ | exact Ent.skip (Ent.refl _) | exact Ent.skip (Ent.skip (Ent.refl _)) | exact Ent.skip (Ent.skip (Ent.skip (Ent.refl _))) | exact Ent.skip (Ent.skip (Ent.skip (Ent.skip (Ent.refl _)))) | exact Ent.skip (Ent.skip (Ent.skip (Ent.skip (Ent.skip (Ent.refl _))))) | exact Ent.skip (Ent.skip (Ent.skip (Ent.skip (Ent.skip (Ent.skip (Ent.refl _)))))) | exact Ent.skip (Ent.skip (Ent.skip (Ent.skip (Ent.skip (Ent.skip (Ent.skip (Ent.refl _))))))) | exact Ent.skip (Ent.skip (Ent.skip (Ent.skip (Ent.skip (Ent.skip (Ent.skip (Ent.skip (Ent.refl _)))))))) | exact Ent.skip (Ent.skip (Ent.skip (Ent.skip (Ent.skip (Ent.skip (Ent.skip (Ent.skip (Ent.skip (Ent.refl _)))))))))) ?_))⟩
              · skip
                refine ⟨_, rfl, ?_⟩
                refine wpl_store_agg (v := val3 u) rfl rfl (size3 _) (hs.ent (M := blk g36 (c3 V3.z).toArray 49 :: SlB X s :: blk g24 (c5o ⟨ok, oi, ov⟩).toArray 51 :: blk g25 (c3 v).toArray 49 :: DsB D t :: blk g14 (c3 d).toArray 23 :: []) (by (repeat first | exact Ent.refl _ | refine Ent.step (by first | exact Ent.refl _ | exact Ent.skip (Ent.refl _) | exact Ent.skip (Ent.skip (Ent.refl _)) | exact Ent.skip (Ent.skip (Ent.skip (Ent.refl _))) | exact Ent.skip (Ent.skip (Ent.skip (Ent.skip (Ent.refl _)))) | exact Ent.skip (Ent.skip (Ent.skip (Ent.skip (Ent.skip (Ent.refl _))))) | exact Ent.skip (Ent.skip (Ent.skip (Ent.skip (Ent.skip (Ent.skip (Ent.refl _)))))) | exact Ent.skip (Ent.skip (Ent.skip (Ent.skip (Ent.skip (Ent.skip (Ent.skip (Ent.refl _))))))) | exact Ent.skip (Ent.skip (Ent.skip (Ent.skip (Ent.skip (Ent.skip (Ent.skip (Ent.skip (Ent.refl _)))))))) | exact Ent.skip (Ent.skip (Ent.skip (Ent.skip (Ent.skip (Ent.skip (Ent.skip (Ent.skip (Ent.skip (Ent.refl _)))))))))) ?_))) WrA.slot3 ?_
                clear hs
                intro w hs
                replace hs : St w0 (SlB X s :: blk g24 (c5o ⟨ok, oi, ov⟩).toArray 51 :: blk g25 (c3 v).toArray 49 :: blk g36 (c3 u).toArray 49 :: DsB D t :: blk g14 (c3 d).toArray 23 :: []) w := hs.ent (by (repeat first | exact Ent.refl _ | refine Ent.step (by first | exact Ent.refl _ | exact Ent.skip (Ent.refl _) | exact Ent.skip (Ent.skip (Ent.refl _)) | exact Ent.skip (Ent.skip (Ent.skip (Ent.refl _))) | exact Ent.skip (Ent.skip (Ent.skip (Ent.skip (Ent.refl _)))) | exact Ent.skip (Ent.skip (Ent.skip (Ent.skip (Ent.skip (Ent.refl _))))) | exact Ent.skip (Ent.skip (Ent.skip (Ent.skip (Ent.skip (Ent.skip (Ent.refl _)))))) | exact Ent.skip (Ent.skip (Ent.skip (Ent.skip (Ent.skip (Ent.skip (Ent.skip (Ent.refl _))))))) | exact Ent.skip (Ent.skip (Ent.skip (Ent.skip (Ent.skip (Ent.skip (Ent.skip (Ent.skip (Ent.refl _)))))))) | exact Ent.skip (Ent.skip (Ent.skip (Ent.skip (Ent.skip (Ent.skip (Ent.skip (Ent.skip (Ent.skip (Ent.refl _)))))))))) ?_))
                refine wpList_nil ⟨rfl, hs.only2, ?_⟩
                refine wpAllP_next [9] (by kernel_rfl) (fun c hc => ?_)
                simp only [List.mem_singleton] at hc
                subst hc
                refine ⟨_, rfl, ?_⟩
                go_wp2
                refine ⟨hs.only2, ?_⟩
                refine wpAll_last [12] (by kernel_rfl) (fun c hc => ?_)
                simp only [List.mem_singleton] at hc
                subst hc
                refine ⟨_, rfl, ?_⟩
                go_wp2
                go_meet
                exact ⟨g36, rfl, rfl, hs.ent (by (repeat first | exact Ent.refl _ | refine Ent.step (by first | exact Ent.refl _ | exact Ent.skip (Ent.refl _) | exact Ent.skip (Ent.skip (Ent.refl _)) | exact Ent.skip (Ent.skip (Ent.skip (Ent.refl _))) | exact Ent.skip (Ent.skip (Ent.skip (Ent.skip (Ent.refl _)))) | exact Ent.skip (Ent.skip (Ent.skip (Ent.skip (Ent.skip (Ent.refl _))))) | exact Ent.skip (Ent.skip (Ent.skip (Ent.skip (Ent.skip (Ent.skip (Ent.refl _)))))) | exact Ent.skip (Ent.skip (Ent.skip (Ent.skip (Ent.skip (Ent.skip (Ent.skip (Ent.refl _))))))) | exact Ent.skip (Ent.skip (Ent.skip (Ent.skip (Ent.skip (Ent.skip (Ent.skip (Ent.skip (Ent.refl _)))))))) | exact Ent.skip (Ent.skip (Ent.skip (Ent.skip (Ent.skip (Ent.skip (Ent.skip (Ent.skip (Ent.skip (Ent.refl _)))))))))) ?_))⟩
            · skip
              refine ⟨_, rfl, ?_⟩
              go_wp2
              refine ⟨hs.only2, ?_⟩
              refine wpAllP_next [8] (by kernel_rfl) (fun c hc => ?_)
              simp only [List.mem_singleton] at hc
              subst hc
              refine ⟨_, rfl, ?_⟩
              go_wp2
              refine ⟨hs.only2, ?_⟩
              refine wpAllP_next [11] (by kernel_rfl) (fun c hc => ?_)
              simp only [List.mem_singleton] at hc
              subst hc
              refine ⟨_, rfl, ?_⟩
              refine wpl_store_agg (v := val3 u) rfl rfl (size3 _) (hs.ent (M := blk g36 (c3 V3.z).toArray 49 :: SlB X s :: blk g24 (c5o ⟨ok, oi, ov⟩).toArray 51 :: blk g25 (c3 v).toArray 49 :: DsB D t :: blk g14 (c3 d).toArray 23 :: []) (by (repeat first | exact Ent.refl _ | refine Ent.step (by first | exact Ent.refl _ | exact Ent.skip (Ent.refl _) | exact Ent.skip (Ent.skip (Ent.refl _)) | exact Ent.skip (Ent.skip (Ent.skip (Ent.refl _))) | exact Ent.skip (Ent.skip (Ent.skip (Ent.skip (Ent.refl _)))) | exact Ent.skip (Ent.skip (Ent.skip (Ent.skip (Ent.skip (Ent.refl _))))) | exact Ent.skip (Ent.skip (Ent.skip (Ent.skip (Ent.skip (Ent.skip (Ent.refl _)))))) | exact Ent.skip (Ent.skip (Ent.skip (Ent.skip (Ent.skip (Ent.skip (Ent.skip (Ent.refl _))))))) | exact Ent.skip (Ent.skip (Ent.skip (Ent.skip (Ent.skip (Ent.skip (Ent.skip (Ent.skip (Ent.refl _)))))))) | exact Ent.skip (Ent.skip (Ent.skip (Ent.skip (Ent.skip (Ent.skip (Ent.skip (Ent.skip (Ent.skip (Ent.refl _)))))))))) ?_))) WrA.slot3 ?_
              clear hs
              intro w hs
              replace hs : St w0 (SlB X s :: blk g24 (c5o ⟨ok, oi, ov⟩).toArray 51 :: blk g25 (c3 v).toArray 49 :: blk g36 (c3 u).toArray 49 :: DsB D t :: blk g14 (c3 d).toArray 23 :: []) w := hs.ent (by (repeat first | exact Ent.refl _ | refine Ent.step (by first | exact Ent.refl _ | exact Ent.skip (Ent.refl _) | exact Ent.skip (Ent.skip (Ent.refl _)) | exact Ent.skip (Ent.skip (Ent.skip (Ent.refl _))) | exact Ent.skip (Ent.skip (Ent.skip (Ent.skip (Ent.refl _)))) | exact Ent.skip (Ent.skip (Ent.skip (Ent.skip (Ent.skip (Ent.refl _))))) | exact Ent.skip (Ent.skip (Ent.skip (Ent.skip (Ent.skip (Ent.skip (Ent.refl _)))))) | exact Ent.skip (Ent.skip (Ent.skip (Ent.skip (Ent.skip (Ent.skip (Ent.skip (Ent.refl _))))))) | exact Ent.skip (Ent.skip (Ent.skip (Ent.skip (Ent.skip (Ent.skip (Ent.skip (Ent.skip (Ent.refl _)))))))) | exact Ent.skip (Ent.skip (Ent.skip (Ent.skip (Ent.skip (Ent.skip (Ent.skip (Ent.skip (Ent.skip (Ent.refl _)))))))))) ?_))
              refine wpList_nil ⟨rfl, hs.only2, ?_⟩
              refine wpAll_last [12] (by kernel_rfl) (fun c hc => ?_)
              simp only [List.mem_singleton] at hc
              subst hc
              refine ⟨_, rfl, ?_⟩
              go_wp2
              go_meet
              exact ⟨g36, rfl, rfl, hs.ent (by (repeat first | exact Ent.refl _ | refine Ent.step (by first | exact Ent.refl _ | exact Ent.skip (Ent.refl _) | exact Ent.skip (Ent.skip (Ent.refl _)) | exact Ent.skip (Ent.skip (Ent.skip (Ent.refl _))) | exact Ent.skip (Ent.skip (Ent.skip (Ent.skip (Ent.refl _)))) | exact Ent.skip (Ent.skip (Ent.skip (Ent.skip (Ent.skip (Ent.refl _))))) | exact Ent.skip (Ent.skip (Ent.skip (Ent.skip (Ent.skip (Ent.skip (Ent.refl _)))))) | exact Ent.skip (Ent.skip (Ent.skip (Ent.skip (Ent.skip (Ent.skip (Ent.skip (Ent.refl _))))))) | exact Ent.skip (Ent.skip (Ent.skip (Ent.skip (Ent.skip (Ent.skip (Ent.skip (Ent.skip (Ent.refl _)))))))) | exact Ent.skip (Ent.skip (Ent.skip (Ent.skip (Ent.skip (Ent.skip (Ent.skip (Ent.skip (Ent.skip (Ent.refl _)))))))))) ?_))⟩
        case rest =>
        clear hs
        obtain ⟨g36, rfl, rfl, hs⟩ := hcut
        replace hs : St w0 [DsB D t, blk g24 (c5o ⟨ok, oi, ov⟩).toArray 51, SlB X s, blk g36 (c3 u).toArray 49, blk g25 (c3 v).toArray 49, blk g14 (c3 d).toArray 23] _ := hs.ent (by (repeat first | exact Ent.refl _ | refine Ent.step (by first | exact Ent.refl _ | exact Ent.skip (Ent.refl _) | exact Ent.skip (Ent.skip (Ent.refl _)) | exact Ent.skip (Ent.skip (Ent.skip (Ent.refl _))) | exact Ent.skip (Ent.skip (Ent.skip (Ent.skip (Ent.refl _)))) | exact Ent.skip (Ent.skip (Ent.skip (Ent.skip (Ent.skip (Ent.refl _))))) | exact Ent.skip (Ent.skip (Ent.skip (Ent.skip (Ent.skip (Ent.skip (Ent.refl _)))))) | exact Ent.skip (Ent.skip (Ent.skip (Ent.skip (Ent.skip (Ent.skip (Ent.skip (Ent.refl _))))))) | exact Ent.skip (Ent.skip (Ent.skip (Ent.skip (Ent.skip (Ent.skip (Ent.skip (Ent.skip (Ent.refl _)))))))) | exact Ent.skip (Ent.skip (Ent.skip (Ent.skip (Ent.skip (Ent.skip (Ent.skip (Ent.skip (Ent.skip (Ent.refl _)))))))))) ?_))
        go_upto_region 42 with (fail)
        go_cut [38, 39] from 263 to 271 (fun pv hv wx => ∃ g38, pv = .pointer (some ⟨g38, 0, none⟩) ∧ hv = .bool b ∧ St w0 [DsB D t, blk g24 (c5o ⟨ok, oi, ov⟩).toArray 51, SlB X s, blk g36 (c3 u).toArray 49, blk g38 (c3 u).toArray 49, blk g25 (c3 v).toArray 49, blk g14 (c3 d).toArray 23] wx)
        case first =>
          refine wp_all_plain (n := 7) [false, false, false, false, false, true, true, true, true, true, true, true] hs.only2 (by kernel_rfl) (by kernel_rfl) (by kernel_rfl) fun hne => ?_
          have c1 := ((hr1 []).tail (p := DsB D t)).alln
          simp only [pickOps]
          repeat (go_big_quiet_step (fail))
          refine wpQuiet_nil ?_
          clear hne c1
          replace hs := hs.drew
          refine wpAllP_next [5, 9] (by kernel_rfl) (fun c hc => ?_)
          simp only [List.mem_cons, List.not_mem_nil, or_false] at hc
          rcases hc with rfl | rfl
          · skip
            refine ⟨_, rfl, ?_⟩
            go_wp2_with (first
              | (go_at_call 24; refine (ds_get hs HU2 HB2).mono ?_; rintro r w ⟨rfl, hg⟩; replace hs := hs.grew hg; clear hg))
            refine ⟨hs.only2, ?_⟩
            refine wpAllP_next [6, 9] (by kernel_rfl) (fun c hc => ?_)
            simp only [List.mem_cons, List.not_mem_nil, or_false] at hc
            rcases hc with rfl | rfl
            · skip
              refine ⟨_, rfl, ?_⟩
              go_wp2
              refine ⟨hs.only2, ?_⟩
              refine wpAllP_next [7, 8, 9] (by kernel_rfl) (fun c hc => ?_)
              simp only [List.mem_cons, List.not_mem_nil, or_false] at hc
              rcases hc with rfl | rfl | rfl
              · skip
                refine ⟨_, rfl, ?_⟩
                go_wp2
                refine ⟨hs.only2, ?_⟩
                refine wpAllP_next [8, 9] (by kernel_rfl) (fun c hc => ?_)
                simp only [List.mem_cons, List.not_mem_nil, or_false] at hc
                rcases hc with rfl | rfl
                · skip
                  refine ⟨_, rfl, ?_⟩
                  go_wp2
                  refine ⟨hs.only2, ?_⟩
                  refine wpAllP_next [9] (by kernel_rfl) (fun c hc => ?_)
                  simp only [List.mem_singleton] at hc
                  subst hc
                  refine ⟨_, rfl, ?_⟩
                  refine wpl_alloc zero3 hs ?_
                  clear hs
                  intro g38 w hs
                  replace hs : St w0 (blk g38 (c3 V3.z).toArray 49 :: _) w := hs
                  replace hs : St w0 (DsB D t :: blk g24 (c5o ⟨ok, oi, ov⟩).toArray 51 :: SlB X s :: blk g36 (c3 u).toArray 49 :: blk g38 (c3 V3.z).toArray 49 :: blk g25 (c3 v).toArray 49 :: blk g14 (c3 d).toArray 23 :: []) w := hs.ent (by (repeat first | exact Ent.refl _ | refine Ent.step (by first | exact Ent.refl _ | exact Ent.skip (Ent.refl _) | exact Ent.skip (Ent.skip (Ent.refl _)) | exact Ent.skip (Ent.skip (Ent.skip (Ent.refl _))) | exact Ent.skip (Ent.skip (Ent.skip (Ent.skip (Ent.refl _)))) | exact Ent.skip (Ent.skip (Ent.skip (Ent.skip (Ent.skip (Ent.refl _))))) | exact Ent.skip (Ent.skip (Ent.skip (Ent.skip (Ent.skip (Ent.skip (Ent.refl _)))))) | exact Ent.skip (Ent.skip (Ent.skip (Ent.skip (Ent.skip (Ent.skip (Ent.skip (Ent.refl _))))))) | exact Ent.skip (Ent.skip (Ent.skip (Ent.skip (Ent.skip (Ent.skip (Ent.skip (Ent.skip (Ent.refl _)))))))) | exact Ent.skip (Ent.skip (Ent.skip (Ent.skip (Ent.skip (Ent.skip (Ent.skip (Ent.skip (Ent.skip (Ent.refl _)))))))))) ?_))
                  refine wpList_nil ⟨rfl, hs.only2, ?_⟩
                  refine wpAllP_next [10] (by kernel_rfl) (fun c hc => ?_)
                  simp only [List.mem_singleton] at hc
                  subst hc
                  refine ⟨_, rfl, ?_⟩
                  refine wpl_store_agg (v := val3 u) rfl rfl (size3 _) (hs.ent (M := blk g38 (c3 V3.z).toArray 49 :: DsB D t :: blk g24 (c5o ⟨ok, oi, ov⟩).toArray 51 :: SlB X s :: blk g36 (c3 u).toArray 49 :: blk g25 (c3 v).toArray 49 :: blk g14 (c3 d).toArray 23 :: []) (by (repeat first | exact Ent.refl _ | refine Ent.step (by first | exact Ent.refl _ | exact Ent.skip (Ent.refl _) | exact Ent.skip (Ent.skip (Ent.refl _)) | exact Ent.skip (Ent.skip (Ent.skip (Ent.refl _))) | exact Ent.skip (Ent.skip (Ent.skip (Ent.skip (Ent.refl _)))) | exact Ent.skip (Ent.skip (Ent.skip (Ent.skip (Ent.skip (Ent.refl _))))) | exact Ent.skip (Ent.skip (Ent.skip (Ent.skip (Ent.skip (Ent.skip (Ent.refl _)))))) | exact Ent.skip (Ent.skip (Ent.skip (Ent.skip (Ent.skip (Ent.skip (Ent.skip (Ent.refl _))))))) | exact Ent.skip (Ent.skip (Ent.skip (Ent.skip (Ent.skip (Ent.skip (Ent.skip (Ent.skip (Ent.refl _)))))))) | exact Ent.skip (Ent.skip (Ent.skip (Ent.skip (Ent.skip (Ent.skip (Ent.skip (Ent.skip (Ent.skip (Ent.refl _)))))))))) ?_))) WrA.slot3 ?_
                  clear hs
                  intro w hs
                  replace hs : St w0 (DsB D t :: blk g24 (c5o ⟨ok, oi, ov⟩).toArray 51 :: SlB X s :: blk g36 (c3 u).toArray 49 :: blk g38 (c3 u).toArray 49 :: blk g25 (c3 v).toArray 49 :: blk g14 (c3 d).toArray 23 :: []) w := hs.ent (by (repeat first | exact Ent.refl _ | refine Ent.step (by first | exact Ent.refl _ | exact Ent.skip (Ent.refl _) | exact Ent.skip (Ent.skip (Ent.refl _)) | exact Ent.skip (Ent.skip (Ent.skip (Ent.refl _))) | exact Ent.skip (Ent.skip (Ent.skip (Ent.skip (Ent.refl _)))) | exact Ent.skip (Ent.skip (Ent.skip (Ent.skip (Ent.skip (Ent.refl _))))) | exact Ent.skip (Ent.skip (Ent.skip (Ent.skip (Ent.skip (Ent.skip (Ent.refl _)))))) | exact Ent.skip (Ent.skip (Ent.skip (Ent.skip (Ent.skip (Ent.skip (Ent.skip (Ent.refl _))))))) | exact Ent.skip (Ent.skip (Ent.skip (Ent.skip (Ent.skip (Ent.skip (Ent.skip (Ent.skip (Ent.refl _)))))))) | exact Ent.skip (Ent.skip (Ent.skip (Ent.skip (Ent.skip (Ent.skip (Ent.skip (Ent.skip (Ent.skip (Ent.refl _)))))))))) ?_))
                  refine wpList_nil ⟨rfl, hs.only2, ?_⟩
                  refine wpAll_last [11] (by kernel_rfl) (fun c hc => ?_)
                  simp only [List.mem_singleton] at hc
                  subst hc
                  refine ⟨_, rfl, ?_⟩
                  go_wp2
                  go_meet
                  exact ⟨g38, rfl, rfl, hs.ent (by (repeat first | exact Ent.refl _ | refine Ent.step (by first | exact Ent.refl _ | exact Ent.skip (Ent.refl _) | exact Ent.skip (Ent.skip (Ent.refl _)) | exact Ent.skip (Ent.skip (Ent.skip (Ent.refl _))) | exact Ent.skip (Ent.skip (Ent.skip (Ent.skip (Ent.refl _)))) | exact Ent.skip (Ent.skip (Ent.skip (Ent.skip (Ent.skip (Ent.refl _))))) | exact Ent.skip (Ent.skip (Ent.skip (Ent.skip (Ent.skip (Ent.skip (Ent.refl _)))))) | exact Ent.skip (Ent.skip (Ent.skip (Ent.skip (Ent.skip (Ent.skip (Ent.skip (Ent.refl _))))))) | exact Ent.skip (Ent.skip (Ent.skip (Ent.skip (Ent.skip (Ent.skip (Ent.skip (Ent.skip (Ent.refl _)))))))) | exact Ent.skip (Ent.skip (Ent.skip (Ent.skip (Ent.skip (Ent.skip (Ent.skip (Ent.skip (Ent.skip (Ent.refl _)))))))))) ?_))⟩
                · skip
                  refine ⟨_, rfl, ?_⟩
                  refine wpl_alloc zero3 hs ?_
                  clear hs
                  intro g38 w hs
                  replace hs : St w0 (blk g38 (c3 V3.z).toArray 49 :: _) w := hs
                  replace hs : St w0 (DsB D t :: blk g24 (c5o ⟨ok, oi, ov⟩).toArray 51 :: SlB X s :: blk g36 (c3 u).toArray 49 :: blk g38 (c3 V3.z).toArray 49 :: blk g25 (c3 v).toArray 49 :: blk g14 (c3 d).toArray 23 :: []) w := hs.ent (by (repeat first | exact Ent.refl _ | refine Ent.step (by first | exact Ent.refl _ | exact Ent.skip (Ent.refl _) | exact Ent.skip (Ent.skip (Ent.refl _)) | exact Ent.skip (Ent.skip (Ent.skip (Ent.refl _))) | exact Ent.skip (Ent.skip (Ent.skip (Ent.skip (Ent.refl _)))) | exact Ent.skip (Ent.skip (Ent.skip (Ent.skip (Ent.skip (Ent.refl _))))) | exact Ent.skip (Ent.skip (Ent.skip (Ent.skip (Ent.skip (Ent.skip (Ent.refl _)))))) | exact Ent.skip (Ent.skip (Ent.skip (Ent.skip (Ent.skip (Ent.skip (Ent.skip (Ent.refl _))))))) | exact Ent.skip (Ent.skip (Ent.skip (Ent.skip (Ent.skip (Ent.skip (Ent.skip (Ent.skip (Ent.refl _)))))))) | exact Ent.skip (Ent.skip (Ent.skip (Ent.skip (Ent.skip (Ent.skip (Ent.skip (Ent.skip (Ent.skip (Ent.refl _)))))))))) ?_))
                  refine wpList_nil ⟨rfl, hs.only2, ?_⟩
                  refine wpAllP_next [8, 10] (by kernel_rfl) (fun c hc => ?_)
                  simp only [List.mem_cons, List.not_mem_nil, or_false] at hc
                  rcases hc with rfl | rfl
                  · skip
                    refine ⟨_, rfl, ?_⟩
                    go_wp2
                    refine ⟨hs.only2, ?_⟩
                    refine wpAllP_next [10] (by kernel_rfl) (fun c hc => ?_)
                    simp only [List.mem_singleton] at hc
                    subst hc
                    refine ⟨_, rfl, ?_⟩
                    refine wpl_store_agg (v := val3 u) rfl rfl (size3 _) (hs.ent (M := blk g38 (c3 V3.z).toArray 49 :: DsB D t :: blk g24 (c5o ⟨ok, oi, ov⟩).toArray 51 :: SlB X s :: blk g36 (c3 u).toArray 49 :: blk g25 (c3 v).toArray 49 :: blk g14 (c3 d).toArray 23 :: []) (by (repeat first | exact Ent.refl _ | refine Ent.step (by first | exact Ent.refl _ | exact Ent.skip (Ent.refl _) | exact Ent.skip (Ent.skip (Ent.refl _)) | exact Ent.skip (Ent.skip (Ent.skip (Ent.refl _))) | exact Ent.skip (Ent.skip (Ent.skip (Ent.skip (Ent.refl _)))) | exact Ent.skip (Ent.skip (Ent.skip (Ent.skip (Ent.skip (Ent.refl _))))) | exact Ent.skip (Ent.skip (Ent.skip (Ent.skip (Ent.skip (Ent.skip (Ent.refl _)))))) | exact Ent.skip (Ent.skip (Ent.skip (Ent.skip (Ent.skip (Ent.skip (Ent.skip (Ent.refl _))))))) | exact Ent.skip (Ent.skip (Ent.skip (Ent.skip (Ent.skip (Ent.skip (Ent.skip (Ent.skip (Ent.refl _)))))))) | exact Ent.skip (Ent.skip (Ent.skip (Ent.skip (Ent.skip (Ent.skip (Ent.skip (Ent.skip (Ent.skip (Ent.refl _)))))))))) ?_))) WrA.slot3 ?_
                    clear hs
                    intro w hs
                    replace hs : St w0 (DsB D t :: blk g24 (c5o ⟨ok, oi, ov⟩).toArray 51 :: SlB X s :: blk g36 (c3 u).toArray 49 :: blk g38 (c3 u).toArray 49 :: blk g25 (c3 v).toArray 49 :: blk g14 (c3 d).toArray 23 :: []) w := hs.ent (by (repeat first | exact Ent.refl _ | refine Ent.step (by first | exact Ent.refl _ | exact Ent.skip (Ent.refl _) | exact Ent.skip (Ent.skip (Ent.refl _)) | exact Ent.skip (Ent.skip (Ent.skip (Ent.refl _))) | exact Ent.skip (Ent.skip (Ent.skip (Ent.skip (Ent.refl _)))) | exact Ent.skip (Ent.skip (Ent.skip (Ent.skip (Ent.skip (Ent.refl _))))) | exact Ent.skip (Ent.skip (Ent.skip (Ent.skip (Ent.skip (Ent.skip (Ent.refl _)))))) | exact Ent.skip (Ent.skip (Ent.skip (Ent.skip (Ent.skip (Ent.skip (Ent.skip (Ent.refl _))))))) | exact Ent.skip (Ent.skip (Ent.skip (Ent.skip (Ent.skip (Ent.skip (Ent.skip (Ent.skip (Ent.refl _)))))))) | exact Ent.skip (Ent.skip (Ent.skip (Ent.skip (Ent.skip (Ent.skip (Ent.skip (Ent.skip (Ent.skip (Ent.refl _)))))))))) ?_))
                    refine wpList_nil ⟨rfl, hs.only2, ?_⟩
                    refine wpAll_last [11] (by kernel_rfl) (fun c hc => ?_)
                    simp only [List.mem_singleton] at hc
                    subst hc
                    refine ⟨_, rfl, ?_⟩
                    go_wp2
                    go_meet
                    exact ⟨g38, rfl, rfl, hs.ent (by (repeat first | exact Ent.refl _ | refine Ent.step (by first | exact Ent.refl _ | exact Ent.skip (Ent.refl _) | exact Ent.skip (Ent.skip (Ent.refl _)) | exact Ent.skip (Ent.skip (Ent.skip (Ent.refl _))) | exact Ent.skip (Ent.skip (Ent.skip (Ent.skip (Ent.refl _)))) | exact Ent.skip (Ent.skip (Ent.skip (Ent.skip (Ent.skip (Ent.refl _))))) | exact Ent.skip (Ent.skip (Ent.skip (Ent.skip (Ent.skip (Ent.skip (Ent.refl _)))))) | exact Ent.skip (Ent.skip (Ent.skip (Ent.skip (Ent.skip (Ent.skip (Ent.skip (Ent.refl _))))))) | exact Ent.skip (Ent.skip (Ent.skip (Ent.skip (Ent.skip (Ent.skip (Ent.skip (Ent.skip (Ent.refl _)))))))) | exact Ent.skip (Ent.skip (Ent.skip (Ent.skip (Ent.skip (Ent.skip (Ent.skip (Ent.skip (Ent.skip (Ent.refl _)))))))))) ?_))⟩
                  · skip
                    refine ⟨_, rfl, ?_⟩
                    refine wpl_store_agg (v := val3 u) rfl rfl (size3 _) (hs.ent (M := blk g38 (c3 V3.z).toArray 49 :: DsB D t :: blk g24 (c5o ⟨ok, oi, ov⟩).toArray 51 :: SlB X s :: blk g36 (c3 u).toArray 49 :: blk g25 (c3 v).toArray 49 :: blk g14 (c3 d).toArray 23 :: []) (by (repeat first | exact Ent.refl _ | refine Ent.step (by first | exact Ent.refl _ | exact Ent.skip (Ent.refl _) | exact Ent.skip (Ent.skip (Ent.refl _)) | exact Ent.skip (Ent.skip (Ent.skip (Ent.refl _))) | exact Ent.skip (Ent.skip (Ent.skip (Ent.skip (Ent.refl _)))) | exact Ent.skip (Ent.skip (Ent.skip (Ent.skip (Ent.skip (Ent.refl _))))) | exact Ent.skip (Ent.skip (Ent.skip (Ent.skip (Ent.skip (Ent.skip (Ent.refl _)))))) | exact Ent.skip (Ent.skip (Ent.skip (Ent.skip (Ent.skip (Ent.skip (Ent.skip (Ent.refl _))))))) | exact Ent.skip (Ent.skip (Ent.skip (Ent.skip (Ent.skip (Ent.skip (Ent.skip (Ent.skip (Ent.refl _)))))))) | exact Ent.skip (Ent.skip (Ent.skip (Ent.skip (Ent.skip (Ent.skip (Ent.skip (Ent.skip (Ent.skip (Ent.refl _)))))))))) ?_))) WrA.slot3 ?_
                    clear hs
                    intro w hs
                    replace hs : St w0 (DsB D t :: blk g24 (c5o ⟨ok, oi, ov⟩).toArray 51 :: SlB X s :: blk g36 (c3 u).toArray 49 :: blk g38 (c3 u).toArray 49 :: blk g25 (c3 v).toArray 49 :: blk g14 (c3 d).toArray 23 :: []) w := hs.ent (by (repeat first | exact Ent.refl _ | refine Ent.step (by first | exact Ent.refl _ | exact Ent.skip (Ent.refl _) | exact Ent.skip (Ent.skip (Ent.refl _)) | exact Ent.skip (Ent.skip (Ent.skip (Ent.refl _))) | exact Ent.skip (Ent.skip (Ent.skip (Ent.skip (Ent.refl _)))) | exact Ent.skip (Ent.skip (Ent.skip (Ent.skip (Ent.skip (Ent.refl _))))) | exact Ent.skip (Ent.skip (Ent.skip (Ent.skip (Ent.skip (Ent.skip (Ent.refl _)))))) | exact Ent.skip (Ent.skip (Ent.skip (Ent.skip (Ent.skip (Ent.skip (Ent.skip (Ent.refl _))))))) | exact Ent.skip (Ent.skip (Ent.skip (Ent.skip (Ent.skip (Ent.skip (Ent.skip (Ent.skip (Ent.refl _)))))))) | exact Ent.skip (Ent.skip (Ent.skip (Ent.skip (Ent.skip (Ent.skip (Ent.skip (Ent.skip (Ent.skip (Ent.refl _)))))))))) ?_))
                    refine wpList_nil ⟨rfl, hs.only2, ?_⟩
                    refine wpAllP_next [8] (by kernel_rfl) (fun c hc => ?_)
                    simp only [List.mem_singleton] at hc
                    subst hc
                    refine ⟨_, rfl, ?_⟩
                    go_wp2
                    refine ⟨hs.only2, ?_⟩
                    refine wpAll_last [11] (by kernel_rfl) (fun c hc => ?_)
                    simp only [List.mem_singleton] at hc
                    subst hc
                    refine ⟨_, rfl, ?_⟩
                    go_wp2
                    go_meet
                    exact ⟨g38, rfl, rfl, hs.ent (by (repeat first | exact Ent.refl _ | refine Ent.step (by first | exact Ent.refl _ | exact Ent.skip (Ent.refl _) | exact Ent.skip (Ent.skip (Ent.refl _)) | exact Ent.skip (Ent.skip (Ent.skip (Ent.refl _))) | exact Ent.skip (Ent.skip (Ent.skip (Ent.skip (Ent.refl _)))) | exact Ent.skip (Ent.skip (Ent.skip (Ent.skip (Ent.skip (Ent.refl _))))) | exact Ent.skip (Ent.skip (Ent.skip (Ent.skip (Ent.skip (Ent.skip (Ent.refl _)))))) | exact Ent.skip (Ent.skip (Ent.skip (Ent.skip (Ent.skip (Ent.skip (Ent.skip (Ent.refl _))))))) | exact Ent.skip (Ent.skip (Ent.skip (Ent.skip (Ent.skip (Ent.skip (Ent.skip (Ent.skip (Ent.refl _)))))))) | exact Ent.skip (Ent.skip (Ent.skip (Ent.skip (Ent.skip (Ent.skip (Ent.skip (Ent.skip (Ent.skip (Ent.refl _)))))))))) ?_))⟩
              · skip
                refine ⟨_, rfl, ?_⟩
                go_wp2
                refine ⟨hs.only2, ?_⟩
                refine wpAllP_next [7, 9] (by kernel_rfl) (fun c hc => ?_)
                simp only [List.mem_cons, List.not_mem_nil, or_false] at hc
                rcases hc with rfl | rfl
                · skip
                  refine ⟨_, rfl, ?_⟩
                  go_wp2
                  refine ⟨hs.only2, ?_⟩
                  refine wpAllP_next [9] (by kernel_rfl) (fun c hc => ?_)
                  simp only [List.mem_singleton] at hc
                  subst hc
                  refine ⟨_, rfl, ?_⟩
                  refine wpl_alloc zero3 hs ?_
                  clear hs
                  intro g38 w hs
                  replace hs : St w0 (blk g38 (c3 V3.z).toArray 49 :: _) w := hs
                  replace hs : St w0 (DsB D t :: blk g24 (c5o ⟨ok, oi, ov⟩).toArray 51 :: SlB X s :: blk g36 (c3 u).toArray 49 :: blk g38 (c3 V3.z).toArray 49 :: blk g25 (c3 v).toArray 49 :: blk g14 (c3 d).toArray 23 :: []) w := hs.ent (by (repeat first | exact Ent.refl _ | refine Ent.step (by first | exact Ent.refl _ | exact Ent.skip (Ent.refl _) | exact Ent.skip (Ent.skip (Ent.refl _)) | exact Ent.skip (Ent.skip (Ent.skip (Ent.refl _))) | exact Ent.skip (Ent.skip (Ent.skip (Ent.skip (Ent.refl _)))) | exact Ent.skip (Ent.skip (Ent.skip (Ent.skip (Ent.skip (Ent.refl _))))) | exact Ent.skip (Ent.skip (Ent.skip (Ent.skip (Ent.skip (Ent.skip (Ent.refl _)))))) | exact Ent.skip (Ent.skip (Ent.skip (Ent.skip (Ent.skip (Ent.skip (Ent.skip (Ent.refl _))))))) | exact Ent.skip (Ent.skip (Ent.skip (Ent.skip (Ent.skip (Ent.skip (Ent.skip (Ent.skip (Ent.refl _)))))))) | exact Ent.skip (Ent.skip (Ent.skip (Ent.skip (Ent.skip (Ent.skip (Ent.skip (Ent.skip (Ent.skip (Ent.refl _)))))))))) ?_))
                  refine wpList_nil ⟨rfl, hs.only2, ?_⟩
                  refine wpAllP_next [10] (by kernel_rfl) (fun c hc => ?_)
                  simp only [List.mem_singleton] at hc
                  subst hc
                  refine ⟨_, rfl, ?_⟩
                  refine wpl_store_agg (v := val3 u) rfl rfl (size3 _) (hs.ent (M := blk g38 (c3 V3.z).toArray 49 :: DsB D t :: blk g24 (c5o ⟨ok, oi, ov⟩).toArray 51 :: SlB X s :: blk g36 (c3 u).toArray 49 :: blk g25 (c3 v).toArray 49 :: blk g14 (c3 d).toArray 23 :: []) (by (repeat first | exact Ent.refl _ | refine Ent.step (by first | exact Ent.refl _ | exact Ent.skip (Ent.refl _) | exact Ent.skip (Ent.skip (Ent.refl _)) | exact Ent.skip (Ent.skip (Ent.skip (Ent.refl _))) | exact Ent.skip (Ent.skip (Ent.skip (Ent.skip (Ent.refl _)))) | exact Ent.skip (Ent.skip (Ent.skip (Ent.skip (Ent.skip (Ent.refl _))))) | exact Ent.skip (Ent.skip (Ent.skip (Ent.skip (Ent.skip (Ent.skip (Ent.refl _)))))) | exact Ent.skip (Ent.skip (Ent.skip (Ent.skip (Ent.skip (Ent.skip (Ent.skip (Ent.refl _))))))) | exact Ent.skip (Ent.skip (Ent.skip (Ent.skip (Ent.skip (Ent.skip (Ent.skip (Ent.skip (Ent.refl _)))))))) | exact Ent.skip (Ent.skip (Ent.skip (Ent.skip (Ent.skip (Ent.skip (Ent.skip (Ent.skip (Ent.skip (Ent.refl _)))))))))) ?_))) WrA.slot3 ?_
                  clear hs
                  intro w hs
                  replace hs : St w0 (DsB D t :: blk g24 (c5o ⟨ok, oi, ov⟩).toArray 51 :: SlB X s :: blk g36 (c3 u).toArray 49 :: blk g38 (c3 u).toArray 49 :: blk g25 (c3 v).toArray 49 :: blk g14 (c3 d).toArray 23 :: []) w := hs.ent (by (repeat first | exact Ent.refl _ | refine Ent.step (by first | exact Ent.refl _ | exact Ent.skip (Ent.refl _) | exact Ent.skip (Ent.skip (Ent.refl _)) | exact Ent.skip (Ent.skip (Ent.skip (Ent.refl _))) | exact Ent.skip (Ent.skip (Ent.skip (Ent.skip (Ent.refl _)))) | exact Ent.skip (Ent.skip (Ent.skip (Ent.skip (Ent.skip (Ent.refl _))))) | exact Ent.skip (Ent.skip (Ent.skip (Ent.skip (Ent.skip (Ent.skip (Ent.refl _)))))) | exact Ent.skip (Ent.skip (Ent.skip (Ent.skip (Ent.skip (Ent.skip (Ent.skip (Ent.refl _))))))) | exact Ent.skip (Ent.skip (Ent.skip (Ent.skip (Ent.skip (Ent.skip (Ent.skip (Ent.skip (Ent.refl _)))))))) | exact Ent.skip (Ent.skip (Ent.skip (Ent.skip (Ent.skip (Ent.skip (Ent.skip (Ent.skip (Ent.skip (Ent.refl _)))))))))) ?_))
                  refine wpList_nil ⟨rfl, hs.only2, ?_⟩
                  refine wpAll_last [11] (by kernel_rfl) (fun c hc => ?_)
                  simp only [List.mem_singleton] at hc
                  subst hc
                  refine ⟨_, rfl, ?_⟩
                  go_wp2
                  go_meet
                  exact ⟨g38, rfl, rfl, hs.ent (by (repeat first | exact Ent.refl _ | refine Ent.step (by first | exact Ent.refl _ | exact Ent.skip (Ent.refl _) | exact Ent.skip (Ent.skip (Ent.refl _)) | exact Ent.skip (Ent.skip (Ent.skip (Ent.refl _))) | exact Ent.skip (Ent.skip (Ent.skip (Ent.skip (Ent.refl _)))) | exact Ent.skip (Ent.skip (Ent.skip (Ent.skip (Ent.skip (Ent.refl _))))) | exact Ent.skip (Ent.skip (Ent.skip (Ent.skip (Ent.skip (Ent.skip (Ent.refl _)))))) | exact Ent.skip (Ent.skip (Ent.skip (Ent.skip (Ent.skip (Ent.skip (Ent.skip (Ent.refl _))))))) | exact Ent.skip (Ent.skip (Ent.skip (Ent.skip (Ent.skip (Ent.skip (Ent.skip (Ent.skip (Ent.refl _)))))))) | exact Ent.skip (Ent.skip (Ent.skip (Ent.skip (Ent.skip (Ent.skip (Ent.skip (Ent.skip (Ent.skip (Ent.refl _)))))))))) ?_))⟩
                · skip
                  refine ⟨_, rfl, ?_⟩
                  refine wpl_alloc zero3 hs ?_
                  clear hs
                  intro g38 w hs
                  replace hs : St w0 (blk g38 (c3 V3.z).toArray 49 :: _) w := hs
                  replace hs : St w0 (DsB D t :: blk g24 (c5o ⟨ok, oi, ov⟩).toArray 51 :: SlB X s :: blk g36 (c3 u).toArray 49 :: blk g38 (c3 V3.z).toArray 49 :: blk g25 (c3 v).toArray 49 :: blk g14 (c3 d).toArray 23 :: []) w := hs.ent (by (repeat first | exact Ent.refl _ | refine Ent.step (by first | exact Ent.refl _ | exact Ent.skip (Ent.refl _) | exact Ent.skip (Ent.skip (Ent.refl _)) | exact Ent.skip (Ent.skip (Ent.skip (Ent.refl _))) | exact Ent.skip (Ent.skip (Ent.skip (Ent.skip (Ent.refl _)))) | exact Ent.skip (Ent.skip (Ent.skip (Ent.skip (Ent.skip (Ent.refl _))))) | exact Ent.skip (Ent.skip (Ent.skip (Ent.skip (Ent.skip (Ent.skip (Ent.refl _)))))) | exact Ent.skip (Ent.skip (Ent.skip (Ent.skip (Ent.skip (Ent.skip (Ent.skip (Ent.refl _))))))) | exact Ent.skip (Ent.skip (Ent.skip (Ent.skip (Ent.skip (Ent.skip (Ent.skip (Ent.skip (Ent.refl _)))))))) | exact Ent.skip (Ent.skip (Ent.skip (Ent.skip (Ent.skip (Ent.skip (Ent.skip (Ent.skip (Ent.skip (Ent.refl _)))))))))) ?_))
                  refine wpList_nil ⟨rfl, hs.only2, ?_⟩
                  refine wpAllP_next [7] (by kernel_rfl) (fun c hc => ?_)
                  simp only [List.mem_singleton] at hc
                  subst hc
                  refine ⟨_, rfl, ?_⟩
                  go_wp2
                  refine ⟨hs.only2, ?_⟩
                  refine wpAllP_next [10] (by kernel_rfl) (fun c hc => ?_)
                  simp only [List.mem_singleton] at hc
                  subst hc
                  refine ⟨_, rfl, ?_⟩
                  refine wpl_store_agg (v := val3 u) rfl rfl (size3 _) (hs.ent (M := blk g38 (c3 V3.z).toArray 49 :: DsB D t :: blk g24 (c5o ⟨ok, oi, ov⟩).toArray 51 :: SlB X s :: blk g36 (c3 u).toArray 49 :: blk g25 (c3 v).toArray 49 :: blk g14 (c3 d).toArray 23 :: []) (by (repeat first | exact Ent.refl _ | refine Ent.step (by first | exact Ent.refl _ | exact Ent.skip (Ent.refl _) | exact Ent.skip (Ent.skip (Ent.refl _)) | exact Ent.skip (Ent.skip (Ent.skip (Ent.refl _))) | exact Ent.skip (Ent.skip (Ent.skip (Ent.skip (Ent.refl _)))) | exact Ent.skip (Ent.skip (Ent.skip (Ent.skip (Ent.skip (Ent.refl _))))) | exact Ent.skip (Ent.skip (Ent.skip (Ent.skip (Ent.skip (Ent.skip (Ent.refl _)))))) | exact Ent.skip (Ent.skip (Ent.skip (Ent.skip (Ent.skip (Ent.skip (Ent.skip (Ent.refl _))))))) | exact Ent.skip (Ent.skip (Ent.skip (Ent.skip (Ent.skip (Ent.skip (Ent.skip (Ent.skip (Ent.refl _)))))))) | exact Ent.skip (Ent.skip (Ent.skip (Ent.skip (Ent.skip (Ent.skip (Ent.skip (Ent.skip (Ent.skip (Ent.refl _)))))))))) ?_))) WrA.slot3 ?_
                  clear hs
                  intro w hs
                  replace hs : St w0 (DsB D t :: blk g24 (c5o ⟨ok, oi, ov⟩).toArray 51 :: SlB X s :: blk g36 (c3 u).toArray 49 :: blk g38 (c3 u).toArray 49 :: blk g25 (c3 v).toArray 49 :: blk g14 (c3 d).toArray 23 :: []) w := hs.ent (by (repeat first | exact Ent.refl _ | refine Ent.step (by first | exact Ent.refl _ | exact Ent.skip (Ent.refl _) | exact Ent.skip (Ent.skip (Ent.refl _)) | exact Ent.skip (Ent.skip (Ent.skip (Ent.refl _))) | exact Ent.skip (Ent.skip (Ent.skip (Ent.skip (Ent.refl _)))) | exact Ent.skip (Ent.skip (Ent.skip (Ent.skip (Ent.skip (Ent.refl _))))) | exact Ent.skip (Ent.skip (Ent.skip (Ent.skip (Ent.skip (Ent.skip (Ent.refl _)))))) | exact Ent.skip (Ent.skip (Ent.skip (Ent.skip (Ent.skip (Ent.skip (Ent.skip (Ent.refl _))))))) | exact Ent.skip (Ent.skip (Ent.skip (Ent.skip (Ent.skip (Ent.skip (Ent.skip (Ent.skip (Ent.refl _)))))))) | exact Ent.skip (Ent.skip (Ent.skip (Ent.skip (Ent.skip (Ent.skip (Ent.skip (Ent.skip (Ent.skip (Ent.refl _)))))))))) ?_))
                  refine wpList_nil ⟨rfl, hs.only2, ?_⟩
                  refine wpAll_last [11] (by kernel_rfl) (fun c hc => ?_)
                  simp only [List.mem_singleton] at hc
                  subst hc
                  refine ⟨_, rfl, ?_⟩
                  go_wp2
                  go_meet
                  exact ⟨g38, rfl, rfl, hs.ent (by (repeat first | exact Ent.refl _ | refine Ent.step (by first | exact Ent.refl _ | exact Ent.skip (Ent.refl _) | exact Ent.skip (Ent.skip (Ent.refl _)) | exact Ent.skip (Ent.skip (Ent.skip (Ent.refl _))) | exact Ent.skip (Ent.skip (Ent.skip (Ent.skip (Ent.refl _)))) | exact Ent.skip (Ent.skip (Ent.skip (Ent.skip (Ent.skip (Ent.refl _))))) | exact Ent.skip (Ent.skip (Ent.skip (Ent.skip (Ent.skip (Ent.skip (Ent.refl _)))))) | exact Ent.skip (Ent.skip (Ent.skip (Ent.skip (Ent.skip (Ent.skip (Ent.skip (Ent.refl _))))))) | exact Ent.skip (Ent.skip (Ent.skip (Ent.skip (Ent.skip (Ent.skip (Ent.skip (Ent.skip (Ent.refl _)))))))) | exact Ent.skip (Ent.skip (Ent.skip (Ent.skip (Ent.skip (Ent.skip (Ent.skip (Ent.skip (Ent.skip (Ent.refl _)))))))))) ?_))⟩
              · skip
                refine ⟨_, rfl, ?_⟩
                refine wpl_alloc zero3 hs ?_
                clear hs
                intro g38 w hs
                replace hs : St w0 (blk g38 (c3 V3.z).toArray 49 :: _) w := hs
                replace hs : St w0 (DsB D t :: blk g24 (c5o ⟨ok, oi, ov⟩).toArray 51 :: SlB X s :: blk g36 (c3 u).toArray 49 :: blk g38 (c3 V3.z).toArray 49 :: blk g25 (c3 v).toArray 49 :: blk g14 (c3 d).toArray 23 :: []) w := hs.ent (by (repeat first | exact Ent.refl _ | refine Ent.step (by first | exact Ent.refl _ | exact Ent.skip (Ent.refl _) | exact Ent.skip (Ent.skip (Ent.refl _)) | exact Ent.skip (Ent.skip (Ent.skip (Ent.refl _))) | exact Ent.skip (Ent.skip (Ent.skip (Ent.skip (Ent.refl _)))) | exact Ent.skip (Ent.skip (Ent.skip (Ent.skip (Ent.skip (Ent.refl _))))) | exact Ent.skip (Ent.skip (Ent.skip (Ent.skip (Ent.skip (Ent.skip (Ent.refl _)))))) | exact Ent.skip (Ent.skip (Ent.skip (Ent.skip (Ent.skip (Ent.skip (Ent.skip (Ent.refl _))))))) | exact Ent.skip (Ent.skip (Ent.skip (Ent.skip (Ent.skip (Ent.skip (Ent.skip (Ent.skip (Ent.refl _)))))))) | exact Ent.skip (Ent.skip (Ent.skip (Ent.skip (Ent.skip (Ent.skip (Ent.skip (Ent.skip (Ent.skip (Ent.refl _)))))))))) ?_))
                refine wpList_nil ⟨rfl, hs.only2, ?_⟩
                refine wpAllP_next [7, 8] (by kernel_rfl) (fun c hc => ?_)
                simp only [List.mem_cons, List.not_mem_nil, or_false] at hc
                rcases hc with rfl | rfl
                · skip
                  refine ⟨_, rfl, ?_⟩
                  go_wp2
                  refine ⟨hs.only2, ?_⟩
                  refine wpAllP_next [8, 10] (by kernel_rfl) (fun c hc => ?_)
                  simp only [List.mem_cons, List.not_mem_nil, or_false] at hc
                  rcases hc with rfl | rfl
                  · skip
                    refine ⟨_, rfl, ?_⟩
                    go_wp2
                    refine ⟨hs.only2, ?_⟩
                    refine wpAllP_next [10] (by kernel_rfl) (fun c hc => ?_)
                    simp only [List.mem_singleton] at hc
                    subst hc
                    refine ⟨_, rfl, ?_⟩
                    refine wpl_store_agg (v := val3 u) rfl rfl (size3 _) (hs.ent (M := blk g38 (c3 V3.z).toArray 49 :: DsB D t :: blk g24 (c5o ⟨ok, oi, ov⟩).toArray 51 :: SlB X s :: blk g36 (c3 u).toArray 49 :: blk g25 (c3 v).toArray 49 :: blk g14 (c3 d).toArray 23 :: []) (by (repeat first | exact Ent.refl _ | refine Ent.step (by first | exact Ent.refl _ | exact Ent.skip (Ent.refl _) | exact Ent.skip (Ent.skip (Ent.refl _)) | exact Ent.skip (Ent.skip (Ent.skip (Ent.refl _))) | exact Ent.skip (Ent.skip (Ent.skip (Ent.skip (Ent.refl _)))) | exact Ent.skip (Ent.skip (Ent.skip (Ent.skip (Ent.skip (Ent.refl _))))) | exact Ent.skip (Ent.skip (Ent.skip (Ent.skip (Ent.skip (Ent.skip (Ent.refl _)))))) | exact Ent.skip (Ent.skip (Ent.skip (Ent.skip (Ent.skip (Ent.skip (Ent.skip (Ent.refl _))))))) | exact Ent.skip (Ent.skip (Ent.skip (Ent.skip (Ent.skip (Ent.skip (Ent.skip (Ent.skip (Ent.refl _)))))))) | exact Ent.skip (Ent.skip (Ent.skip (Ent.skip (Ent.skip (Ent.skip (Ent.skip (Ent.skip (Ent.skip (Ent.refl _)))))))))) ?_))) WrA.slot3 ?_
                    clear hs
                    intro w hs
                    replace hs : St w0 (DsB D t :: blk g24 (c5o ⟨ok, oi, ov⟩).toArray 51 :: SlB X s :: blk g36 (c3 u).toArray 49 :: blk g38 (c3 u).toArray 49 :: blk g25 (c3 v).toArray 49 :: blk g14 (c3 d).toArray 23 :: []) w := hs.ent (by (repeat first | exact Ent.refl _ | refine Ent.step (by first | exact Ent.refl _ | exact Ent.skip (Ent.refl _) | exact Ent.skip (Ent.skip (Ent.refl _)) | exact Ent.skip (Ent.skip (Ent.skip (Ent.refl _))) | exact Ent.skip (Ent.skip (Ent.skip (Ent.skip (Ent.refl _)))) | exact Ent.skip (Ent.skip (Ent.skip (Ent.skip (Ent.skip (Ent.refl _))))) | exact Ent.skip (Ent.skip (Ent.skip (Ent.skip (Ent.skip (Ent.skip (Ent.refl _)))))) | exact Ent.skip (Ent.skip (Ent.skip (Ent.skip (Ent.skip (Ent.skip (Ent.skip (Ent.refl _))))))) | exact Ent.skip (Ent.skip (Ent.skip (Ent.skip (Ent.skip (Ent.skip (Ent.skip (Ent.skip (Ent.refl _)))))))) | exact Ent.skip (Ent.skip (Ent.skip (Ent.skip (Ent.skip (Ent.skip (Ent.skip (Ent.skip (Ent.skip (Ent.refl _)))))))))) ?_))
                    refine wpList_nil ⟨rfl, hs.only2, ?_⟩
                    refine wpAll_last [11] (by kernel_rfl) (fun c hc => ?_)
                    simp only [List.mem_singleton] at hc
                    subst hc
                    refine ⟨_, rfl, ?_⟩
                    go_wp2
                    go_meet
                    exact ⟨g38, rfl, rfl, hs.ent (by (repeat first | exact Ent.refl _ | refine Ent.step (by first | exact Ent.refl _ | exact Ent.skip (Ent.refl _) | exact Ent.skip (Ent.skip (Ent.refl _)) | exact Ent.skip (Ent.skip (Ent.skip (Ent.refl _))) | exact Ent.skip (Ent.skip (Ent.skip (Ent.skip (Ent.refl _)))) | exact Ent.skip (Ent.skip (Ent.skip (Ent.skip (Ent.skip (Ent.refl _))))) | exact Ent.skip (Ent.skip (Ent.skip (Ent.skip (Ent.skip (Ent.skip (Ent.refl _)))))) | exact Ent.skip (Ent.skip (Ent.skip (Ent.skip (Ent.skip (Ent.skip (Ent.skip (Ent.refl _))))))) | exact Ent.skip (Ent.skip (Ent.skip (Ent.skip (Ent.skip (Ent.skip (Ent.skip (Ent.skip (Ent.refl _)))))))) | exact Ent.skip (Ent.skip (Ent.skip (Ent.skip (Ent.skip (Ent.skip (Ent.skip (Ent.skip (Ent.skip (Ent.refl _)))))))))) ?_))⟩
                  · skip
                    refine ⟨_, rfl, ?_⟩
                    refine wpl_store_agg (v := val3 u) rfl rfl (size3 _) (hs.ent (M := blk g38 (c3 V3.z).toArray 49 :: DsB D t :: blk g24 (c5o ⟨ok, oi, ov⟩).toArray 51 :: SlB X s :: blk g36 (c3 u).toArray 49 :: blk g25 (c3 v).toArray 49 :: blk g14 (c3 d).toArray 23 :: []) (by (repeat first | exact Ent.refl _ | refine Ent.step (by first | exact Ent.refl _ | exact Ent.skip (Ent.refl _) | exact Ent.skip (Ent.skip (Ent.refl _)) | exact Ent.skip (Ent.skip (Ent.skip (Ent.refl _))) | exact Ent.skip (Ent.skip (Ent.skip (Ent.skip (Ent.refl _)))) | exact Ent.skip (Ent.skip (Ent.skip (Ent.skip (Ent.skip (Ent.refl _))))) | exact Ent.skip (Ent.skip (Ent.skip (Ent.skip (Ent.skip (Ent.skip (Ent.refl _)))))) | exact Ent.skip (Ent.skip (Ent.skip (Ent.skip (Ent.skip (Ent.skip (Ent.skip (Ent.refl _))))))) | exact Ent.skip (Ent.skip (Ent.skip (Ent.skip (Ent.skip (Ent.skip (Ent.skip (Ent.skip (Ent.refl _)))))))) | exact Ent.skip (Ent.skip (Ent.skip (Ent.skip (Ent.skip (Ent.skip (Ent.skip (Ent.skip (Ent.skip (Ent.refl _)))))))))) ?_))) WrA.slot3 ?_
                    clear hs
                    intro w hs
                    replace hs : St w0 (DsB D t :: blk g24 (c5o ⟨ok, oi, ov⟩).toArray 51 :: SlB X s :: blk g36 (c3 u).toArray 49 :: blk g38 (c3 u).toArray 49 :: blk g25 (c3 v).toArray 49 :: blk g14 (c3 d).toArray 23 :: []) w := hs.ent (by (repeat first | exact Ent.refl _ | refine Ent.step (by first | exact Ent.refl _ | exact Ent.skip (Ent.refl _) | exact Ent.skip (Ent.skip (Ent.refl _)) | exact Ent.skip (Ent.skip (Ent.skip (Ent.refl _))) | exact Ent.skip (Ent.skip (Ent.skip (Ent.skip (Ent.refl _)))) | exact Ent.skip (Ent.skip (Ent.skip (Ent.skip (Ent.skip (Ent.refl _))))) | exact Ent.skip (Ent.skip (Ent.skip (Ent.skip (Ent.skip (Ent.skip (Ent.refl _)))))) | exact Ent.skip (Ent.skip (Ent.skip (Ent.skip (Ent.skip (Ent.skip (Ent.skip (Ent.refl _))))))) | exact Ent.skip (Ent.skip (Ent.skip (Ent.skip (Ent.skip (Ent.skip (Ent.skip (Ent.skip (Ent.refl _)))))))) | exact Ent.skip (Ent.skip (Ent.skip (Ent.skip (Ent.skip (Ent.skip (Ent.skip (Ent.skip (Ent.skip (Ent.refl _)))))))))) ?_))
                    refine wpList_nil ⟨rfl, hs.only2, ?_⟩
                    refine wpAllP_next [8] (by kernel_rfl) (fun c hc => ?_)
                    simp only [List.mem_singleton] at hc
                    subst hc
                    refine ⟨_, rfl, ?_⟩
                    go_wp2
                    refine ⟨hs.only2, ?_⟩
                    refine wpAll_last [11] (by kernel_rfl) (fun c hc => ?_)
                    simp only [List.mem_singleton] at hc
                    subst hc
                    refine ⟨_, rfl, ?_⟩
                    go_wp2
                    go_meet
                    exact ⟨g38, rfl, rfl, hs.ent (by (repeat first | exact Ent.refl _ | refine Ent.step (by first | exact Ent.refl _ | exact Ent.skip (Ent.refl _) | exact Ent.skip (Ent.skip (Ent.refl _)) | exact Ent.skip (Ent.skip (Ent.skip (Ent.refl _))) | exact Ent.skip (Ent.skip (Ent.skip (Ent.skip (Ent.refl _)))) | exact Ent.skip (Ent.skip (Ent.skip (Ent.skip (Ent.skip (Ent.refl _))))) | exact Ent.skip (Ent.skip (Ent.skip (Ent.skip (Ent.skip (Ent.skip (Ent.refl _)))))) | exact Ent.skip (Ent.skip (Ent.skip (Ent.skip (Ent.skip (Ent.skip (Ent.skip (Ent.refl _))))))) | exact Ent.skip (Ent.skip (Ent.skip (Ent.skip (Ent.skip (Ent.skip (Ent.skip (Ent.skip (Ent.refl _)))))))) | exact Ent.skip (Ent.skip (Ent.skip (Ent.skip (Ent.skip (Ent.skip (Ent.skip (Ent.skip (Ent.skip (Ent.refl _)))))))))) ?_))⟩
                · skip
                  refine ⟨_, rfl, ?_⟩
                  go_wp2
                  refine ⟨hs.only2, ?_⟩
                  refine wpAllP_next [7] (by kernel_rfl) (fun c hc => ?_)
                  simp only [List.mem_singleton] at hc
                  subst hc
                  refine ⟨_, rfl, ?_⟩
                  go_wp2
                  refine ⟨hs.only2, ?_⟩
                  refine wpAllP_next [10] (by kernel_rfl) (fun c hc => ?_)
                  simp only [List.mem_singleton] at hc
                  subst hc
                  refine ⟨_, rfl, ?_⟩
                  refine wpl_store_agg (v := val3 u) rfl rfl (size3 _) (hs.ent (M := blk g38 (c3 V3.z).toArray 49 :: DsB D t :: blk g24 (c5o ⟨ok, oi, ov⟩).toArray 51 :: SlB X s :: blk g36 (c3 u).toArray 49 :: blk g25 (c3 v).toArray 49 :: blk g14 (c3 d).toArray 23 :: []) (by (repeat first | exact Ent.refl _ | refine Ent.step (by first | exact Ent.refl _ | exact Ent.skip (Ent.refl _) | exact Ent.skip (Ent.skip (Ent.refl _)) | exact Ent.skip (Ent.skip (Ent.skip (Ent.refl _))) | exact Ent.skip (Ent.skip (Ent.skip (Ent.skip (Ent.refl _)))) | exact Ent.skip (Ent.skip (Ent.skip (Ent.skip (Ent.skip (Ent.refl _))))) | exact Ent.skip (Ent.skip (Ent.skip (Ent.skip (Ent.skip (Ent.skip (Ent.refl _)))))) | exact Ent.skip (Ent.skip (Ent.skip (Ent.skip (Ent.skip (Ent.skip (Ent.skip (Ent.refl _))))))) | exact Ent.skip (Ent.skip (Ent.skip (Ent.skip (Ent.skip (Ent.skip (Ent.skip (Ent.skip (Ent.refl _)))))))) | exact Ent.skip (Ent.skip (Ent.skip (Ent.skip (Ent.skip (Ent.skip (Ent.skip (Ent.skip (Ent.skip (Ent.refl _)))))))))) ?_))) WrA.slot3 ?_
                  clear hs
                  intro w hs
                  replace hs : St w0 (DsB D t :: blk g24 (c5o ⟨ok, oi, ov⟩).toArray 51 :: SlB X s :: blk g36 (c3 u).toArray 49 :: blk g38 (c3 u).toArray 49 :: blk g25 (c3 v).toArray 49 :: blk g14 (c3 d).toArray 23 :: []) w := hs.ent (by (repeat first | exact Ent.refl _ | refine Ent.step (by first | exact Ent.refl _ | exact Ent.skip (Ent.refl _) | exact Ent.skip (Ent.skip (Ent.refl _)) | exact Ent.skip (Ent.skip (Ent.skip (Ent.refl _))) | exact Ent.skip (Ent.skip (Ent.skip (Ent.skip (Ent.refl _)))) | exact Ent.skip (Ent.skip (Ent.skip (Ent.skip (Ent.skip (Ent.refl _))))) | exact Ent.skip (Ent.skip (Ent.skip (Ent.skip (Ent.skip (Ent.skip (Ent.refl _)))))) | exact Ent.skip (Ent.skip (Ent.skip (Ent.skip (Ent.skip (Ent.skip (Ent.skip (Ent.refl _))))))) | exact Ent.skip (Ent.skip (Ent.skip (Ent.skip (Ent.skip (Ent.skip (Ent.skip (Ent.skip (Ent.refl _)))))))) | exact Ent.skip (Ent.skip (Ent.skip (Ent.skip (Ent.skip (Ent.skip (Ent.skip (Ent.skip (Ent.skip (Ent.refl _)))))))))) ?_))
                  refine wpList_nil ⟨rfl, hs.only2, ?_⟩
                  refine wpAll_last [11] (by kernel_rfl) (fun c hc => ?_)
                  simp only [List.mem_singleton] at hc
                  subst hc
                  refine ⟨_, rfl, ?_⟩
                  go_wp2
                  go_meet
                  exact ⟨g38, rfl, rfl, hs.ent (by (repeat first | exact Ent.refl _ | refine Ent.step (by first | exact Ent.refl _ | exact Ent.skip (Ent.refl _) | exact Ent.skip (Ent.skip (Ent.refl _)) | exact Ent.skip (Ent.skip (Ent.skip (Ent.refl _))) | exact Ent.skip (Ent.skip (Ent.skip (Ent.skip (Ent.refl _)))) | exact Ent.skip (Ent.skip (Ent.skip (Ent.skip (Ent.skip (Ent.refl _))))) | exact Ent.skip (Ent.skip (Ent.skip (Ent.skip (Ent.skip (Ent.skip (Ent.refl _)))))) | exact Ent.skip (Ent.skip (Ent.skip (Ent.skip (Ent.skip (Ent.skip (Ent.skip (Ent.refl _))))))) | exact Ent.skip (Ent.skip (Ent.skip (Ent.skip (Ent.skip (Ent.skip (Ent.skip (Ent.skip (Ent.refl _)))))))) | exact Ent.skip (Ent.skip (Ent.skip (Ent.skip (Ent.skip (Ent.skip (Ent.skip (Ent.skip (Ent.skip (Ent.refl _)))))))))) ?_))⟩
            · skip
              refine ⟨_, rfl, ?_⟩
              refine wpl_alloc zero3 hs ?_
              clear hs
              intro g38 w hs
              replace hs : St w0 (blk g38 (c3 V3.z).toArray 49 :: _) w := hs
              replace hs : St w0 (DsB D t :: blk g24 (c5o ⟨ok, oi, ov⟩).toArray 51 :: SlB X s :: blk g36 (c3 u).toArray 49 :: blk g38 (c3 V3.z).toArray 49 :: blk g25 (c3 v).toArray 49 :: blk g14 (c3 d).toArray 23 :: []) w := hs.ent (by (repeat first | exact Ent.refl _ | refine Ent.step (by first | exact Ent.refl _ | exact Ent.skip (Ent.refl _) | exact Ent.skip (Ent.skip (Ent.refl _)) | exact Ent.skip (Ent.skip (Ent.skip (Ent.refl _))) | exact Ent.skip (Ent.skip (Ent.skip (Ent.skip (Ent.refl _)))) | exact Ent.skip (Ent.skip (Ent.skip (Ent.skip (Ent.skip (Ent.refl _))))) | exact Ent.skip (Ent.skip (Ent.skip (Ent.skip (Ent.skip (Ent.skip (Ent.refl _)))))) | exact Ent.skip (Ent.skip (Ent.skip (Ent.skip (Ent.skip (Ent.skip (Ent.skip (Ent.refl _))))))) | exact Ent.skip (Ent.skip (Ent.skip (Ent.skip (Ent.skip (Ent.skip (Ent.skip (Ent.skip (Ent.refl _)))))))) | exact Ent.skip (Ent.skip (Ent.skip (Ent.skip (Ent.skip (Ent.skip (Ent.skip (Ent.skip (Ent.skip (Ent.refl _)))))))))) ?_))
              refine wpList_nil ⟨rfl, hs.only2, ?_⟩
              refine wpAllP_next [6] (by kernel_rfl) (fun c hc => ?_)
              simp only [List.mem_singleton] at hc
              subst hc
              refine ⟨_, rfl, ?_⟩
              go_wp2
              refine ⟨hs.only2, ?_⟩
              refine wpAllP_next [7, 8] (by kernel_rfl) (fun c hc => ?_)
              simp only [List.mem_cons, List.not_mem_nil, or_false] at hc
              rcases hc with rfl | rfl
              · skip
                refine ⟨_, rfl, ?_⟩
                go_wp2
                refine ⟨hs.only2, ?_⟩
                refine wpAllP_next [8, 10] (by kernel_rfl) (fun c hc => ?_)
                simp only [List.mem_cons, List.not_mem_nil, or_false] at hc
                rcases hc with rfl | rfl
                · skip
                  refine ⟨_, rfl, ?_⟩
                  go_wp2
                  refine ⟨hs.only2, ?_⟩
                  refine wpAllP_next [10] (by kernel_rfl) (fun c hc => ?_)
                  simp only [List.mem_singleton] at hc
                  subst hc
                  refine ⟨_, rfl, ?_⟩
                  refine wpl_store_agg (v := val3 u) rfl rfl (size3 _) (hs.ent (M := blk g38 (c3 V3.z).toArray 49 :: DsB D t :: blk g24 (c5o ⟨ok, oi, ov⟩).toArray 51 :: SlB X s :: blk g36 (c3 u).toArray 49 :: blk g25 (c3 v).toArray 49 :: blk g14 (c3 d).toArray 23 :: []) (by (repeat first | exact Ent.refl _ | refine Ent.step (by first | exact Ent.refl _ | exact Ent.skip (Ent.refl _) | exact Ent.skip (Ent.skip (Ent.refl _)) | exact Ent.skip (Ent.skip (Ent.skip (Ent.refl _))) | exact Ent.skip (Ent.skip (Ent.skip (Ent.skip (Ent.refl _)))) | exact Ent.skip (Ent.skip (Ent.skip (Ent.skip (Ent.skip (Ent.refl _))))) | exact Ent.skip (Ent.skip (Ent.skip (Ent.skip (Ent.skip (Ent.skip (Ent.refl _)))))) | exact Ent.skip (Ent.skip (Ent.skip (Ent.skip (Ent.skip (Ent.skip (Ent.skip (Ent.refl _))))))) | exact Ent.skip (Ent.skip (Ent.skip (Ent.skip (Ent.skip (Ent.skip (Ent.skip (Ent.skip (Ent.refl _)))))))) | exact Ent.skip (Ent.skip (Ent.skip (Ent.skip (Ent.skip (Ent.skip (Ent.skip (Ent.skip (Ent.skip (Ent.refl _)))))))))) ?_))) WrA.slot3 ?_
                  clear hs
                  intro w hs
                  replace hs : St w0 (DsB D t :: blk g24 (c5o ⟨ok, oi, ov⟩).toArray 51 :: SlB X s :: blk g36 (c3 u).toArray 49 :: blk g38 (c3 u).toArray 49 :: blk g25 (c3 v).toArray 49 :: blk g14 (c3 d).toArray 23 :: []) w := hs.ent (by (repeat first | exact Ent.refl _ | refine Ent.step (by first | exact Ent.refl _ | exact Ent.skip (Ent.refl _) | exact Ent.skip (Ent.skip (Ent.refl _)) | exact Ent.skip (Ent.skip (Ent.skip (Ent.refl _))) | exact Ent.skip (Ent.skip (Ent.skip (Ent.skip (Ent.refl _)))) | exact Ent.skip (Ent.skip (Ent.skip (Ent.skip (Ent.skip (Ent.refl _))))) | exact Ent.skip (Ent.skip (Ent.skip (Ent.skip (Ent.skip (Ent.skip (Ent.refl _)))))) | exact Ent.skip (Ent.skip (Ent.skip (Ent.skip (Ent.skip (Ent.skip (Ent.skip (Ent.refl _))))))) | exact Ent.skip (Ent.skip (Ent.skip (Ent.skip (Ent.skip (Ent.skip (Ent.skip (Ent.skip (Ent.refl _)))))))) | exact Ent.skip (Ent.skip (Ent.skip (Ent.skip (Ent.skip (Ent.skip (Ent.skip (Ent.skip (Ent.skip (Ent.refl _)))))))))) ?_))
                  refine wpList_nil ⟨rfl, hs.only2, ?_⟩
                  refine wpAll_last [11] (by kernel_rfl) (fun c hc => ?_)
                  simp only [List.mem_singleton] at hc
                  subst hc
                  refine ⟨_, rfl, ?_⟩
                  go_wp2
                  go_meet
                  exact ⟨g38, rfl, rfl, hs.ent (by (repeat first | exact Ent.refl _ | refine Ent.step (by first | exact Ent.refl _ | exact Ent.skip (Ent.refl _) | exact Ent.skip (Ent.skip (Ent.refl _)) | exact Ent.skip (Ent.skip (Ent.skip (Ent.refl _))) | exact Ent.skip (Ent.skip (Ent.skip (Ent.skip (Ent.refl _)))) | exact Ent.skip (Ent.skip (Ent.skip (Ent.skip (Ent.skip (Ent.refl _))))) | exact Ent.skip (Ent.skip (Ent.skip (Ent.skip (Ent.skip (Ent.skip (Ent.refl _)))))) | exact Ent.skip (Ent.skip (Ent.skip (Ent.skip (Ent.skip (Ent.skip (Ent.skip (Ent.refl _))))))) | exact Ent.skip (Ent.skip (Ent.skip (Ent.skip (Ent.skip (Ent.skip (Ent.skip (Ent.skip (Ent.refl _)))))))) | exact Ent.skip (Ent.skip (Ent.skip (Ent.skip (Ent.skip (Ent.skip (Ent.skip (Ent.skip (Ent.skip (Ent.refl _)))))))))) ?_))⟩
                · skip
                  refine ⟨_, rfl, ?_⟩
                  refine wpl_store_agg (v := val3 u) rfl rfl (size3 _) (hs.ent (M := blk g38 (c3 V3.z).toArray 49 :: DsB D t :: blk g24 (c5o ⟨ok, oi, ov⟩).toArray 51 :: SlB X s :: blk g36 (c3 u).toArray 49 :: blk g25 (c3 v).toArray 49 :: blk g14 (c3 d).toArray 23 :: []) (by (repeat first | exact Ent.refl _ | refine Ent.step (by first | exact Ent.refl _ | exact Ent.skip (Ent.refl _) | exact Ent.skip (Ent.skip (Ent.refl _)) | exact Ent.skip (Ent.skip (Ent.skip (Ent.refl _))) | exact Ent.skip (Ent.skip (Ent.skip (Ent.skip (Ent.refl _)))) | exact Ent.skip (Ent.skip (Ent.skip (Ent.skip (Ent.skip (Ent.refl _))))) | exact Ent.skip (Ent.skip (Ent.skip (Ent.skip (Ent.skip (Ent.skip (Ent.refl _)))))) | exact Ent.skip (Ent.skip (Ent.skip (Ent.skip (Ent.skip (Ent.skip (Ent.skip (Ent.refl _))))))) | exact Ent.skip (Ent.skip (Ent.skip (Ent.skip (Ent.skip (Ent.skip (Ent.skip (Ent.skip (Ent.refl _)))))))) | exact Ent.skip (Ent.skip (Ent.skip (Ent.skip (Ent.skip (Ent.skip (Ent.skip (Ent.skip (Ent.skip (Ent.refl _)))))))))) ?_))) WrA.slot3 ?_
                  clear hs
                  intro w hs
                  replace hs : St w0 (DsB D t :: blk g24 (c5o ⟨ok, oi, ov⟩).toArray 51 :: SlB X s :: blk g36 (c3 u).toArray 49 :: blk g38 (c3 u).toArray 49 :: blk g25 (c3 v).toArray 49 :: blk g14 (c3 d).toArray 23 :: []) w := hs.ent (by (repeat first | exact Ent.refl _ | refine Ent.step (by first | exact Ent.refl _ | exact Ent.skip (Ent.refl _) | exact Ent.skip (Ent.skip (Ent.refl _)) | exact Ent.skip (Ent.skip (Ent.skip (Ent.refl _))) | exact Ent.skip (Ent.skip (Ent.skip (Ent.skip (Ent.refl _)))) | exact Ent.skip (Ent.skip (Ent.skip (Ent.skip (Ent.skip (Ent.refl _))))) | exact Ent.skip (Ent.skip (Ent.skip (Ent.skip (Ent.skip (Ent.skip (Ent.refl _)))))) | exact Ent.skip (Ent.skip (Ent.skip (Ent.skip (Ent.skip (Ent.skip (Ent.skip (Ent.refl _))))))) | exact Ent.skip (Ent.skip (Ent.skip (Ent.skip (Ent.skip (Ent.skip (Ent.skip (Ent.skip (Ent.refl _)))))))) | exact Ent.skip (Ent.skip (Ent.skip (Ent.skip (Ent.skip (Ent.skip (Ent.skip (Ent.skip (Ent.skip (Ent.refl _)))))))))) ?_))
                  refine wpList_nil ⟨rfl, hs.only2, ?_⟩
                  refine wpAllP_next [8] (by kernel_rfl) (fun c hc => ?_)
                  simp only [List.mem_singleton] at hc
                  subst hc
                  refine ⟨_, rfl, ?_⟩
                  go_wp2
                  refine ⟨hs.only2, ?_⟩
                  refine wpAll_last [11] (by kernel_rfl) (fun c hc => ?_)
                  simp only [List.mem_singleton] at hc
                  subst hc
                  refine ⟨_, rfl, ?_⟩
                  go_wp2
                  go_meet
                  exact ⟨g38, rfl, rfl, hs.ent (by (repeat first | exact Ent.refl _ | refine Ent.step (by first | exact Ent.refl _ | exact Ent.skip (Ent.refl _) | exact Ent.skip (Ent.skip (Ent.refl _)) | exact Ent.skip (Ent.skip (Ent.skip (Ent.refl _))) | exact Ent.skip (Ent.skip (Ent.skip (Ent.skip (Ent.refl _)))) | exact Ent.skip (Ent.skip (Ent.skip (Ent.skip (Ent.skip (Ent.refl _))))) | exact Ent.skip (Ent.skip (Ent.skip (Ent.skip (Ent.skip (Ent.skip (Ent.refl _)))))) | exact Ent.skip (Ent.skip (Ent.skip (Ent.skip (Ent.skip (Ent.skip (Ent.skip (Ent.refl _))))))) | exact Ent.skip (Ent.skip (Ent.skip (Ent.skip (Ent.skip (Ent.skip (Ent.skip (Ent.skip (Ent.refl _)))))))) | exact Ent.skip (Ent.skip (Ent.skip (Ent.skip (Ent.skip (Ent.skip (Ent.skip (Ent.skip (Ent.skip (Ent.refl _)))))))))) ?_))⟩
              · skip
                refine ⟨_, rfl, ?_⟩
                go_wp2
                refine ⟨hs.only2, ?_⟩
                refine wpAllP_next [7] (by kernel_rfl) (fun c hc => ?_)
                simp only [List.mem_singleton] at hc
                subst hc
                refine ⟨_, rfl, ?_⟩
                go_wp2
                refine ⟨hs.only2, ?_⟩
                refine wpAllP_next [10] (by kernel_rfl) (fun c hc => ?_)
                simp only [List.mem_singleton] at hc
                subst hc
                refine ⟨_, rfl, ?_⟩
                refine wpl_store_agg (v := val3 u) rfl rfl (size3 _) (hs.ent (M := blk g38 (c3 V3.z).toArray 49 :: DsB D t :: blk g24 (c5o ⟨ok, oi, ov⟩).toArray 51 :: SlB X s :: blk g36 (c3 u).toArray 49 :: blk g25 (c3 v).toArray 49 :: blk g14 (c3 d).toArray 23 :: []) (by (repeat first | exact Ent.refl _ | refine Ent.step (by first | exact Ent.refl _ | exact Ent.skip (Ent.refl _) | exact Ent.skip (Ent.skip (Ent.refl _)) | exact Ent.skip (Ent.skip (Ent.skip (Ent.refl _))) | exact Ent.skip (Ent.skip (Ent.skip (Ent.skip (Ent.refl _)))) | exact Ent.skip (Ent.skip (Ent.skip (Ent.skip (Ent.skip (Ent.refl _))))) | exact Ent.skip (Ent.skip (Ent.skip (Ent.skip (Ent.skip (Ent.skip (Ent.refl _)))))) | exact Ent.skip (Ent.skip (Ent.skip (Ent.skip (Ent.skip (Ent.skip (Ent.skip (Ent.refl _))))))) | exact Ent.skip (Ent.skip (Ent.skip (Ent.skip (Ent.skip (Ent.skip (Ent.skip (Ent.skip (Ent.refl _)))))))) | exact Ent.skip (Ent.skip (Ent.skip (Ent.skip (Ent.skip (Ent.skip (Ent.skip (Ent.skip (Ent.skip (Ent.refl _)))))))))) ?_))) WrA.slot3 ?_
                clear hs
                intro w hs
                replace hs : St w0 (DsB D t :: blk g24 (c5o ⟨ok, oi, ov⟩).toArray 51 :: SlB X s :: blk g36 (c3 u).toArray 49 :: blk g38 (c3 u).toArray 49 :: blk g25 (c3 v).toArray 49 :: blk g14 (c3 d).toArray 23 :: []) w := hs.ent (by (repeat first | exact Ent.refl _ | refine Ent.step (by first | exact Ent.refl _ | exact Ent.skip (Ent.refl _) | exact Ent.skip (Ent.skip (Ent.refl _)) | exact Ent.skip (Ent.skip (Ent.skip (Ent.refl _))) | exact Ent.skip (Ent.skip (Ent.skip (Ent.skip (Ent.refl _)))) | exact Ent.skip (Ent.skip (Ent.skip (Ent.skip (Ent.skip (Ent.refl _))))) | exact Ent.skip (Ent.skip (Ent.skip (Ent.skip (Ent.skip (Ent.skip (Ent.refl _)))))) | exact Ent.skip (Ent.skip (Ent.skip (Ent.skip (Ent.skip (Ent.skip (Ent.skip (Ent.refl _))))))) | exact Ent.skip (Ent.skip (Ent.skip (Ent.skip (Ent.skip (Ent.skip (Ent.skip (Ent.skip (Ent.refl _)))))))) | exact Ent.skip (Ent.skip (Ent.skip (Ent.skip (Ent.skip (Ent.skip (Ent.skip (Ent.skip (Ent.skip (Ent.refl _)))))))))) ?_))
                refine wpList_nil ⟨rfl, hs.only2, ?_⟩
                refine wpAll_last [11] (by kernel_rfl) (fun c hc => ?_)
                simp only [List.mem_singleton] at hc
                subst hc
                refine ⟨_, rfl, ?_⟩
                go_wp2
                go_meet
                exact ⟨g38, rfl, rfl, hs.ent (by (repeat first | exact Ent.refl _ | refine Ent.step (by first | exact Ent.refl _ | exact Ent.skip (Ent.refl _) | exact Ent.skip (Ent.skip (Ent.refl _)) | exact Ent.skip (Ent.skip (Ent.skip (Ent.refl _))) | exact Ent.skip (Ent.skip (Ent.skip (Ent.skip (Ent.refl _)))) | exact Ent.skip (Ent.skip (Ent.skip (Ent.skip (Ent.skip (Ent.refl _))))) | exact Ent.skip (Ent.skip (Ent.skip (Ent.skip (Ent.skip (Ent.skip (Ent.refl _)))))) | exact Ent.skip (Ent.skip (Ent.skip (Ent.skip (Ent.skip (Ent.skip (Ent.skip (Ent.refl _))))))) | exact Ent.skip (Ent.skip (Ent.skip (Ent.skip (Ent.skip (Ent.skip (Ent.skip (Ent.skip (Ent.refl _)))))))) | exact Ent.skip (Ent.skip (Ent.skip (Ent.skip (Ent.skip (Ent.skip (Ent.skip (Ent.skip (Ent.skip (Ent.refl _)))))))))) ?_))⟩
          · skip
            refine ⟨_, rfl, ?_⟩
            refine wpl_alloc zero3 hs ?_
            clear hs
            intro g38 w hs
            replace hs : St w0 (blk g38 (c3 V3.z).toArray 49 :: _) w := hs
            replace hs : St w0 (DsB D t :: blk g24 (c5o ⟨ok, oi, ov⟩).toArray 51 :: SlB X s :: blk g36 (c3 u).toArray 49 :: blk g38 (c3 V3.z).toArray 49 :: blk g25 (c3 v).toArray 49 :: blk g14 (c3 d).toArray 23 :: []) w := hs.ent (by (repeat first | exact Ent.refl _ | refine Ent.step (by first | exact Ent.refl _ | exact Ent.skip (Ent.refl _) | exact Ent.skip (Ent.skip (Ent.refl _)) | exact Ent.skip (Ent.skip (Ent.skip (Ent.refl _))) | exact Ent.skip (Ent.skip (Ent.skip (Ent.skip (Ent.refl _)))) | exact Ent.skip (Ent.skip (Ent.skip (Ent.skip (Ent.skip (Ent.refl _))))) | exact Ent.skip (Ent.skip (Ent.skip (Ent.skip (Ent.skip (Ent.skip (Ent.refl _)))))) | exact Ent.skip (Ent.skip (Ent.skip (Ent.skip (Ent.skip (Ent.skip (Ent.skip (Ent.refl _))))))) | exact Ent.skip (Ent.skip (Ent.skip (Ent.skip (Ent.skip (Ent.skip (Ent.skip (Ent.skip (Ent.refl _)))))))) | exact Ent.skip (Ent.skip (Ent.skip (Ent.skip (Ent.skip (Ent.skip (Ent.skip (Ent.skip (Ent.skip (Ent.refl _)))))))))) ?_))
            refine wpList_nil ⟨rfl, hs.only2, ?_⟩
            refine wpAllP_next [5] (by kernel_rfl) (fun c hc => ?_)
            simp only [List.mem_singleton] at hc
            subst hc
            refine ⟨_, rfl, ?_⟩
            go_wp2_with (first
              | (go_at_call 24; refine (ds_get hs HU2 HB2).mono ?_; rintro r w ⟨rfl, hg⟩; replace hs := hs.grew hg; clear hg))
            refine ⟨hs.only2, ?_⟩
            refine wpAllP_next [6] (by kernel_rfl) (fun c hc => ?_)
            simp only [List.mem_singleton] at hc
            subst hc
            refine ⟨_, rfl, ?_⟩
            go_wp2
            refine ⟨hs.only2, ?_⟩
            refine wpAllP_next [7, 8] (by kernel_rfl) (fun c hc => ?_)
            simp only [List.mem_cons, List.not_mem_nil, or_false] at hc
            rcases hc with rfl | rfl
            · skip
              refine ⟨_, rfl, ?_⟩
              go_wp2
              refine ⟨hs.only2, ?_⟩
              refine wpAllP_next [8, 10] (by kernel_rfl) (fun c hc => ?_)
              simp only [List.mem_cons, List.not_mem_nil, or_false] at hc
              rcases hc with rfl | rfl
              · skip
                refine ⟨_, rfl, ?_⟩
                go_wp2
                refine ⟨hs.only2, ?_⟩
                refine wpAllP_next [10] (by kernel_rfl) (fun c hc => ?_)
                simp only [List.mem_singleton] at hc
                subst hc
                refine ⟨_, rfl, ?_⟩
                refine wpl_store_agg (v := val3 u) rfl rfl (size3 _) (hs.ent (M := blk g38 (c3 V3.z).toArray 49 :: DsB D t :: blk g24 (c5o ⟨ok, oi, ov⟩).toArray 51 :: SlB X s :: blk g36 (c3 u).toArray 49 :: blk g25 (c3 v).toArray 49 :: blk g14 (c3 d).toArray 23 :: []) (by (repeat first | exact Ent.refl _ | refine Ent.step (by first | exact Ent.refl _ | exact Ent.skip (Ent.refl _) | exact Ent.skip (Ent.skip (Ent.refl _)) | exact Ent.skip (Ent.skip (Ent.skip (Ent.refl _))) | exact Ent.skip (Ent.skip (Ent.skip (Ent.skip (Ent.refl _)))) | exact Ent.skip (Ent.skip (Ent.skip (Ent.skip (Ent.skip (Ent.refl _))))) | exact Ent.skip (Ent.skip (Ent.skip (Ent.skip (Ent.skip (Ent.skip (Ent.refl _)))))) | exact Ent.skip (Ent.skip (Ent.skip (Ent.skip (Ent.skip (Ent.skip (Ent.skip (Ent.refl _))))))) | exact Ent.skip (Ent.skip (Ent.skip (Ent.skip (Ent.skip (Ent.skip (Ent.skip (Ent.skip (Ent.refl _)))))))) | exact Ent.skip (Ent.skip (Ent.skip (Ent.skip (Ent.skip (Ent.skip (Ent.skip (Ent.skip (Ent.skip (Ent.refl _)))))))))) ?_))) WrA.slot3 ?_
                clear hs
                intro w hs
                replace hs : St w0 (DsB D t :: blk g24 (c5o ⟨ok, oi, ov⟩).toArray 51 :: SlB X s :: blk g36 (c3 u).toArray 49 :: blk g38 (c3 u).toArray 49 :: blk g25 (c3 v).toArray 49 :: blk g14 (c3 d).toArray 23 :: []) w := hs.ent (by (repeat first | exact Ent.refl _ | refine Ent.step (by first | exact Ent.refl _ | exact Ent.skip (Ent.refl _) | exact Ent.skip (Ent.skip (Ent.refl _)) | exact Ent.skip (Ent.skip (Ent.skip (Ent.refl _))) | exact Ent.skip (Ent.skip (Ent.skip (Ent.skip (Ent.refl _)))) | exact Ent.skip (Ent.skip (Ent.skip (Ent.skip (Ent.skip (Ent.refl _))))) | exact Ent.skip (Ent.skip (Ent.skip (Ent.skip (Ent.skip (Ent.skip (Ent.refl _)))))) | exact Ent.skip (Ent.skip (Ent.skip (Ent.skip (Ent.skip (Ent.skip (Ent.skip (Ent.refl _))))))) | exact Ent.skip (Ent.skip (Ent.skip (Ent.skip (Ent.skip (Ent.skip (Ent.skip (Ent.skip (Ent.refl _)))))))) | exact Ent.skip (Ent.skip (Ent.skip (Ent.skip (Ent.skip (Ent.skip (Ent.skip (Ent.skip (Ent.skip (Ent.refl _)))))))))) ?_))
                refine wpList_nil ⟨rfl, hs.only2, ?_⟩
                refine wpAll_last [11] (by kernel_rfl) (fun c hc => ?_)
                simp only [List.mem_singleton] at hc
                subst hc
                refine ⟨_, rfl, ?_⟩
                go_wp2
                go_meet
                exact ⟨g38, rfl, rfl, hs.ent (by (repeat first | exact Ent.refl _ | refine Ent.step (by first | exact Ent.refl _ | exact Ent.skip (Ent.refl _) | exact Ent.skip (Ent.skip (Ent.refl _)) | exact Ent.skip (Ent.skip (Ent.skip (Ent.refl _))) | exact Ent.skip (Ent.skip (Ent.skip (Ent.skip (Ent.refl _)))) | exact Ent.skip (Ent.skip (Ent.skip (Ent.skip (Ent.skip (Ent.refl _))))) | exact Ent.skip (Ent.skip (Ent.skip (Ent.skip (Ent.skip (Ent.skip (Ent.refl _)))))) | exact Ent.skip (Ent.skip (Ent.skip (Ent.skip (Ent.skip (Ent.skip (Ent.skip (Ent.refl _))))))) | exact Ent.skip (Ent.skip (Ent.skip (Ent.skip (Ent.skip (Ent.skip (Ent.skip (Ent.skip (Ent.refl _)))))))) | exact Ent.skip (Ent.skip (Ent.skip (Ent.skip (Ent.skip (Ent.skip (Ent.skip (Ent.skip (Ent.skip (Ent.refl _)))))))))) ?_))⟩
              · skip
                refine ⟨_, rfl, ?_⟩
                refine wpl_store_agg (v := val3 u) rfl rfl (size3 _) (hs.ent (M := blk g38 (c3 V3.z).toArray 49 :: DsB D t :: blk g24 (c5o ⟨ok, oi, ov⟩).toArray 51 :: SlB X s :: blk g36 (c3 u).toArray 49 :: blk g25 (c3 v).toArray 49 :: blk g14 (c3 d).toArray 23 :: []) (by (repeat first | exact Ent.refl _ | refine Ent.step (by first | exact Ent.refl _ | exact Ent.skip (Ent.refl _) | exact Ent.skip (Ent.skip (Ent.refl _)) | exact Ent.skip (Ent.skip (Ent.skip (Ent.refl _))) | exact Ent.skip (Ent.skip (Ent.skip (Ent.skip (Ent.refl _)))) | exact Ent.skip (Ent.skip (Ent.skip (Ent.skip (Ent.skip (Ent.refl _))))) | exact Ent.skip (Ent.skip (Ent.skip (Ent.skip (Ent.skip (Ent.skip (Ent.refl _)))))) | exact Ent.skip (Ent.skip (Ent.skip (Ent.skip (Ent.skip (Ent.skip (Ent.skip (Ent.refl _))))))) | exact Ent.skip (Ent.skip (Ent.skip (Ent.skip (Ent.skip (Ent.skip (Ent.skip (Ent.skip (Ent.refl _)))))))) | exact Ent.skip (Ent.skip (Ent.skip (Ent.skip (Ent.skip (Ent.skip (Ent.skip (Ent.skip (Ent.skip (Ent.refl _)))))))))) ?_))) WrA.slot3 ?_
                clear hs
                intro w hs
                replace hs : St w0 (DsB D t :: blk g24 (c5o ⟨ok, oi, ov⟩).toArray 51 :: SlB X s :: blk g36 (c3 u).toArray 49 :: blk g38 (c3 u).toArray 49 :: blk g25 (c3 v).toArray 49 :: blk g14 (c3 d).toArray 23 :: []) w := hs.ent (by (repeat first | exact Ent.refl _ | refine Ent.step (by first | exact Ent.refl _ | exact Ent.skip (Ent.refl _) | exact Ent.skip (Ent.skip (Ent.refl _)) | exact Ent.skip (Ent.skip (Ent.skip (Ent.refl _))) | exact Ent.skip (Ent.skip (Ent.skip (Ent.skip (Ent.refl _)))) | exact Ent.skip (Ent.skip (Ent.skip (Ent.skip (Ent.skip (Ent.refl _))))) | exact Ent.skip (Ent.skip (Ent.skip (Ent.skip (Ent.skip (Ent.skip (Ent.refl _)))))) | exact Ent.skip (Ent.skip (Ent.skip (Ent.skip (Ent.skip (Ent.skip (Ent.skip (Ent.refl _))))))) | exact Ent.skip (Ent.skip (Ent.skip (Ent.skip (Ent.skip (Ent.skip (Ent.skip (Ent.skip (Ent.refl _)))))))) | exact Ent.skip (Ent.skip (Ent.skip (Ent.skip (Ent.skip (Ent.skip (Ent.skip (Ent.skip (Ent.skip (Ent.refl _)))))))))) ?_))
                refine wpList_nil ⟨rfl, hs.only2, ?_⟩
                refine wpAllP_next [8] (by kernel_rfl) (fun c hc => ?_)
                simp only [List.mem_singleton] at hc
                subst hc
                refine ⟨_, rfl, ?_⟩
                go_wp2
                refine ⟨hs.only2, ?_⟩
                refine wpAll_last [11] (by kernel_rfl) (fun c hc => ?_)
                simp only [List.mem_singleton] at hc
                subst hc
                refine ⟨_, rfl, ?_⟩
                go_wp2
                go_meet
                exact ⟨g38, rfl, rfl, hs.ent (by (repeat first | exact Ent.refl _ | refine Ent.step (by first | exact Ent.refl _ | exact Ent.skip (Ent.refl _) | exact Ent.skip (Ent.skip (Ent.refl _)) | exact Ent.skip (Ent.skip (Ent.skip (Ent.refl _))) | exact Ent.skip (Ent.skip (Ent.skip (Ent.skip (Ent.refl _)))) | exact Ent.skip (Ent.skip (Ent.skip (Ent.skip (Ent.skip (Ent.refl _))))) | exact Ent.skip (Ent.skip (Ent.skip (Ent.skip (Ent.skip (Ent.skip (Ent.refl _)))))) | exact Ent.skip (Ent.skip (Ent.skip (Ent.skip (Ent.skip (Ent.skip (Ent.skip (Ent.refl _))))))) | exact Ent.skip (Ent.skip (Ent.skip (Ent.skip (Ent.skip (Ent.skip (Ent.skip (Ent.skip (Ent.refl _)))))))) | exact Ent.skip (Ent.skip (Ent.skip (Ent.skip (Ent.skip (Ent.skip (Ent.skip (Ent.skip (Ent.skip (Ent.refl _)))))))))) ?_))⟩
            · skip
              refine ⟨_, rfl, ?_⟩
              go_wp2
              refine ⟨hs.only2, ?_⟩
              refine wpAllP_next [7] (by kernel_rfl) (fun c hc => ?_)
              simp only [List.mem_singleton] at hc
              subst hc
              refine ⟨_, rfl, ?_⟩
              go_wp2
              refine ⟨hs.only2, ?_⟩
              refine wpAllP_next [10] (by kernel_rfl) (fun c hc => ?_)
              simp only [List.mem_singleton] at hc
              subst hc
              refine ⟨_, rfl, ?_⟩
              refine wpl_store_agg (v := val3 u) rfl rfl (size3 _) (hs.ent (M := blk g38 (c3 V3.z).toArray 49 :: DsB D t :: blk g24 (c5o ⟨ok, oi, ov⟩).toArray 51 :: SlB X s :: blk g36 (c3 u).toArray 49 :: blk g25 (c3 v).toArray 49 :: blk g14 (c3 d).toArray 23 :: []) (by (repeat first | exact Ent.refl _ | refine Ent.step (by first | exact Ent.refl _ | exact Ent.skip (Ent.refl _) | exact Ent.skip (Ent.skip (Ent.refl _)) | exact Ent.skip (Ent.skip (Ent.skip (Ent.refl _))) | exact Ent.skip (Ent.skip (Ent.skip (Ent.skip (Ent.refl _)))) | exact Ent.skip (Ent.skip (Ent.skip (Ent.skip (Ent.skip (Ent.refl _))))) | exact Ent.skip (Ent.skip (Ent.skip (Ent.skip (Ent.skip (Ent.skip (Ent.refl _)))))) | exact Ent.skip (Ent.skip (Ent.skip (Ent.skip (Ent.skip (Ent.skip (Ent.skip (Ent.refl _))))))) | exact Ent.skip (Ent.skip (Ent.skip (Ent.skip (Ent.skip (Ent.skip (Ent.skip (Ent.skip (Ent.refl _)))))))) | exact Ent.skip (Ent.skip (Ent.skip (Ent.skip (Ent.skip (Ent.skip (Ent.skip (Ent.skip (Ent.skip (Ent.refl _)))))))))) ?_))) WrA.slot3 ?_
              clear hs
              intro w hs
              replace hs : St w0 (DsB D t :: blk g24 (c5o ⟨ok, oi, ov⟩).toArray 51 :: SlB X s :: blk g36 (c3 u).toArray 49 :: blk g38 (c3 u).toArray 49 :: blk g25 (c3 v).toArray 49 :: blk g14 (c3 d).toArray 23 :: []) w := hs.ent (by (repeat first | exact Ent.refl _ | refine Ent.step (by first | exact Ent.refl _ | exact Ent.skip (Ent.refl _) | exact Ent.skip (Ent.skip (Ent.refl _)) | exact Ent.skip (Ent.skip (Ent.skip (Ent.refl _))) | exact Ent.skip (Ent.skip (Ent.skip (Ent.skip (Ent.refl _)))) | exact Ent.skip (Ent.skip (Ent.skip (Ent.skip (Ent.skip (Ent.refl _))))) | exact Ent.skip (Ent.skip (Ent.skip (Ent.skip (Ent.skip (Ent.skip (Ent.refl _)))))) | exact Ent.skip (Ent.skip (Ent.skip (Ent.skip (Ent.skip (Ent.skip (Ent.skip (Ent.refl _))))))) | exact Ent.skip (Ent.skip (Ent.skip (Ent.skip (Ent.skip (Ent.skip (Ent.skip (Ent.skip (Ent.refl _)))))))) | exact Ent.skip (Ent.skip (Ent.skip (Ent.skip (Ent.skip (Ent.skip (Ent.skip (Ent.skip (Ent.skip (Ent.refl _)))))))))) ?_))
              refine wpList_nil ⟨rfl, hs.only2, ?_⟩
              refine wpAll_last [11] (by kernel_rfl) (fun c hc => ?_)
              simp only [List.mem_singleton] at hc
              subst hc
              refine ⟨_, rfl, ?_⟩
              go_wp2
              go_meet
              exact ⟨g38, rfl, rfl, hs.ent (by (repeat first | exact Ent.refl _ | refine Ent.step (by first | exact Ent.refl _ | exact Ent.skip (Ent.refl _) | exact Ent.skip (Ent.skip (Ent.refl _)) | exact Ent.skip (Ent.skip (Ent.skip (Ent.refl _))) | exact Ent.skip (Ent.skip (Ent.skip (Ent.skip (Ent.refl _)))) | exact Ent.skip (Ent.skip (Ent.skip (Ent.skip (Ent.skip (Ent.refl _))))) | exact Ent.skip (Ent.skip (Ent.skip (Ent.skip (Ent.skip (Ent.skip (Ent.refl _)))))) | exact Ent.skip (Ent.skip (Ent.skip (Ent.skip (Ent.skip (Ent.skip (Ent.skip (Ent.refl _))))))) | exact Ent.skip (Ent.skip (Ent.skip (Ent.skip (Ent.skip (Ent.skip (Ent.skip (Ent.skip (Ent.refl _)))))))) | exact Ent.skip (Ent.skip (Ent.skip (Ent.skip (Ent.skip (Ent.skip (Ent.skip (Ent.skip (Ent.skip (Ent.refl _)))))))))) ?_))⟩
        case rest =>
        clear hs
        obtain ⟨g38, rfl, rfl, hs⟩ := hcut
        replace hs : St w0 [SlB X s, DsB D t, blk g36 (c3 u).toArray 49, blk g38 (c3 u).toArray 49, blk g24 (c5o ⟨ok, oi, ov⟩).toArray 51, blk g25 (c3 v).toArray 49, blk g14 (c3 d).toArray 23] _ := hs.ent (by (repeat first | exact Ent.refl _ | refine Ent.step (by first | exact Ent.refl _ | exact Ent.skip (Ent.refl _) | exact Ent.skip (Ent.skip (Ent.refl _)) | exact Ent.skip (Ent.skip (Ent.skip (Ent.refl _))) | exact Ent.skip (Ent.skip (Ent.skip (Ent.skip (Ent.refl _)))) | exact Ent.skip (Ent.skip (Ent.skip (Ent.skip (Ent.skip (Ent.refl _))))) | exact Ent.skip (Ent.skip (Ent.skip (Ent.skip (Ent.skip (Ent.skip (Ent.refl _)))))) | exact Ent.skip (Ent.skip (Ent.skip (Ent.skip (Ent.skip (Ent.skip (Ent.skip (Ent.refl _))))))) | exact Ent.skip (Ent.skip (Ent.skip (Ent.skip (Ent.skip (Ent.skip (Ent.skip (Ent.skip (Ent.refl _)))))))) | exact Ent.skip (Ent.skip (Ent.skip (Ent.skip (Ent.skip (Ent.skip (Ent.skip (Ent.skip (Ent.skip (Ent.refl _)))))))))) ?_))
        obtain ⟨p0, p1, p2⟩ := Has3.facts (has3_tail (has3_tail (has3_slot (g := g36) (v := u) (t := 49)))) hs
        obtain ⟨q0, q1, q2⟩ := Has3.facts (has3_tail (has3_tail (has3_tail (has3_slot (g := g38) (v := u) (t := 49))))) hs
        go_upto_region 48 with (fail)
        clear p0 p1 p2 q0 q1 q2
        (go_wp2_with (first
          | (go_at_call 30; refine (masked_c hT hs HST).mono ?_; clear hs; rintro r w ⟨rfl, hs⟩)))
        exact HN.out _ _ _ HI'.out (hs.ent (M := blk g36 (c3 u).toArray 49 :: blk g38 (c3 u).toArray 49 :: blk g24 (c5o ⟨ok, oi, ov⟩).toArray 51 :: blk g25 (c3 v).toArray 49 :: [SlB X s, DsB D t, blk g14 (c3 d).toArray 23]) (by (repeat first | exact Ent.refl _ | refine Ent.step (by first | exact Ent.refl _ | exact Ent.skip (Ent.refl _) | exact Ent.skip (Ent.skip (Ent.refl _)) | exact Ent.skip (Ent.skip (Ent.skip (Ent.refl _))) | exact Ent.skip (Ent.skip (Ent.skip (Ent.skip (Ent.refl _)))) | exact Ent.skip (Ent.skip (Ent.skip (Ent.skip (Ent.skip (Ent.refl _))))) | exact Ent.skip (Ent.skip (Ent.skip (Ent.skip (Ent.skip (Ent.skip (Ent.refl _)))))) | exact Ent.skip (Ent.skip (Ent.skip (Ent.skip (Ent.skip (Ent.skip (Ent.skip (Ent.refl _))))))) | exact Ent.skip (Ent.skip (Ent.skip (Ent.skip (Ent.skip (Ent.skip (Ent.skip (Ent.skip (Ent.refl _)))))))) | exact Ent.skip (Ent.skip (Ent.skip (Ent.skip (Ent.skip (Ent.skip (Ent.skip (Ent.skip (Ent.skip (Ent.refl _)))))))))) ?_))).drop.drop.drop.drop
      · have d2 : (ok == 2) = false := by simp [k2]
        by_cases k3 : ok = 3
        · have d3 : (ok == 3) = true := by simp [k3]
          clear k0 k1 k2 k3
          obtain ⟨s', HS'⟩ : ∃ z, Hid (s.set oi v = z) := ⟨_, rfl⟩
          obtain ⟨t', HT'⟩ : ∃ z, Hid (t.set oi v = z) := ⟨_, rfl⟩
          obtain ⟨e, HE⟩ : ∃ z, Hid (s.errSet oi v = z) := ⟨_, rfl⟩
          have HE2 : Hid (t.errSet oi v = e) := by rw [Hid, ← HAL.out.errSet]; exact HE.out
          have HI' : Hid (SpI d s' t' (k + 1)) := by rw [Hid, ← HS'.out, ← HT'.out]; exact HI.out.set oi v
          have HST : Hid (t'.S = s'.S) := HI'.out.al.S.symm
          replace hs : St w0 [blk g25 (c3 v).toArray 49, blk g24 (c5o ⟨ok, oi, ov⟩).toArray 51, SlB X s, DsB D t, blk g14 (c3 d).toArray 23] _ := hs.ent (by (repeat first | exact Ent.refl _ | refine Ent.step (by first | exact Ent.refl _ | exact Ent.skip (Ent.refl _) | exact Ent.skip (Ent.skip (Ent.refl _)) | exact Ent.skip (Ent.skip (Ent.skip (Ent.refl _))) | exact Ent.skip (Ent.skip (Ent.skip (Ent.skip (Ent.refl _)))) | exact Ent.skip (Ent.skip (Ent.skip (Ent.skip (Ent.skip (Ent.refl _))))) | exact Ent.skip (Ent.skip (Ent.skip (Ent.skip (Ent.skip (Ent.skip (Ent.refl _)))))) | exact Ent.skip (Ent.skip (Ent.skip (Ent.skip (Ent.skip (Ent.skip (Ent.skip (Ent.refl _))))))) | exact Ent.skip (Ent.skip (Ent.skip (Ent.skip (Ent.skip (Ent.skip (Ent.skip (Ent.skip (Ent.refl _)))))))) | exact Ent.skip (Ent.skip (Ent.skip (Ent.skip (Ent.skip (Ent.skip (Ent.skip (Ent.skip (Ent.skip (Ent.refl _)))))))))) ?_))
          go_upto_region 46 with (fail)
          clear f0 f1
          refine wp_region_plain [false, false, false, false, true, false, false, false, false, true, true] hs.only2 (by kernel_rfl) (by kernel_rfl) fun hne => ?_
          have c1 := ((hr1 []).tail (p := blk g25 (c3 v).toArray 49)).alln
          have h5 := has3_slot (w0 := w0) (L := [blk g24 (c5o ⟨ok, oi, ov⟩).toArray 51]) (g := g25) (v := v) (t := 49)
          have v0' := (h5 0 _ rfl).alln
          have v1' := (h5 1 _ rfl).alln
          have v2' := (h5 2 _ rfl).alln
          simp only [Nat.zero_add] at v0' v1' v2'
          simp only [pickOps]
          repeat (go_big_quiet_step (fail))
          refine wpQuiet_nil ?_
          clear hne c1 h5 v0' v1' v2'
          simp only [chainIx]
          replace hs := hs.drew
          refine wpChainP_next rfl ?_
          go_wp2_with (first
            | (go_at_call 25; refine (sl_set hs.up2 HLs.out HE HS').mono ?_; clear hs; rintro r w ⟨rfl, hs⟩; replace hs := hs.dn2))
          refine ⟨hs.only2, ?_⟩
          refine wpChainP_next rfl ?_
          go_wp2_with (first
            | (go_at_call 26; refine (ds_set hs.up3 HLt.out HE2 HT').mono ?_; clear hs; rintro r w ⟨rfl, hs⟩; replace hs := hs.dn3))
          refine ⟨hs.only2, ?_⟩
          refine wpChain_last rfl ?_
          replace hs : St w0 [SlB X s', DsB D t', blk g24 (c5o ⟨ok, oi, ov⟩).toArray 51, blk g25 (c3 v).toArray 49, blk g14 (c3 d).toArray 23] _ := hs.ent (by (repeat first | exact Ent.refl _ | refine Ent.step (by first | exact Ent.refl _ | exact Ent.skip (Ent.refl _) | exact Ent.skip (Ent.skip (Ent.refl _)) | exact Ent.skip (Ent.skip (Ent.skip (Ent.refl _))) | exact Ent.skip (Ent.skip (Ent.skip (Ent.skip (Ent.refl _)))) | exact Ent.skip (Ent.skip (Ent.skip (Ent.skip (Ent.skip (Ent.refl _))))) | exact Ent.skip (Ent.skip (Ent.skip (Ent.skip (Ent.skip (Ent.skip (Ent.refl _)))))) | exact Ent.skip (Ent.skip (Ent.skip (Ent.skip (Ent.skip (Ent.skip (Ent.skip (Ent.refl _))))))) | exact Ent.skip (Ent.skip (Ent.skip (Ent.skip (Ent.skip (Ent.skip (Ent.skip (Ent.skip (Ent.refl _)))))))) | exact Ent.skip (Ent.skip (Ent.skip (Ent.skip (Ent.skip (Ent.skip (Ent.skip (Ent.skip (Ent.skip (Ent.refl _)))))))))) ?_))
          go_upto_region 48 with (fail)
          (go_wp2_with (first
            | (go_at_call 30; refine (masked_c hT hs HST).mono ?_; clear hs; rintro r w ⟨rfl, hs⟩)))
          exact HN.out _ _ _ HI'.out (hs.ent (M := blk g24 (c5o ⟨ok, oi, ov⟩).toArray 51 :: blk g25 (c3 v).toArray 49 :: [SlB X s', DsB D t', blk g14 (c3 d).toArray 23]) (by (repeat first | exact Ent.refl _ | refine Ent.step (by first | exact Ent.refl _ | exact Ent.skip (Ent.refl _) | exact Ent.skip (Ent.skip (Ent.refl _)) | exact Ent.skip (Ent.skip (Ent.skip (Ent.refl _))) | exact Ent.skip (Ent.skip (Ent.skip (Ent.skip (Ent.refl _)))) | exact Ent.skip (Ent.skip (Ent.skip (Ent.skip (Ent.skip (Ent.refl _))))) | exact Ent.skip (Ent.skip (Ent.skip (Ent.skip (Ent.skip (Ent.skip (Ent.refl _)))))) | exact Ent.skip (Ent.skip (Ent.skip (Ent.skip (Ent.skip (Ent.skip (Ent.skip (Ent.refl _))))))) | exact Ent.skip (Ent.skip (Ent.skip (Ent.skip (Ent.skip (Ent.skip (Ent.skip (Ent.skip (Ent.refl _)))))))) | exact Ent.skip (Ent.skip (Ent.skip (Ent.skip (Ent.skip (Ent.skip (Ent.skip (Ent.skip (Ent.skip (Ent.refl _)))))))))) ?_))).drop.drop
        · have d3 : (ok == 3) = false := by simp [k3]
          clear k0 k1 k2 k3
          by_cases hb : 0 < d.b
          · obtain rfl : rdv = 0 := by rw [← HRV.out, if_pos hb]
            obtain ⟨f, hF⟩ := Option.isSome_iff_exists.1 (HI.out.ok.trans (decide_eq_true hb))
            obtain ⟨f', hF'⟩ := Option.isSome_iff_exists.1 ((HAL.out.F.symm.trans HI.out.ok).trans (decide_eq_true hb))
            obtain ⟨p, hp, hpl⟩ := HI.out.rd hb
            have HR1 : Hid (s.rds[0]? = some p) := by rw [Hid, hp]; rfl
            have HR2 : Hid (t.rds[0]? = some p) := by rw [Hid, ← HAL.out.rds, hp]; rfl
            have HP2 : Hid (p ≤ t.evs.length) := by rw [Hid, ← HAL.out.evs]; exact hpl
            have HF := Lib.hid hF
            have HF' := Lib.hid hF'
            obtain ⟨l, HL⟩ : ∃ z, Hid (newE s.d.b.toNat s.evs p = z) := ⟨_, rfl⟩
            obtain ⟨b, HB⟩ : ∃ z, Hid (lagE s.d.b.toNat s.evs p = z) := ⟨_, rfl⟩
            have HL2 : Hid (newE t.d.b.toNat t.evs p = l) := by rw [Hid, ← HAL.out.evs, ← HAL.out.d_]; exact HL.out
            have HB2 : Hid (lagE t.d.b.toNat t.evs p = b) := by rw [Hid, ← HAL.out.evs, ← HAL.out.d_]; exact HB.out
            obtain ⟨s', HS'⟩ : ∃ z, Hid (({ s with rds := s.rds.set 0 s.evs.length } : SlS) = z) := ⟨_, rfl⟩
            obtain ⟨t', HT'⟩ : ∃ z, Hid (({ t with rds := t.rds.set 0 t.evs.length } : SlS) = z) := ⟨_, rfl⟩
            have HI' : Hid (SpI d s' t' (k + 1)) := by rw [Hid, ← HS'.out, ← HT'.out]; exact HI.out.read
            have HST : Hid (t'.S = s'.S) := HI'.out.al.S.symm
            have hlb : l.length ≤ 80 := by have h1 := newE_len s.d.b.toNat s.evs p; have h2 := HI.out.len; rw [HL.out] at h1; omega
            have HFF : Hid (fpV s.F = .pointer (some ⟨f, 0, none⟩)) := by rw [Hid, hF]; rfl
            have HFC : ∀ L, Rd w0 (DsB D t :: L) ⟨D, 4, none⟩ (.pointer (some ⟨f', 0, none⟩)) := fun L => by
              have := Rd.dsf (w0 := w0) (D := D) (s := t) (L := L)
              rw [hF'] at this
              exact this
            clear hb hF hF' hp hpl
            go_upto_region 27 with (first
              | (go_at_call 14; refine (sl_flag_v hs HFF).mono ?_; rintro r w ⟨rfl, rfl⟩)
              | (go_at_call 27; refine (sl_read hs HF.out (r := 0) HR1.out HLs.out HB HL HS').mono ?_; clear hs f0 f1; rintro r w ⟨B1, c1, m1, hm1, rfl, hs⟩))
            replace hs : St w0 [DsB D t, SlB X s', own B1 m1 c1 139 2 (es2 l), blk g24 (c5o ⟨ok, oi, ov⟩).toArray 51, blk g25 (c3 v).toArray 49, blk g14 (c3 d).toArray 23] _ := hs.ent (by (repeat first | exact Ent.refl _ | refine Ent.step (by first | exact Ent.refl _ | exact Ent.skip (Ent.refl _) | exact Ent.skip (Ent.skip (Ent.refl _)) | exact Ent.skip (Ent.skip (Ent.skip (Ent.refl _))) | exact Ent.skip (Ent.skip (Ent.skip (Ent.skip (Ent.refl _)))) | exact Ent.skip (Ent.skip (Ent.skip (Ent.skip (Ent.skip (Ent.refl _))))) | exact Ent.skip (Ent.skip (Ent.skip (Ent.skip (Ent.skip (Ent.skip (Ent.refl _)))))) | exact Ent.skip (Ent.skip (Ent.skip (Ent.skip (Ent.skip (Ent.skip (Ent.skip (Ent.refl _))))))) | exact Ent.skip (Ent.skip (Ent.skip (Ent.skip (Ent.skip (Ent.skip (Ent.skip (Ent.skip (Ent.refl _)))))))) | exact Ent.skip (Ent.skip (Ent.skip (Ent.skip (Ent.skip (Ent.skip (Ent.skip (Ent.skip (Ent.skip (Ent.refl _)))))))))) ?_))
            have f4 := HFC _ _ hs
            go_upto_region 28 with (first
              | (go_at_call 28; refine (ds_read hs HF'.out (r := 0) HR2.out HP2.out HLt.out HB2 HL2 HT').mono ?_; clear hs f4; rintro r w ⟨B2, c2, m2, hm2, rfl, hs⟩; obtain rfl : m1 = m2 := (by rw [← hm1.out, ← hm2.out])))
            clear HFC hm2
            have hmb : m1 ≤ 80 := by rw [← hm1.out]; exact hlb
            clear hlb
            replace hs : St w0 [SlB X s', DsB D t', own B1 m1 c1 139 2 (es2 l), own B2 m1 c2 139 2 (es2 l), blk g24 (c5o ⟨ok, oi, ov⟩).toArray 51, blk g25 (c3 v).toArray 49, blk g14 (c3 d).toArray 23] _ := hs.ent (by (repeat first | exact Ent.refl _ | refine Ent.step (by first | exact Ent.refl _ | exact Ent.skip (Ent.refl _) | exact Ent.skip (Ent.skip (Ent.refl _)) | exact Ent.skip (Ent.skip (Ent.skip (Ent.refl _))) | exact Ent.skip (Ent.skip (Ent.skip (Ent.skip (Ent.refl _)))) | exact Ent.skip (Ent.skip (Ent.skip (Ent.skip (Ent.skip (Ent.refl _))))) | exact Ent.skip (Ent.skip (Ent.skip (Ent.skip (Ent.skip (Ent.skip (Ent.refl _)))))) | exact Ent.skip (Ent.skip (Ent.skip (Ent.skip (Ent.skip (Ent.skip (Ent.skip (Ent.refl _))))))) | exact Ent.skip (Ent.skip (Ent.skip (Ent.skip (Ent.skip (Ent.skip (Ent.skip (Ent.skip (Ent.refl _)))))))) | exact Ent.skip (Ent.skip (Ent.skip (Ent.skip (Ent.skip (Ent.skip (Ent.skip (Ent.skip (Ent.skip (Ent.refl _)))))))))) ?_))
            go_upto_region 48 with (first
              | (go_at_call 29; refine (samee_c hs hm1 (by omega) (RdS.own hs.drop.drop).tail.tail (RdS.own hs.drop.drop.drop).tail.tail.tail).mono ?_; rintro r w ⟨rfl, hg⟩; replace hs := hs.grew hg; clear hg))
            (go_wp2_with (first
              | (go_at_call 30; refine (masked_c hT hs HST).mono ?_; clear hs; rintro r w ⟨rfl, hs⟩)))
            exact HN.out _ _ _ HI'.out (hs.ent (M := own B1 m1 c1 139 2 (es2 l) :: own B2 m1 c2 139 2 (es2 l) :: blk g24 (c5o ⟨ok, oi, ov⟩).toArray 51 :: blk g25 (c3 v).toArray 49 :: [SlB X s', DsB D t', blk g14 (c3 d).toArray 23]) (by (repeat first | exact Ent.refl _ | refine Ent.step (by first | exact Ent.refl _ | exact Ent.skip (Ent.refl _) | exact Ent.skip (Ent.skip (Ent.refl _)) | exact Ent.skip (Ent.skip (Ent.skip (Ent.refl _))) | exact Ent.skip (Ent.skip (Ent.skip (Ent.skip (Ent.refl _)))) | exact Ent.skip (Ent.skip (Ent.skip (Ent.skip (Ent.skip (Ent.refl _))))) | exact Ent.skip (Ent.skip (Ent.skip (Ent.skip (Ent.skip (Ent.skip (Ent.refl _)))))) | exact Ent.skip (Ent.skip (Ent.skip (Ent.skip (Ent.skip (Ent.skip (Ent.skip (Ent.refl _))))))) | exact Ent.skip (Ent.skip (Ent.skip (Ent.skip (Ent.skip (Ent.skip (Ent.skip (Ent.skip (Ent.refl _)))))))) | exact Ent.skip (Ent.skip (Ent.skip (Ent.skip (Ent.skip (Ent.skip (Ent.skip (Ent.skip (Ent.skip (Ent.refl _)))))))))) ?_))).drop.drop.drop.drop
          · obtain rfl : rdv = -1 := by rw [← HRV.out, if_neg hb]
            clear hb
            go_wp2
            exact HC.out _ _ _ HI.out.more (hs.ent (M := blk g24 (c5o ⟨ok, oi, ov⟩).toArray 51 :: blk g25 (c3 v).toArray 49 :: [SlB X s, DsB D t, blk g14 (c3 d).toArray 23]) (by (repeat first | exact Ent.refl _ | refine Ent.step (by first | exact Ent.refl _ | exact Ent.skip (Ent.refl _) | exact Ent.skip (Ent.skip (Ent.refl _)) | exact Ent.skip (Ent.skip (Ent.skip (Ent.refl _))) | exact Ent.skip (Ent.skip (Ent.skip (Ent.skip (Ent.refl _)))) | exact Ent.skip (Ent.skip (Ent.skip (Ent.skip (Ent.skip (Ent.refl _))))) | exact Ent.skip (Ent.skip (Ent.skip (Ent.skip (Ent.skip (Ent.skip (Ent.refl _)))))) | exact Ent.skip (Ent.skip (Ent.skip (Ent.skip (Ent.skip (Ent.skip (Ent.skip (Ent.refl _))))))) | exact Ent.skip (Ent.skip (Ent.skip (Ent.skip (Ent.skip (Ent.skip (Ent.skip (Ent.skip (Ent.refl _)))))))) | exact Ent.skip (Ent.skip (Ent.skip (Ent.skip (Ent.skip (Ent.skip (Ent.skip (Ent.skip (Ent.skip (Ent.refl _)))))))))) ?_))).drop.drop
end Go.Proofs.YtenipgddbpfidaaDoor
