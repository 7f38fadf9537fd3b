/-
  EntPlays: the walk. (Printed by gen_ep.py.)
-/
import Derived.Test.YtiafdlofcjbllaaGreatDoorEpL
import Derived.Test.YtiafdlofcjbllaaGreatDoorDw2
import Derived.Test.YtiafdlofcjbllaaGreatDoorDw3
import Derived.Test.YtiafdlofcjbllaaGreatDoorDw4
import Derived.Test.YtiafdlofcjbllaaGreatDoorDw5
import Derived.Test.YtiafdlofcjbllaaGreatDoorJZ
import Derived.Test.YtiafdlofcjbllaaGreatDoorJG
import Derived.Test.YtiafdlofcjbllaaGreatDoorPart
import Derived.Test.YtiafdlofcjbllaaGreatDoorArgE
import Derived.Deep.DeepCutAuto
import Derived.Deep.CutRange
import Derived.Deep.CutBlock
set_option maxRecDepth 100000
namespace Go.Proofs.YtiafdlofcjbllaaGreatDoor
open Go Go.RowKit
theorem zero8o : (Tryz.prog.info? 42).bind (·.zero) = some (.agg (c8o ⟨0, 0, 0, V3.z, (0, 0)⟩).toArray) := by kernel_rfl
theorem agg8o : aggB Tryz.prog 42 = true := by kernel_rfl
theorem size8o (o : OpE) : (Tryz.prog.info? 42).map (·.size) = some (c8o o).length := by kernel_rfl
theorem size8ov (o : OpE) : (Tryz.prog.info? 42).map (·.size) = some (Value.agg (c8o o).toArray).cells.size := by kernel_rfl
theorem WrA.slot8o {w0 : World} {g : Nat} {u v : OpE} {t : TypeId} {L : List As} : WrA w0 (YtiafdlofcjbllaaGreatDoor.blk g (c8o u).toArray t :: L) ⟨g, 0, none⟩ (Value.agg (c8o v).toArray).cells.toList (YtiafdlofcjbllaaGreatDoor.blk g (c8o v).toArray t :: L) := by
  have := WrA.blk (w0 := w0) (g := g) (o := 0) (cs := c8o u) (t := t) (vs := c8o v) (L := L) (by simp [c8o]) (c8o_one v)
  rwa [splice_all (by simp [c8o])] at this
theorem zeroCf : (Tryz.prog.info? 28).bind (·.zero) = some (.agg (cfC 0 0 none 0 0 none 0 0).toArray) := by kernel_rfl
theorem aggCf : aggB Tryz.prog 28 = true := by kernel_rfl
theorem sizeCf (n top : Int) (A : Option Addr) (m cA : Nat) (B : Option Addr) (k cB : Nat) : (Tryz.prog.info? 28).map (·.size) = some (cfC n top A m cA B k cB).length := by kernel_rfl
theorem sizeCfv (n top : Int) (A : Option Addr) (m cA : Nat) (B : Option Addr) (k cB : Nat) : (Tryz.prog.info? 28).map (·.size) = some (Value.agg (cfC n top A m cA B k cB).toArray).cells.size := by kernel_rfl
theorem cfC_one (n top : Int) (A : Option Addr) (m cA : Nat) (B : Option Addr) (k cB : Nat) : ∀ u ∈ cfC n top A m cA B k cB, u.oneCell' = true := by simp [cfC]; exact ⟨rfl, rfl, rfl, rfl⟩
theorem WrA.slotCf {w0 : World} {g : Nat} {n top n' top' : Int} {A A' : Option Addr} {m cA m' cA' : Nat} {B B' : Option Addr} {k cB k' cB' : Nat} {t : TypeId} {L : List As} : WrA w0 (YtiafdlofcjbllaaGreatDoor.blk g (cfC n top A m cA B k cB).toArray t :: L) ⟨g, 0, none⟩ (Value.agg (cfC n' top' A' m' cA' B' k' cB').toArray).cells.toList (YtiafdlofcjbllaaGreatDoor.blk g (cfC n' top' A' m' cA' B' k' cB').toArray t :: L) := by
  have := WrA.blk (w0 := w0) (g := g) (o := 0) (cs := cfC n top A m cA B k cB) (t := t) (vs := cfC n' top' A' m' cA' B' k' cB') (L := L) (by simp [cfC]) (cfC_one _ _ _ _ _ _ _ _)
  rwa [splice_all (by simp [cfC])] at this
theorem c8o_v {o : OpE} {j : Nat} {x : Value} (h : (YtiafdlofcjbllaaGreatDoor.c3 o.v)[j]? = some x) : (c8o o).toArray[3 + j]? = some x := by
  rw [List.getElem?_toArray]
  match j, h with
  | 0, h => exact h
  | 1, h => exact h
  | 2, h => exact h
  | k + 3, h => simp [YtiafdlofcjbllaaGreatDoor.c3] at h
theorem nsv_intv (l : List Nat) : nsV l = intv l := rfl
theorem parts_short {s : EnS} {h : Hdl} {l : List Nat} {e : Int} (h1 : s.parts h = (l, e)) (h2 : s.l.length ≤ 1000) : l.length ≤ 1000 := by
  unfold EnS.parts at h1
  split at h1
  · injection h1 with h1 _
    rw [← h1]
    exact Nat.le_trans (ofN_le _ _ _) h2
  · injection h1 with h1 _
    rw [← h1]
    exact Nat.zero_le _
theorem elemHe : ElemOk Tryz.prog 36 40 2 16 := ElemOk.of Tryz.underlying36 (z := hv (0, 0)) (by kernel_rfl) rfl (by decide)
attribute [local irreducible] wpList Calls Code.wp stV EnS.live EnS.slot WoS.cmpD WoS.mayD mayR rgP padA okI okN pS tS memS getG pG insS delS getV pV tV okVal newSl SlS.put SlS.err SlS.putU SlS.putB descE SlS.take SlS.set SlS.errSet SlS.get SlS.has EnS.ins EnS.set EnS.rem EnS.get EnS.parts EnS.del WoS.ins WoS.rem WoS.get WoS.set WoS.del WoS.create ofN strL delA newA giveV cs3 errDs descsL mkV mergeA allH idxS hsV nsV lo8
noncomputable def bodyEP : Code := (Tryz.f3.body).getD .skip
/-- What the round must come to. -/
def EpHN (Q : Exit → Act → World → Prop) (w0 : World) (z0 z1 : Int) (A A2 : Option Addr) (na0 ca0 nb ca2 g9 E A1 R M N q3 m cB i : Nat) (B : Option Addr) (ds : List V3) (s4 s5 s6 s7 s11 s46 s47 s48 s49 s50 s51 s52 s53 s54 s55 s56 s57 s58 s59 s60 s61 s62 s63 s64 s65 s66 s67 s68 s69 s70 s71 s72 s73 s74 s75 s76 s77 s78 s79 s80 s81 s82 s83 s84 s85 s86 s87 s336 s337 s338 s339 s340 s341 s342 s343 s344 s345 s346 s347 s348 s349 s350 s351 s352 s353 : Value) : Prop :=
  ∀ {u8 u15 u16 u17 u18 u19 u20 u21 u22 u23 u24 u25 u26 u27 u28 u29 u30 u31 u32 u33 u34 u35 u36 u37 u38 u39 u40 u41 u42 u43 u44 u45 u88 u89 u90 u91 u92 u93 u94 u95 u96 u97 u98 u99 u100 u101 u102 u103 u104 u105 u106 u107 u108 u109 u110 u111 u112 u113 u114 u115 u116 u117 u118 u119 u120 u121 u122 u123 u124 u125 u126 u127 u128 u129 u130 u131 u132 u133 u134 u135 u136 u137 u138 u139 u140 u141 u142 u143 u144 u145 u146 u147 u148 u149 u150 u151 u152 u153 u154 u155 u156 u157 u158 u159 u160 u161 u162 u163 u164 u165 u166 u167 u168 u169 u170 u171 u172 u173 u174 u175 u176 u177 u178 u179 u180 u181 u182 u183 u184 u185 u186 u187 u188 u189 u190 u191 u192 u193 u194 u195 u196 u197 u198 u199 u200 u201 u202 u203 u204 u205 u206 u207 u208 u209 u210 u211 u212 u213 u214 u215 u216 u217 u218 u219 u220 u221 u222 u223 u224 u225 u226 u227 u228 u229 u230 u231 u232 u233 u234 u235 u236 u237 u238 u239 u240 u241 u242 u243 u244 u245 u246 u247 u248 u249 u250 u251 u252 u253 u254 u255 u256 u257 u258 u259 u260 u261 u262 u263 u264 u265 u266 u267 u268 u269 u270 u271 u272 u273 u274 u275 u276 u277 u278 u279 u280 u281 u282 u283 u284 u285 u286 u287 u288 u289 u290 u291 u292 u293 u294 u295 u296 u297 u298 u299 u300 u301 u302 u303 u304 u305 u306 u307 u308 u309 u310 u311 u312 u313 u314 u315 u316 u317 u318 u319 u320 u321 u322 u323 u324 u325 u326 u327 u328 u329 u330 u331 u332 u333 u334 u335 : Value} (w : World) (na' ca' : Nat) (Ba' : Option Addr) (all' : List Hdl) (s' : EnS) (t' : WoS), na' ≤ i + 1 → Hid (all'.length = na') → Hid (EpI s' t' m (i + 1)) → St w0 [EnB E A1 R s', DwB M t', own Ba' na' ca' 40 2 (hsV all'), blk g9 (cfC (N : Nat) ((q3 : Nat) + 1) B m cB none 0 0).toArray 28, own B m cB 97 3 (cs3 ds)] w → Q .normal ⟨#[.int .i64 z0, .int .i64 z1, .slice A na0 ca0, .slice A2 nb ca2, s4, s5, s6, s7, u8, .pointer (some ⟨g9, 0, none⟩), .pointer (some ⟨E, 0, none⟩), s11, .pointer (some ⟨M, 0, none⟩), .slice Ba' na' ca', .int .i64 (i : Nat), u15, u16, u17, u18, u19, u20, u21, u22, u23, u24, u25, u26, u27, u28, u29, u30, u31, u32, u33, u34, u35, u36, u37, u38, u39, u40, u41, u42, u43, u44, u45, s46, s47, s48, s49, s50, s51, s52, s53, s54, s55, s56, s57, s58, s59, s60, s61, s62, s63, s64, s65, s66, s67, s68, s69, s70, s71, s72, s73, s74, s75, s76, s77, s78, s79, s80, s81, s82, s83, s84, s85, s86, s87, u88, u89, u90, u91, u92, u93, u94, u95, u96, u97, u98, u99, u100, u101, u102, u103, u104, u105, u106, u107, u108, u109, u110, u111, u112, u113, u114, u115, u116, u117, u118, u119, u120, u121, u122, u123, u124, u125, u126, u127, u128, u129, u130, u131, u132, u133, u134, u135, u136, u137, u138, u139, u140, u141, u142, u143, u144, u145, u146, u147, u148, u149, u150, u151, u152, u153, u154, u155, u156, u157, u158, u159, u160, u161, u162, u163, u164, u165, u166, u167, u168, u169, u170, u171, u172, u173, u174, u175, u176, u177, u178, u179, u180, u181, u182, u183, u184, u185, u186, u187, u188, u189, u190, u191, u192, u193, u194, u195, u196, u197, u198, u199, u200, u201, u202, u203, u204, u205, u206, u207, u208, u209, u210, u211, u212, u213, u214, u215, u216, u217, u218, u219, u220, u221, u222, u223, u224, u225, u226, u227, u228, u229, u230, u231, u232, u233, u234, u235, u236, u237, u238, u239, u240, u241, u242, u243, u244, u245, u246, u247, u248, u249, u250, u251, u252, u253, u254, u255, u256, u257, u258, u259, u260, u261, u262, u263, u264, u265, u266, u267, u268, u269, u270, u271, u272, u273, u274, u275, u276, u277, u278, u279, u280, u281, u282, u283, u284, u285, u286, u287, u288, u289, u290, u291, u292, u293, u294, u295, u296, u297, u298, u299, u300, u301, u302, u303, u304, u305, u306, u307, u308, u309, u310, u311, u312, u313, u314, u315, u316, u317, u318, u319, u320, u321, u322, u323, u324, u325, u326, u327, u328, u329, u330, u331, u332, u333, u334, u335, s336, s337, s338, s339, s340, s341, s342, s343, s344, s345, s346, s347, s348, s349, s350, s351, s352, s353], []⟩ w
set_option maxHeartbeats 16000000 in
theorem ep_round {w0 w : World} {z0 z1 : Int} {A A2 : Option Addr} {na0 ca0 nb ca2 g9 E A1 R M N q3 m cB i na ca : Nat} {B Ba : Option Addr} {ds : List V3} {xs : List OpE} {all : List Hdl} {s : EnS} {t : WoS} {s4 s5 s6 s7 s8 s11 s15 s16 s17 s18 s19 s20 s21 s22 s23 s24 s25 s26 s27 s28 s29 s30 s31 s32 s33 s34 s35 s36 s37 s38 s39 s40 s41 s42 s43 s44 s45 s46 s47 s48 s49 s50 s51 s52 s53 s54 s55 s56 s57 s58 s59 s60 s61 s62 s63 s64 s65 s66 s67 s68 s69 s70 s71 s72 s73 s74 s75 s76 s77 s78 s79 s80 s81 s82 s83 s84 s85 s86 s87 s88 s89 s90 s91 s92 s93 s94 s95 s96 s97 s98 s99 s100 s101 s102 s103 s104 s105 s106 s107 s108 s109 s110 s111 s112 s113 s114 s115 s116 s117 s118 s119 s120 s121 s122 s123 s124 s125 s126 s127 s128 s129 s130 s131 s132 s133 s134 s135 s136 s137 s138 s139 s140 s141 s142 s143 s144 s145 s146 s147 s148 s149 s150 s151 s152 s153 s154 s155 s156 s157 s158 s159 s160 s161 s162 s163 s164 s165 s166 s167 s168 s169 s170 s171 s172 s173 s174 s175 s176 s177 s178 s179 s180 s181 s182 s183 s184 s185 s186 s187 s188 s189 s190 s191 s192 s193 s194 s195 s196 s197 s198 s199 s200 s201 s202 s203 s204 s205 s206 s207 s208 s209 s210 s211 s212 s213 s214 s215 s216 s217 s218 s219 s220 s221 s222 s223 s224 s225 s226 s227 s228 s229 s230 s231 s232 s233 s234 s235 s236 s237 s238 s239 s240 s241 s242 s243 s244 s245 s246 s247 s248 s249 s250 s251 s252 s253 s254 s255 s256 s257 s258 s259 s260 s261 s262 s263 s264 s265 s266 s267 s268 s269 s270 s271 s272 s273 s274 s275 s276 s277 s278 s279 s280 s281 s282 s283 s284 s285 s286 s287 s288 s289 s290 s291 s292 s293 s294 s295 s296 s297 s298 s299 s300 s301 s302 s303 s304 s305 s306 s307 s308 s309 s310 s311 s312 s313 s314 s315 s316 s317 s318 s319 s320 s321 s322 s323 s324 s325 s326 s327 s328 s329 s330 s331 s332 s333 s334 s335 s336 s337 s338 s339 s340 s341 s342 s343 s344 s345 s346 s347 s348 s349 s350 s351 s352 s353 : Value} (hT : Tab w0) (hxn : Hid (xs.length = nb)) (hrb : RdS w0 [] A2 (xs.flatMap c8o)) (hm8 : m ≤ 8) (hl1 : i < nb) (hl2 : i < 100) (hna : na ≤ i) (HNA : Hid (all.length = na)) (HP : Hid (EpI s t m i)) (hs : St w0 [EnB E A1 R s, DwB M t, own Ba na ca 40 2 (hsV all), blk g9 (cfC (N : Nat) ((q3 : Nat) + 1) B m cB none 0 0).toArray 28, own B m cB 97 3 (cs3 ds)] w) {K : Act → World → Prop} {Q : Exit → Act → World → Prop} (hK : ∀ a w, Code.wp Tryz.prog (tlAt 10 bodyEP) Q a w → K a w)
    (HN : EpHN Q w0 z0 z1 A A2 na0 ca0 nb ca2 g9 E A1 R M N q3 m cB i B ds s4 s5 s6 s7 s11 s46 s47 s48 s49 s50 s51 s52 s53 s54 s55 s56 s57 s58 s59 s60 s61 s62 s63 s64 s65 s66 s67 s68 s69 s70 s71 s72 s73 s74 s75 s76 s77 s78 s79 s80 s81 s82 s83 s84 s85 s86 s87 s336 s337 s338 s339 s340 s341 s342 s343 s344 s345 s346 s347 s348 s349 s350 s351 s352 s353) :
    Code.wp Tryz.prog (hdAt 10 bodyEP) (Exit.then K Q) ⟨#[.int .i64 z0, .int .i64 z1, .slice A na0 ca0, .slice A2 nb ca2, s4, s5, s6, s7, s8, .pointer (some ⟨g9, 0, none⟩), .pointer (some ⟨E, 0, none⟩), s11, .pointer (some ⟨M, 0, none⟩), .slice Ba na ca, .int .i64 (i : Nat), s15, s16, s17, s18, s19, s20, s21, s22, s23, s24, s25, s26, s27, s28, s29, s30, s31, s32, s33, s34, s35, s36, s37, s38, s39, s40, s41, s42, s43, s44, s45, s46, s47, s48, s49, s50, s51, s52, s53, s54, s55, s56, s57, s58, s59, s60, s61, s62, s63, s64, s65, s66, s67, s68, s69, s70, s71, s72, s73, s74, s75, s76, s77, s78, s79, s80, s81, s82, s83, s84, s85, s86, s87, s88, s89, s90, s91, s92, s93, s94, s95, s96, s97, s98, s99, s100, s101, s102, s103, s104, s105, s106, s107, s108, s109, s110, s111, s112, s113, s114, s115, s116, s117, s118, s119, s120, s121, s122, s123, s124, s125, s126, s127, s128, s129, s130, s131, s132, s133, s134, s135, s136, s137, s138, s139, s140, s141, s142, s143, s144, s145, s146, s147, s148, s149, s150, s151, s152, s153, s154, s155, s156, s157, s158, s159, s160, s161, s162, s163, s164, s165, s166, s167, s168, s169, s170, s171, s172, s173, s174, s175, s176, s177, s178, s179, s180, s181, s182, s183, s184, s185, s186, s187, s188, s189, s190, s191, s192, s193, s194, s195, s196, s197, s198, s199, s200, s201, s202, s203, s204, s205, s206, s207, s208, s209, s210, s211, s212, s213, s214, s215, s216, s217, s218, s219, s220, s221, s222, s223, s224, s225, s226, s227, s228, s229, s230, s231, s232, s233, s234, s235, s236, s237, s238, s239, s240, s241, s242, s243, s244, s245, s246, s247, s248, s249, s250, s251, s252, s253, s254, s255, s256, s257, s258, s259, s260, s261, s262, s263, s264, s265, s266, s267, s268, s269, s270, s271, s272, s273, s274, s275, s276, s277, s278, s279, s280, s281, s282, s283, s284, s285, s286, s287, s288, s289, s290, s291, s292, s293, s294, s295, s296, s297, s298, s299, s300, s301, s302, s303, s304, s305, s306, s307, s308, s309, s310, s311, s312, s313, s314, s315, s316, s317, s318, s319, s320, s321, s322, s323, s324, s325, s326, s327, s328, s329, s330, s331, s332, s333, s334, s335, s336, s337, s338, s339, s340, s341, s342, s343, s344, s345, s346, s347, s348, s349, s350, s351, s352, s353], []⟩ w := by
  obtain ⟨o, ho⟩ : ∃ o, xs[i]? = some o := ⟨_, List.getElem?_eq_getElem (by rw [hxn.out]; exact hl1)⟩
  have hcell := fun k x hx => hrb.get (rows_get (C := 8) (encX := c8o) (fun _ => rfl) ho k x hx)
  obtain ⟨b9, off, hA2, _⟩ := hcell 0 _ rfl
  have hld : ∀ k x, (c8o o)[k]? = some x → Rd w0 [] ⟨b9, off + i * 8 + k, none⟩ x := fun k x hx => by
    obtain ⟨b', o', he, hr⟩ := hcell k x hx
    rw [hA2] at he
    injection he with he
    injection he with e1 e2
    subst e1; subst e2
    rw [Nat.add_assoc]; exact hr
  subst hA2
  clear hcell ho
  conv => arg 2; whnf
  (go_wp2_with (first
    | (refine wpl_load_agg (cs := c8o o) (b := b9) (o := off + i * 8) rfl agg8o (size8o o) hs ?hh ?_; case hh => exact fun j x hx => (hld j x hx).tail.tail.tail.tail.tail)
    | (refine wpl_alloc zero8o hs ?_; clear hs; intro g15 w hs)
    | (refine wpl_store_agg (v := .agg (c8o o).toArray) rfl rfl (size8ov o) hs WrA.slot8o ?_; clear hs; intro w hs)))
  conv => arg 2; whnf
  simp only [Act.put, List.setIfInBounds_toArray, List.set_cons_succ, List.set_cons_zero]
  clear hld
  have f1 : World.cell? _ ⟨g15, 1, none⟩ = some (.int .i64 o.h) := Rd.blk (by rfl) _ hs
  go_upto_region 12 with (first
    | (refine wpl_load_agg (cs := h2 o.r) (b := g15) (o := 6) rfl aggH (sizeHd _) hs ?hh ?_; case hh => exact fun j x hx => Rd.blk (by rw [Nat.add_comm]; simpa [c8o, h2] using hx))
    | (go_at_call 17; refine (pick_c hs HNA (RdS.own hs.drop.drop.drop).tail.tail.tail _ o.r).mono ?_; clear hs f1; rintro r w ⟨hd, rfl, hs⟩)
    | (refine wpl_alloc zeroH hs ?_; clear hs; intro g16 w hs)
    | (refine wpl_store_agg (v := hv hd) rfl rfl (sizeHd _) hs WrA.slotH ?_; clear hs; intro w hs))
  have f2 : World.cell? _ ⟨g15, 2, none⟩ = some (.int .i64 o.c) := Rd.blk (by rfl) _ hs.drop
  replace hs : St w0 (DwB M t :: blk g15 (c8o o).toArray 42 :: blk g16 (h2 hd).toArray 40 :: EnB E A1 R s :: own Ba na ca 40 2 (hsV all) :: blk g9 (cfC (N : Nat) ((q3 : Nat) + 1) B m cB none 0 0).toArray 28 :: [own B m cB 97 3 (cs3 ds)]) w := hs.ent (by (repeat first | exact Ent.refl _ | refine Ent.step (by repeat first | exact Ent.refl _ | apply Ent.skip) ?_))
  go_upto_region 13 with (first
    | (refine wpl_load_agg (cs := YtiafdlofcjbllaaGreatDoor.c3 o.v) (b := g15) (o := 3) rfl agg3 size3n hs ?hh ?_; case hh => exact fun j x hx => (Rd.blk (c8o_v hx)).tail)
    | (go_at_call 18; refine (fit_c hs o.c o.v).mono ?_; clear hs f2; rintro r w ⟨v, rfl, hs⟩)
    | (refine wpl_alloc zero3 hs ?_; clear hs; intro g17 w hs)
    | (refine wpl_store_agg (v := val3 v) rfl rfl (size3 _) hs WrA.slot3 ?_; clear hs; intro w hs))
  replace hs : St w0 (EnB E A1 R s :: DwB M t :: own Ba na ca 40 2 (hsV all) :: blk g15 (c8o o).toArray 42 :: blk g16 (h2 hd).toArray 40 :: blk g17 (YtiafdlofcjbllaaGreatDoor.c3 v).toArray 38 :: blk g9 (cfC (N : Nat) ((q3 : Nat) + 1) B m cB none 0 0).toArray 28 :: own B m cB 97 3 (cs3 ds) :: []) _ := hs.ent (by (repeat first | exact Ent.refl _ | refine Ent.step (by repeat first | exact Ent.refl _ | apply Ent.skip) ?_))
  have f0 : World.cell? _ ⟨g15, 0, none⟩ = some (.int .i64 o.k) := Rd.blk (by rfl) _ hs.drop.drop.drop
  go_upto_block 2 with (fail)
  clear f0
  go_cut [13, 18, 19, 20, 21, 22, 23, 24, 25, 26, 27, 28, 29, 30, 31, 32, 33, 34, 35, 36, 37, 38, 39, 40, 41, 42, 43, 44, 45] from 106 to 314 (fun av _ _ _ _ _ _ _ _ _ _ _ _ _ _ _ _ _ _ _ _ _ _ _ _ _ _ _ _ wx => ∃ (na' ca' : Nat) (Ba' : Option Addr) (all' : List Hdl) (s' : EnS) (t' : WoS), na' ≤ i + 1 ∧ av = .slice Ba' na' ca' ∧ Hid (all'.length = na') ∧ Hid (EpI s' t' m (i + 1)) ∧ St w0 (EnB E A1 R s' :: DwB M t' :: own Ba' na' ca' 40 2 (hsV all') :: blk g15 (c8o o).toArray 42 :: blk g16 (h2 hd).toArray 40 :: blk g17 (YtiafdlofcjbllaaGreatDoor.c3 v).toArray 38 :: blk g9 (cfC (N : Nat) ((q3 : Nat) + 1) B m cB none 0 0).toArray 28 :: own B m cB 97 3 (cs3 ds) :: []) wx)
  case first =>
    by_cases k0 : o.k = 0
    · have d0 : (o.k == 0) = true := by simp [k0]
      clear k0
      as_aux_lemma =>
        obtain ⟨⟨nh, e, cs'⟩, HG⟩ : ∃ z, Hid (giveV 1 s.cs = z) := ⟨_, rfl⟩
        have HP' : Hid (EpI ⟨s.top, cs', s.l⟩ { t with e := ⟨t.e.top, cs', t.e.l⟩ } m (i + 1)) := HP.out.cells cs'
        obtain ⟨s', HS'⟩ : ∃ z, Hid ((⟨s.top, cs', s.l⟩ : EnS) = z) := ⟨_, rfl⟩
        obtain ⟨t', HT'⟩ : ∃ z, Hid (({ t with e := ⟨t.e.top, cs', t.e.l⟩ } : WoS) = z) := ⟨_, rfl⟩
        rw [HS'.out, HT'.out] at HP'
        have k0 := Rd.en0 _ hs
        have HC : Hid (t.create = (nh, e, t')) := by
          rw [Hid, WoS.create_f HP.out.held]; unfold WoS.give; rw [← HP.out.cs, HG.out]; exact congrArg (fun z => (nh, e, z)) HT'.out
        have f0 : World.cell? _ ⟨g15, 0, none⟩ = some (.int .i64 o.k) := Rd.blk (by rfl) _ hs.drop.drop.drop
        go_upto_region 22 with (first
          | (go_at_call 19; refine (en_create hT hs HG).mono ?_; clear hs k0 f0; rintro r w ⟨rfl, hs⟩; rw [HS'.out] at hs)
          | (refine wpl_alloc zeroH hs ?_; clear hs; intro g20 w hs)
          | (refine wpl_store_agg (v := hv nh) rfl rfl (sizeHd _) hs WrA.slotH ?_; clear hs; intro w hs))
        replace hs : St w0 (DwB M t :: blk g20 (h2 nh).toArray 40 :: EnB E A1 R s' :: own Ba na ca 40 2 (hsV all) :: blk g15 (c8o o).toArray 42 :: blk g16 (h2 hd).toArray 40 :: blk g17 (YtiafdlofcjbllaaGreatDoor.c3 v).toArray 38 :: blk g9 (cfC (N : Nat) ((q3 : Nat) + 1) B m cB none 0 0).toArray 28 :: own B m cB 97 3 (cs3 ds) :: []) w := hs.ent (by (repeat first | exact Ent.refl _ | refine Ent.step (by repeat first | exact Ent.refl _ | apply Ent.skip) ?_))
        go_upto_region 23 with (first
          | (go_at_call 20; refine (dw_create hs HC).mono ?_; clear hs; rintro r w ⟨rfl, hs⟩)
          | (refine wpl_alloc zeroH hs ?_; clear hs; intro g22 w hs)
          | (refine wpl_store_agg (v := hv nh) rfl rfl (sizeHd _) hs WrA.slotH ?_; clear hs; intro w hs))
        replace hs : St w0 (blk g22 (h2 nh).toArray 40 :: blk g20 (h2 nh).toArray 40 :: EnB E A1 R s' :: DwB M t' :: own Ba na ca 40 2 (hsV all) :: blk g15 (c8o o).toArray 42 :: blk g16 (h2 hd).toArray 40 :: blk g17 (YtiafdlofcjbllaaGreatDoor.c3 v).toArray 38 :: blk g9 (cfC (N : Nat) ((q3 : Nat) + 1) B m cB none 0 0).toArray 28 :: own B m cB 97 3 (cs3 ds) :: []) w := hs.ent (by (repeat first | exact Ent.refl _ | refine Ent.step (by repeat first | exact Ent.refl _ | apply Ent.skip) ?_))
        have p0 : World.cell? _ ⟨g22, 0, none⟩ = some (.int .i64 nh.1) := Rd.blk (by rfl) _ hs
        have p1 : World.cell? _ ⟨g22, 1, none⟩ = some (.int .i64 nh.2) := Rd.blk (by rfl) _ hs
        have q0 : World.cell? _ ⟨g20, 0, none⟩ = some (.int .i64 nh.1) := Rd.blk (by rfl) _ hs.drop
        have q1 : World.cell? _ ⟨g20, 1, none⟩ = some (.int .i64 nh.2) := Rd.blk (by rfl) _ hs.drop
        by_cases he0 : e = 0
        · subst he0
          have HHV : Hid (hsV all ++ h2 nh = hsV (all ++ [nh])) := by rw [Hid]; unfold hsV; simp
          have HNA' : Hid ((all ++ [nh]).length = na + 1) := by rw [Hid, List.length_append, HNA.out]; rfl
          go_upto_region 26 with (fail)
          clear p0 p1 q0 q1
          (go_wp2_with (first
            | (refine wpl_load_agg (cs := h2 nh) (b := g22) (o := 0) rfl aggH (sizeHd _) hs ?hh ?_; case hh => exact fun j x hx => (Rd.blk (by simpa using hx)))
            | (refine wpl_build1 (v := hv nh) elemHe (by decide) rfl rfl hs ?_; clear hs; intro G7 w hs; replace hs : St w0 (blk G7 (h2 nh).toArray 40 :: _) w := hs)
            | (refine wpl_append (A := Ba) (n := na) (cap := ca) (xs := hsV all) (m := 1) (news := h2 nh) elemHe rfl rfl hs (L' := blk G7 (h2 nh).toArray 40 :: blk g22 (h2 nh).toArray 40 :: blk g20 (h2 nh).toArray 40 :: EnB E A1 R s' :: DwB M t' :: blk g15 (c8o o).toArray 42 :: blk g16 (h2 hd).toArray 40 :: blk g17 (YtiafdlofcjbllaaGreatDoor.c3 v).toArray 38 :: blk g9 (cfC (N : Nat) ((q3 : Nat) + 1) B m cB none 0 0).toArray 28 :: own B m cB 97 3 (cs3 ds) :: []) (by (repeat first | exact Ent.refl _ | refine Ent.step (by repeat first | exact Ent.refl _ | apply Ent.skip) ?_)) RdS.blk rfl (h2_one nh) (by unfold maxLen; omega) (by omega) ?_; clear hs; intro B8 c8 w hs; rw [HHV.out] at hs)))
          replace hs : St w0 (EnB E A1 R s' :: DwB M t' :: own B8 (na + 1) c8 40 2 (hsV (all ++ [nh])) :: blk g15 (c8o o).toArray 42 :: blk g16 (h2 hd).toArray 40 :: blk g17 (YtiafdlofcjbllaaGreatDoor.c3 v).toArray 38 :: blk g9 (cfC (N : Nat) ((q3 : Nat) + 1) B m cB none 0 0).toArray 28 :: own B m cB 97 3 (cs3 ds) :: []) _ := (hs.ent (M := blk G7 (h2 nh).toArray 40 :: blk g22 (h2 nh).toArray 40 :: blk g20 (h2 nh).toArray 40 :: EnB E A1 R s' :: DwB M t' :: own B8 (na + 1) c8 40 2 (hsV (all ++ [nh])) :: blk g15 (c8o o).toArray 42 :: blk g16 (h2 hd).toArray 40 :: blk g17 (YtiafdlofcjbllaaGreatDoor.c3 v).toArray 38 :: blk g9 (cfC (N : Nat) ((q3 : Nat) + 1) B m cB none 0 0).toArray 28 :: own B m cB 97 3 (cs3 ds) :: []) (by (repeat first | exact Ent.refl _ | refine Ent.step (by repeat first | exact Ent.refl _ | apply Ent.skip) ?_))).drop.drop.drop
          go_meet
          exact ⟨na + 1, c8, B8, all ++ [nh], s', t', by omega, rfl, HNA', HP', hs⟩
        · have e1 : (e == 0) = false := by simpa using he0
          clear he0
          go_wp2
          clear p0 p1 q0 q1
          replace hs := hs.drop.drop
          go_meet
          exact ⟨na, ca, Ba, all, s', t', by omega, rfl, HNA, HP', hs⟩
    · have d0 : (o.k == 0) = false := by simp [k0]
      clear k0
      by_cases k1 : o.k = 1
      · have d1 : (o.k == 1) = true := by simp [k1]
        clear k1
        as_aux_lemma =>
          obtain ⟨⟨nh, e, cs'⟩, HG⟩ : ∃ z, Hid (giveV 2 s.cs = z) := ⟨_, rfl⟩
          have HP' : Hid (EpI ⟨s.top, cs', s.l⟩ { t with e := ⟨t.e.top, cs', t.e.l⟩ } m (i + 1)) := HP.out.cells cs'
          obtain ⟨s', HS'⟩ : ∃ z, Hid ((⟨s.top, cs', s.l⟩ : EnS) = z) := ⟨_, rfl⟩
          obtain ⟨t', HT'⟩ : ∃ z, Hid (({ t with e := ⟨t.e.top, cs', t.e.l⟩ } : WoS) = z) := ⟨_, rfl⟩
          rw [HS'.out, HT'.out] at HP'
          have k0 := Rd.en0 _ hs
          have f0 : World.cell? _ ⟨g15, 0, none⟩ = some (.int .i64 o.k) := Rd.blk (by rfl) _ hs.drop.drop.drop
          obtain ⟨K, A3, n3, c3', R3, hK0, _, hpad, hs, hback⟩ := hs.rot.dwal
          have hcs : padA n3 c3' = s.cs := hpad.trans HP.out.cs.symm
          have HG2 : Hid (giveV 2 (padA n3 c3') = (nh, e, cs')) := by rw [Hid, hcs]; exact HG.out
          have k3 := Rd.blk hK0 _ hs
          have HB : Hid (∀ (c' : List ACell) (w' : World) (L' : List As), padA n3 c' = cs' → St w0 (blk M K 59 :: RaB A3 n3 t.e.top c' :: R3 :: L') w' → St w0 (DwB M t' :: L') w') := fun c' w' L' hp h => by
            rw [← HT'.out]; exact hback c' _ w' L' hp h
          clear hpad hback hcs hK0
          replace hs : St w0 (EnB E A1 R s :: blk M K 59 :: RaB A3 n3 t.e.top c3' :: R3 :: own Ba na ca 40 2 (hsV all) :: blk g15 (c8o o).toArray 42 :: blk g16 (h2 hd).toArray 40 :: blk g17 (YtiafdlofcjbllaaGreatDoor.c3 v).toArray 38 :: blk g9 (cfC (N : Nat) ((q3 : Nat) + 1) B m cB none 0 0).toArray 28 :: own B m cB 97 3 (cs3 ds) :: []) _ := hs.ent (by (repeat first | exact Ent.refl _ | refine Ent.step (by repeat first | exact Ent.refl _ | apply Ent.skip) ?_))
          go_upto_region 20 with (fail)
          refine wp_region_grow (by kernel_rfl) (by kernel_rfl) fun hne => ?_
          have g0 := fun p : GW _ => p.grew.cell k0
          have g1 := fun p : GW _ => p.grew.cell k3
          repeat (go_big_quiet_step (fail))
          refine wpQuiet_nil ?_
          clear hne g0 g1 k0 k3 f0
          intro u hu
          replace hs := hs.grew hu
          clear hu
          go_upto_region 22 with (first
            | (go_at_call 21; refine (en_raise hT hs HG).mono ?_; clear hs; rintro r w ⟨rfl, hs⟩; rw [HS'.out] at hs)
            | (refine wpl_alloc zeroH hs ?_; clear hs; intro g20 w hs)
            | (refine wpl_store_agg (v := hv nh) rfl rfl (sizeHd _) hs WrA.slotH ?_; clear hs; intro w hs))
          replace hs : St w0 (RaB A3 n3 t.e.top c3' :: blk g20 (h2 nh).toArray 40 :: EnB E A1 R s' :: blk M K 59 :: R3 :: own Ba na ca 40 2 (hsV all) :: blk g15 (c8o o).toArray 42 :: blk g16 (h2 hd).toArray 40 :: blk g17 (YtiafdlofcjbllaaGreatDoor.c3 v).toArray 38 :: blk g9 (cfC (N : Nat) ((q3 : Nat) + 1) B m cB none 0 0).toArray 28 :: own B m cB 97 3 (cs3 ds) :: []) w := hs.ent (by (repeat first | exact Ent.refl _ | refine Ent.step (by repeat first | exact Ent.refl _ | apply Ent.skip) ?_))
          go_upto_region 23 with (first
            | (go_at_call 22; refine (raise_r hs HG2).mono ?_; clear hs; rintro r w ⟨c6, hp6, rfl, hs⟩; replace hs := HB.out c6 _ _ hp6 (hs.ent (M := blk M K 59 :: RaB A3 n3 t.e.top c6 :: R3 :: blk g20 (h2 nh).toArray 40 :: EnB E A1 R s' :: own Ba na ca 40 2 (hsV all) :: blk g15 (c8o o).toArray 42 :: blk g16 (h2 hd).toArray 40 :: blk g17 (YtiafdlofcjbllaaGreatDoor.c3 v).toArray 38 :: blk g9 (cfC (N : Nat) ((q3 : Nat) + 1) B m cB none 0 0).toArray 28 :: own B m cB 97 3 (cs3 ds) :: []) (by (repeat first | exact Ent.refl _ | refine Ent.step (by repeat first | exact Ent.refl _ | apply Ent.skip) ?_))); clear hp6)
            | (refine wpl_alloc zeroH hs ?_; clear hs; intro g22 w hs)
            | (refine wpl_store_agg (v := hv nh) rfl rfl (sizeHd _) hs WrA.slotH ?_; clear hs; intro w hs))
          replace hs : St w0 (blk g22 (h2 nh).toArray 40 :: blk g20 (h2 nh).toArray 40 :: EnB E A1 R s' :: DwB M t' :: own Ba na ca 40 2 (hsV all) :: blk g15 (c8o o).toArray 42 :: blk g16 (h2 hd).toArray 40 :: blk g17 (YtiafdlofcjbllaaGreatDoor.c3 v).toArray 38 :: blk g9 (cfC (N : Nat) ((q3 : Nat) + 1) B m cB none 0 0).toArray 28 :: own B m cB 97 3 (cs3 ds) :: []) w := hs.ent (by (repeat first | exact Ent.refl _ | refine Ent.step (by repeat first | exact Ent.refl _ | apply Ent.skip) ?_))
          have p0 : World.cell? _ ⟨g22, 0, none⟩ = some (.int .i64 nh.1) := Rd.blk (by rfl) _ hs
          have p1 : World.cell? _ ⟨g22, 1, none⟩ = some (.int .i64 nh.2) := Rd.blk (by rfl) _ hs
          have q0 : World.cell? _ ⟨g20, 0, none⟩ = some (.int .i64 nh.1) := Rd.blk (by rfl) _ hs.drop
          have q1 : World.cell? _ ⟨g20, 1, none⟩ = some (.int .i64 nh.2) := Rd.blk (by rfl) _ hs.drop
          by_cases he0 : e = 0
          · subst he0
            have HHV : Hid (hsV all ++ h2 nh = hsV (all ++ [nh])) := by rw [Hid]; unfold hsV; simp
            have HNA' : Hid ((all ++ [nh]).length = na + 1) := by rw [Hid, List.length_append, HNA.out]; rfl
            go_upto_region 26 with (fail)
            clear p0 p1 q0 q1
            (go_wp2_with (first
              | (refine wpl_load_agg (cs := h2 nh) (b := g22) (o := 0) rfl aggH (sizeHd _) hs ?hh ?_; case hh => exact fun j x hx => (Rd.blk (by simpa using hx)))
              | (refine wpl_build1 (v := hv nh) elemHe (by decide) rfl rfl hs ?_; clear hs; intro G7 w hs; replace hs : St w0 (blk G7 (h2 nh).toArray 40 :: _) w := hs)
              | (refine wpl_append (A := Ba) (n := na) (cap := ca) (xs := hsV all) (m := 1) (news := h2 nh) elemHe rfl rfl hs (L' := blk G7 (h2 nh).toArray 40 :: blk g22 (h2 nh).toArray 40 :: blk g20 (h2 nh).toArray 40 :: EnB E A1 R s' :: DwB M t' :: blk g15 (c8o o).toArray 42 :: blk g16 (h2 hd).toArray 40 :: blk g17 (YtiafdlofcjbllaaGreatDoor.c3 v).toArray 38 :: blk g9 (cfC (N : Nat) ((q3 : Nat) + 1) B m cB none 0 0).toArray 28 :: own B m cB 97 3 (cs3 ds) :: []) (by (repeat first | exact Ent.refl _ | refine Ent.step (by repeat first | exact Ent.refl _ | apply Ent.skip) ?_)) RdS.blk rfl (h2_one nh) (by unfold maxLen; omega) (by omega) ?_; clear hs; intro B8 c8 w hs; rw [HHV.out] at hs)))
            replace hs : St w0 (EnB E A1 R s' :: DwB M t' :: own B8 (na + 1) c8 40 2 (hsV (all ++ [nh])) :: blk g15 (c8o o).toArray 42 :: blk g16 (h2 hd).toArray 40 :: blk g17 (YtiafdlofcjbllaaGreatDoor.c3 v).toArray 38 :: blk g9 (cfC (N : Nat) ((q3 : Nat) + 1) B m cB none 0 0).toArray 28 :: own B m cB 97 3 (cs3 ds) :: []) _ := (hs.ent (M := blk G7 (h2 nh).toArray 40 :: blk g22 (h2 nh).toArray 40 :: blk g20 (h2 nh).toArray 40 :: EnB E A1 R s' :: DwB M t' :: own B8 (na + 1) c8 40 2 (hsV (all ++ [nh])) :: blk g15 (c8o o).toArray 42 :: blk g16 (h2 hd).toArray 40 :: blk g17 (YtiafdlofcjbllaaGreatDoor.c3 v).toArray 38 :: blk g9 (cfC (N : Nat) ((q3 : Nat) + 1) B m cB none 0 0).toArray 28 :: own B m cB 97 3 (cs3 ds) :: []) (by (repeat first | exact Ent.refl _ | refine Ent.step (by repeat first | exact Ent.refl _ | apply Ent.skip) ?_))).drop.drop.drop
            go_meet
            exact ⟨na + 1, c8, B8, all ++ [nh], s', t', by omega, rfl, HNA', HP', hs⟩
          · have e1 : (e == 0) = false := by simpa using he0
            clear he0
            go_wp2
            clear p0 p1 q0 q1
            replace hs := hs.drop.drop
            go_meet
            exact ⟨na, ca, Ba, all, s', t', by omega, rfl, HNA, HP', hs⟩
      · have d1 : (o.k == 1) = false := by simp [k1]
        clear k1
        by_cases k2 : o.k = 2
        · have d2 : (o.k == 2) = true := by simp [k2]
          clear k2
          as_aux_lemma =>
            obtain ⟨⟨nn, e, s'⟩, HI⟩ : ∃ z, Hid (s.del hd = z) := ⟨_, rfl⟩
            obtain ⟨t', ht, hp'⟩ := HP.out.del HI.out
            have HT' := Lib.hid ht
            have HP' := Lib.hid hp'
            clear ht hp'
            have HLN : Hid (t.e.l.length ≤ 1000) := by rw [Hid, HP.out.lent]; omega
            go_upto_region 29 with (first
              | (refine wpl_load_agg (cs := h2 hd) (b := g16) (o := 0) rfl aggH (sizeHd _) hs ?hh ?_; case hh => exact fun j x hx => (((((Rd.blk (by simpa using hx))).tail).tail).tail).tail)
              | (go_at_call 23; refine (en_del (h := hd) hs (HP.out.ev.lt (by omega)) HI).mono ?_; clear hs; rintro r w ⟨rfl, hs⟩))
            replace hs := hs.rot
            (go_wp2_with (first
              | (refine wpl_load_agg (cs := h2 hd) (b := g16) (o := 0) rfl aggH (sizeHd _) hs ?hh ?_; case hh => exact fun j x hx => (((((Rd.blk (by simpa using hx))).tail).tail).tail).tail)
              | (go_at_call 24; refine (dw_del (h := hd) hs (fun x hx => by have := HP.out.evt x hx; omega) HLN.out HT').mono ?_; clear hs; rintro r w ⟨rfl, hs⟩)))
            replace hs := hs.rot
            go_meet
            exact ⟨na, ca, Ba, all, s', t', by omega, rfl, HNA, HP', hs⟩
        · have d2 : (o.k == 2) = false := by simp [k2]
          clear k2
          by_cases k3 : o.k = 3
          · have d3 : (o.k == 3) = true := by simp [k3]
            clear k3
            as_aux_lemma =>
              obtain ⟨⟨u, bb, e, s'⟩, HI⟩ : ∃ z, Hid (s.ins hd o.c v = z) := ⟨_, rfl⟩
              obtain ⟨t', ht, hp'⟩ := HP.out.ins HI.out
              have HT' := Lib.hid ht
              have HP' := Lib.hid hp'
              clear ht hp'
              have f2 : World.cell? _ ⟨g15, 2, none⟩ = some (.int .i64 o.c) := Rd.blk (by rfl) _ hs.drop.drop.drop
              go_upto_region 34 with (first
                | (refine wpl_load_agg (cs := h2 hd) (b := g16) (o := 0) rfl aggH (sizeHd _) hs ?hh ?_; case hh => exact fun j x hx => (((((Rd.blk (by simpa using hx))).tail).tail).tail).tail)
                | (refine wpl_load3 (v := v) (g := g17) rfl (has3_tail (has3_tail (has3_tail (has3_tail (has3_tail (has3_slot (t := 38))))))) agg3 size3n hs ?_)
                | (go_at_call 25; refine (en_ins (h := hd) hs (HP.out.ev.lt (by omega)) HI).mono ?_; clear hs f2; rintro r w ⟨rfl, hs⟩)
                | (refine wpl_alloc zero3 hs ?_; clear hs; intro g28 w hs)
                | (refine wpl_store_agg (v := val3 u) rfl rfl (size3 _) hs WrA.slot3 ?_; clear hs; intro w hs))
              have f2 : World.cell? _ ⟨g15, 2, none⟩ = some (.int .i64 o.c) := Rd.blk (by rfl) _ hs.drop.drop.drop.drop
              replace hs : St w0 (DwB M t :: blk g28 (YtiafdlofcjbllaaGreatDoor.c3 u).toArray 38 :: EnB E A1 R s' :: own Ba na ca 40 2 (hsV all) :: blk g15 (c8o o).toArray 42 :: blk g16 (h2 hd).toArray 40 :: blk g17 (YtiafdlofcjbllaaGreatDoor.c3 v).toArray 38 :: blk g9 (cfC (N : Nat) ((q3 : Nat) + 1) B m cB none 0 0).toArray 28 :: own B m cB 97 3 (cs3 ds) :: []) w := hs.ent (by (repeat first | exact Ent.refl _ | refine Ent.step (by repeat first | exact Ent.refl _ | apply Ent.skip) ?_))
              go_upto_region 35 with (first
                | (refine wpl_load_agg (cs := h2 hd) (b := g16) (o := 0) rfl aggH (sizeHd _) hs ?hh ?_; case hh => exact fun j x hx => ((((((Rd.blk (by simpa using hx))).tail).tail).tail).tail).tail)
                | (refine wpl_load3 (v := v) (g := g17) rfl (has3_tail (has3_tail (has3_tail (has3_tail (has3_tail (has3_tail (has3_slot (t := 38)))))))) agg3 size3n hs ?_)
                | (go_at_call 26; refine (dw_ins (h := hd) hs (fun x hx => by have := HP.out.evt x hx; omega) HT').mono ?_; clear hs f2; rintro r w ⟨rfl, hs⟩)
                | (refine wpl_alloc zero3 hs ?_; clear hs; intro g31 w hs)
                | (refine wpl_store_agg (v := val3 u) rfl rfl (size3 _) hs WrA.slot3 ?_; clear hs; intro w hs))
              obtain ⟨p0, p1, p2⟩ := Has3.facts (has3_slot (g := g31) (v := u) (t := 38)) hs
              obtain ⟨q0, q1, q2⟩ := Has3.facts (has3_tail (has3_tail (has3_slot (g := g28) (v := u) (t := 38)))) hs
              go_wp2
              clear p0 p1 p2 q0 q1 q2
              replace hs : St w0 (EnB E A1 R s' :: DwB M t' :: own Ba na ca 40 2 (hsV all) :: blk g15 (c8o o).toArray 42 :: blk g16 (h2 hd).toArray 40 :: blk g17 (YtiafdlofcjbllaaGreatDoor.c3 v).toArray 38 :: blk g9 (cfC (N : Nat) ((q3 : Nat) + 1) B m cB none 0 0).toArray 28 :: own B m cB 97 3 (cs3 ds) :: []) _ := (hs.ent (M := blk g31 (YtiafdlofcjbllaaGreatDoor.c3 u).toArray 38 :: blk g28 (YtiafdlofcjbllaaGreatDoor.c3 u).toArray 38 :: EnB E A1 R s' :: DwB M t' :: own Ba na ca 40 2 (hsV all) :: blk g15 (c8o o).toArray 42 :: blk g16 (h2 hd).toArray 40 :: blk g17 (YtiafdlofcjbllaaGreatDoor.c3 v).toArray 38 :: blk g9 (cfC (N : Nat) ((q3 : Nat) + 1) B m cB none 0 0).toArray 28 :: own B m cB 97 3 (cs3 ds) :: []) (by (repeat first | exact Ent.refl _ | refine Ent.step (by repeat first | exact Ent.refl _ | apply Ent.skip) ?_))).drop.drop
              go_meet
              exact ⟨na, ca, Ba, all, s', t', by omega, rfl, HNA, HP', hs⟩
          · have d3 : (o.k == 3) = false := by simp [k3]
            clear k3
            by_cases k4 : o.k = 4
            · have d4 : (o.k == 4) = true := by simp [k4]
              clear k4
              as_aux_lemma =>
                obtain ⟨⟨u, e, s'⟩, HI⟩ : ∃ z, Hid (s.rem hd o.c = z) := ⟨_, rfl⟩
                obtain ⟨t', ht, hp'⟩ := HP.out.rem HI.out
                have HT' := Lib.hid ht
                have HP' := Lib.hid hp'
                clear ht hp'
                have f2 : World.cell? _ ⟨g15, 2, none⟩ = some (.int .i64 o.c) := Rd.blk (by rfl) _ hs.drop.drop.drop
                go_upto_region 39 with (first
                  | (refine wpl_load_agg (cs := h2 hd) (b := g16) (o := 0) rfl aggH (sizeHd _) hs ?hh ?_; case hh => exact fun j x hx => (((((Rd.blk (by simpa using hx))).tail).tail).tail).tail)
                  | (go_at_call 27; refine (en_rem (h := hd) hs (HP.out.ev.lt (by omega)) HI).mono ?_; clear hs f2; rintro r w ⟨rfl, hs⟩)
                  | (refine wpl_alloc zero3 hs ?_; clear hs; intro g34 w hs)
                  | (refine wpl_store_agg (v := val3 u) rfl rfl (size3 _) hs WrA.slot3 ?_; clear hs; intro w hs))
                have f2 : World.cell? _ ⟨g15, 2, none⟩ = some (.int .i64 o.c) := Rd.blk (by rfl) _ hs.drop.drop.drop.drop
                replace hs : St w0 (DwB M t :: blk g34 (YtiafdlofcjbllaaGreatDoor.c3 u).toArray 38 :: EnB E A1 R s' :: own Ba na ca 40 2 (hsV all) :: blk g15 (c8o o).toArray 42 :: blk g16 (h2 hd).toArray 40 :: blk g17 (YtiafdlofcjbllaaGreatDoor.c3 v).toArray 38 :: blk g9 (cfC (N : Nat) ((q3 : Nat) + 1) B m cB none 0 0).toArray 28 :: own B m cB 97 3 (cs3 ds) :: []) w := hs.ent (by (repeat first | exact Ent.refl _ | refine Ent.step (by repeat first | exact Ent.refl _ | apply Ent.skip) ?_))
                go_upto_region 40 with (first
                  | (refine wpl_load_agg (cs := h2 hd) (b := g16) (o := 0) rfl aggH (sizeHd _) hs ?hh ?_; case hh => exact fun j x hx => ((((((Rd.blk (by simpa using hx))).tail).tail).tail).tail).tail)
                  | (go_at_call 28; refine (dw_rem (h := hd) hs (fun x hx => by have := HP.out.evt x hx; omega) HT').mono ?_; clear hs f2; rintro r w ⟨rfl, hs⟩)
                  | (refine wpl_alloc zero3 hs ?_; clear hs; intro g36 w hs)
                  | (refine wpl_store_agg (v := val3 u) rfl rfl (size3 _) hs WrA.slot3 ?_; clear hs; intro w hs))
                obtain ⟨p0, p1, p2⟩ := Has3.facts (has3_slot (g := g36) (v := u) (t := 38)) hs
                obtain ⟨q0, q1, q2⟩ := Has3.facts (has3_tail (has3_tail (has3_slot (g := g34) (v := u) (t := 38)))) hs
                go_wp2
                clear p0 p1 p2 q0 q1 q2
                replace hs : St w0 (EnB E A1 R s' :: DwB M t' :: own Ba na ca 40 2 (hsV all) :: blk g15 (c8o o).toArray 42 :: blk g16 (h2 hd).toArray 40 :: blk g17 (YtiafdlofcjbllaaGreatDoor.c3 v).toArray 38 :: blk g9 (cfC (N : Nat) ((q3 : Nat) + 1) B m cB none 0 0).toArray 28 :: own B m cB 97 3 (cs3 ds) :: []) _ := (hs.ent (M := blk g36 (YtiafdlofcjbllaaGreatDoor.c3 u).toArray 38 :: blk g34 (YtiafdlofcjbllaaGreatDoor.c3 u).toArray 38 :: EnB E A1 R s' :: DwB M t' :: own Ba na ca 40 2 (hsV all) :: blk g15 (c8o o).toArray 42 :: blk g16 (h2 hd).toArray 40 :: blk g17 (YtiafdlofcjbllaaGreatDoor.c3 v).toArray 38 :: blk g9 (cfC (N : Nat) ((q3 : Nat) + 1) B m cB none 0 0).toArray 28 :: own B m cB 97 3 (cs3 ds) :: []) (by (repeat first | exact Ent.refl _ | refine Ent.step (by repeat first | exact Ent.refl _ | apply Ent.skip) ?_))).drop.drop
                go_meet
                exact ⟨na, ca, Ba, all, s', t', by omega, rfl, HNA, HP', hs⟩
            · have d4 : (o.k == 4) = false := by simp [k4]
              clear k4
              by_cases k5 : o.k = 5
              · have d5 : (o.k == 5) = true := by simp [k5]
                clear k5
                as_aux_lemma =>
                  obtain ⟨⟨u, e⟩, HI⟩ : ∃ z, Hid (s.get hd o.c = z) := ⟨_, rfl⟩
                  have HT' := Lib.hid (HP.out.get HI.out)
                  have HP' := Lib.hid HP.out.more
                  have f2 : World.cell? _ ⟨g15, 2, none⟩ = some (.int .i64 o.c) := Rd.blk (by rfl) _ hs.drop.drop.drop
                  go_upto_region 44 with (first
                    | (refine wpl_load_agg (cs := h2 hd) (b := g16) (o := 0) rfl aggH (sizeHd _) hs ?hh ?_; case hh => exact fun j x hx => (((((Rd.blk (by simpa using hx))).tail).tail).tail).tail)
                    | (go_at_call 29; refine (en_get (h := hd) hs HI).mono ?_; clear hs f2; rintro r w ⟨rfl, hs⟩)
                    | (refine wpl_alloc zero3 hs ?_; clear hs; intro g38 w hs)
                    | (refine wpl_store_agg (v := val3 u) rfl rfl (size3 _) hs WrA.slot3 ?_; clear hs; intro w hs))
                  have f2 : World.cell? _ ⟨g15, 2, none⟩ = some (.int .i64 o.c) := Rd.blk (by rfl) _ hs.drop.drop.drop.drop
                  replace hs : St w0 (DwB M t :: blk g38 (YtiafdlofcjbllaaGreatDoor.c3 u).toArray 38 :: EnB E A1 R s :: own Ba na ca 40 2 (hsV all) :: blk g15 (c8o o).toArray 42 :: blk g16 (h2 hd).toArray 40 :: blk g17 (YtiafdlofcjbllaaGreatDoor.c3 v).toArray 38 :: blk g9 (cfC (N : Nat) ((q3 : Nat) + 1) B m cB none 0 0).toArray 28 :: own B m cB 97 3 (cs3 ds) :: []) w := hs.ent (by (repeat first | exact Ent.refl _ | refine Ent.step (by repeat first | exact Ent.refl _ | apply Ent.skip) ?_))
                  go_upto_region 45 with (first
                    | (refine wpl_load_agg (cs := h2 hd) (b := g16) (o := 0) rfl aggH (sizeHd _) hs ?hh ?_; case hh => exact fun j x hx => ((((((Rd.blk (by simpa using hx))).tail).tail).tail).tail).tail)
                    | (go_at_call 30; refine (dw_get (h := hd) hs HT').mono ?_; clear hs f2; rintro r w ⟨rfl, hs⟩)
                    | (refine wpl_alloc zero3 hs ?_; clear hs; intro g40 w hs)
                    | (refine wpl_store_agg (v := val3 u) rfl rfl (size3 _) hs WrA.slot3 ?_; clear hs; intro w hs))
                  obtain ⟨p0, p1, p2⟩ := Has3.facts (has3_slot (g := g40) (v := u) (t := 38)) hs
                  obtain ⟨q0, q1, q2⟩ := Has3.facts (has3_tail (has3_tail (has3_slot (g := g38) (v := u) (t := 38)))) hs
                  go_wp2
                  clear p0 p1 p2 q0 q1 q2
                  replace hs : St w0 (EnB E A1 R s :: DwB M t :: own Ba na ca 40 2 (hsV all) :: blk g15 (c8o o).toArray 42 :: blk g16 (h2 hd).toArray 40 :: blk g17 (YtiafdlofcjbllaaGreatDoor.c3 v).toArray 38 :: blk g9 (cfC (N : Nat) ((q3 : Nat) + 1) B m cB none 0 0).toArray 28 :: own B m cB 97 3 (cs3 ds) :: []) _ := (hs.ent (M := blk g40 (YtiafdlofcjbllaaGreatDoor.c3 u).toArray 38 :: blk g38 (YtiafdlofcjbllaaGreatDoor.c3 u).toArray 38 :: EnB E A1 R s :: DwB M t :: own Ba na ca 40 2 (hsV all) :: blk g15 (c8o o).toArray 42 :: blk g16 (h2 hd).toArray 40 :: blk g17 (YtiafdlofcjbllaaGreatDoor.c3 v).toArray 38 :: blk g9 (cfC (N : Nat) ((q3 : Nat) + 1) B m cB none 0 0).toArray 28 :: own B m cB 97 3 (cs3 ds) :: []) (by (repeat first | exact Ent.refl _ | refine Ent.step (by repeat first | exact Ent.refl _ | apply Ent.skip) ?_))).drop.drop
                  go_meet
                  exact ⟨na, ca, Ba, all, s, t, by omega, rfl, HNA, HP', hs⟩
              · have d5 : (o.k == 5) = false := by simp [k5]
                clear k5
                by_cases k6 : o.k = 6
                · have d6 : (o.k == 6) = true := by simp [k6]
                  clear k6
                  as_aux_lemma =>
                    obtain ⟨⟨e, s'⟩, HI⟩ : ∃ z, Hid (s.set hd o.c v = z) := ⟨_, rfl⟩
                    obtain ⟨t', ht, hp'⟩ := HP.out.set HI.out
                    have HT' := Lib.hid ht
                    have HP' := Lib.hid hp'
                    clear ht hp'
                    replace hs : St w0 (blk g15 (c8o o).toArray 42 :: blk g16 (h2 hd).toArray 40 :: blk g17 (YtiafdlofcjbllaaGreatDoor.c3 v).toArray 38 :: EnB E A1 R s :: DwB M t :: own Ba na ca 40 2 (hsV all) :: blk g9 (cfC (N : Nat) ((q3 : Nat) + 1) B m cB none 0 0).toArray 28 :: own B m cB 97 3 (cs3 ds) :: []) _ := hs.ent (by (repeat first | exact Ent.refl _ | refine Ent.step (by repeat first | exact Ent.refl _ | apply Ent.skip) ?_))
                    go_upto_region 48 with (fail)
                    refine wp_region_plain [false, false, false, false, false, true, false, false, false, false, false, true, true] hs.only3 (by kernel_rfl) (by kernel_rfl) fun hne => ?_
                    have r0 := (show Rd w0 [blk g15 (c8o o).toArray 42, blk g16 (h2 hd).toArray 40, blk g17 (YtiafdlofcjbllaaGreatDoor.c3 v).toArray 38] ⟨g15, 2, none⟩ (.int .i64 o.c) from Rd.blk rfl).alln
                    have r1 := (show Rd w0 [blk g15 (c8o o).toArray 42, blk g16 (h2 hd).toArray 40, blk g17 (YtiafdlofcjbllaaGreatDoor.c3 v).toArray 38] ⟨g16, 0, none⟩ (.int .i64 hd.1) from (Rd.blk rfl).tail).alln
                    have r2 := (show Rd w0 [blk g15 (c8o o).toArray 42, blk g16 (h2 hd).toArray 40, blk g17 (YtiafdlofcjbllaaGreatDoor.c3 v).toArray 38] ⟨g16, 1, none⟩ (.int .i64 hd.2) from (Rd.blk rfl).tail).alln
                    have r3 := (show Rd w0 [blk g15 (c8o o).toArray 42, blk g16 (h2 hd).toArray 40, blk g17 (YtiafdlofcjbllaaGreatDoor.c3 v).toArray 38] ⟨g17, 0, none⟩ (.int .i64 v.k) from (Rd.blk rfl).tail.tail).alln
                    have r4 := (show Rd w0 [blk g15 (c8o o).toArray 42, blk g16 (h2 hd).toArray 40, blk g17 (YtiafdlofcjbllaaGreatDoor.c3 v).toArray 38] ⟨g17, 1, none⟩ (.int .i64 v.a) from (Rd.blk rfl).tail.tail).alln
                    have r5 := (show Rd w0 [blk g15 (c8o o).toArray 42, blk g16 (h2 hd).toArray 40, blk g17 (YtiafdlofcjbllaaGreatDoor.c3 v).toArray 38] ⟨g17, 2, none⟩ (.int .i64 v.b) from (Rd.blk rfl).tail.tail).alln
                    simp only [pickOps]
                    repeat (go_big_quiet_step (fail))
                    refine wpQuiet_nil ?_
                    clear hne r0 r1 r2 r3 r4 r5
                    simp only [chainIx]
                    replace hs := hs.drew
                    refine wpChainP_next rfl ?_
                    (go_wp2_with (first
                      | (go_at_call 31; refine (en_set (h := hd) hs.up3 (HP.out.ev.lt (by omega)) HI).mono ?_; clear hs; rintro r w ⟨rfl, hs⟩; replace hs := hs.dn3)))
                    refine ⟨hs.only3, ?_⟩
                    refine wpChainP_next rfl ?_
                    (go_wp2_with (first
                      | (go_at_call 32; refine (dw_set (h := hd) hs.up4 (fun x hx => by have := HP.out.evt x hx; omega) HT').mono ?_; clear hs; rintro r w ⟨rfl, hs⟩; replace hs := hs.dn4)))
                    refine ⟨hs.only3, ?_⟩
                    refine wpChain_last rfl ?_
                    go_wp2
                    replace hs : St w0 (EnB E A1 R s' :: DwB M t' :: own Ba na ca 40 2 (hsV all) :: blk g15 (c8o o).toArray 42 :: blk g16 (h2 hd).toArray 40 :: blk g17 (YtiafdlofcjbllaaGreatDoor.c3 v).toArray 38 :: blk g9 (cfC (N : Nat) ((q3 : Nat) + 1) B m cB none 0 0).toArray 28 :: own B m cB 97 3 (cs3 ds) :: []) _ := hs.ent (by (repeat first | exact Ent.refl _ | refine Ent.step (by repeat first | exact Ent.refl _ | apply Ent.skip) ?_))
                    go_meet
                    exact ⟨na, ca, Ba, all, s', t', by omega, rfl, HNA, HP', hs⟩
                · have d6 : (o.k == 6) = false := by simp [k6]
                  clear k6
                  by_cases k7 : o.k = 7
                  · have d7 : (o.k == 7) = true := by simp [k7]
                    clear k7
                    as_aux_lemma =>
                      obtain ⟨⟨l, e⟩, HI⟩ : ∃ z, Hid (s.parts hd = z) := ⟨_, rfl⟩
                      have HT' := Lib.hid (HP.out.parts HI.out)
                      have HP' := Lib.hid HP.out.more
                      have HLN : Hid (t.e.l.length ≤ 1000) := by rw [Hid, HP.out.lent]; omega
                      have hlb : l.length ≤ 1000 := parts_short HI.out (by rw [HP.out.len]; omega)
                      go_upto_region 52 with (first
                        | (refine wpl_load_agg (cs := h2 hd) (b := g16) (o := 0) rfl aggH (sizeHd _) hs ?hh ?_; case hh => exact fun j x hx => (((((Rd.blk (by simpa using hx))).tail).tail).tail).tail)
                        | (go_at_call 33; refine (en_parts (h := hd) hs HI).mono ?_; clear hs; rintro r w ⟨B5, m5, c5, hm5, rfl, hs⟩))
                      have hb5 : m5 ≤ 1000 := by rw [← hm5.out]; exact hlb
                      clear hlb
                      replace hs := hs.up2
                      go_upto_region 53 with (first
                        | (refine wpl_load_agg (cs := h2 hd) (b := g16) (o := 0) rfl aggH (sizeHd _) hs ?hh ?_; case hh => exact fun j x hx => ((((((Rd.blk (by simpa using hx))).tail).tail).tail).tail).tail)
                        | (go_at_call 34; refine (dw_parts (h := hd) hs HLN.out HT').mono ?_; clear hs; rintro r w ⟨B6, m6, c6, hm6, rfl, hs⟩; obtain rfl : m5 = m6 := (by rw [← hm5.out, ← hm6.out])))
                      replace hs : St w0 (own B5 m5 c5 3 1 (nsV l) :: own B6 m5 c6 3 1 (nsV l) :: EnB E A1 R s :: DwB M t :: own Ba na ca 40 2 (hsV all) :: blk g15 (c8o o).toArray 42 :: blk g16 (h2 hd).toArray 40 :: blk g17 (YtiafdlofcjbllaaGreatDoor.c3 v).toArray 38 :: blk g9 (cfC (N : Nat) ((q3 : Nat) + 1) B m cB none 0 0).toArray 28 :: own B m cB 97 3 (cs3 ds) :: []) _ := hs.ent (by (repeat first | exact Ent.refl _ | refine Ent.step (by repeat first | exact Ent.refl _ | apply Ent.skip) ?_))
                      rw [nsv_intv] at hs
                      (go_wp2_with (first
                        | (go_at_call 35; refine (rsame_c (b := true) hm5.out hm5.out (by omega) hs (RdS.own hs) (RdS.own hs.drop).tail ⟨fun _ => rfl, fun _ => rfl⟩).mono ?_; rintro r w ⟨rfl, hg⟩; replace hs := hs.grew hg; clear hg)))
                      replace hs := hs.drop.drop
                      go_meet
                      exact ⟨na, ca, Ba, all, s, t, by omega, rfl, HNA, HP', hs⟩
                  · have d7 : (o.k == 7) = false := by simp [k7]
                    clear k7
                    as_aux_lemma =>
                      obtain ⟨mm, HM⟩ : ∃ z, Hid ((idxS 2 s.cs).length = z) := ⟨_, rfl⟩
                      have hmb : mm ≤ 65536 := by have h1 := idx_len 2 s.cs; rw [HM.out] at h1; have := en_few hs; omega
                      obtain ⟨hl, HH⟩ : ∃ z, Hid (allH s.cs (idxS 2 s.cs) = z) := ⟨_, rfl⟩
                      have HHL : Hid (hl.length = mm) := by rw [Hid, ← HH.out, allH_len]; exact HM.out
                      have HP' : Hid (EpI ⟨s.top, mergeA s.cs, s.l⟩ { t with e := ⟨t.e.top, mergeA s.cs, t.e.l⟩ } m (i + 1)) := HP.out.cells (mergeA s.cs)
                      obtain ⟨s', HS'⟩ : ∃ z, Hid ((⟨s.top, mergeA s.cs, s.l⟩ : EnS) = z) := ⟨_, rfl⟩
                      obtain ⟨t', HT'⟩ : ∃ z, Hid (({ t with e := ⟨t.e.top, mergeA s.cs, t.e.l⟩ } : WoS) = z) := ⟨_, rfl⟩
                      rw [HS'.out, HT'.out] at HP'
                      obtain ⟨K, A3, n3, c3', R3, hK0, _, hpad, hs, hback⟩ := hs.rot.dwal
                      have hf3 : c3'.length ≤ n3 := hs.rot.raopen.1.fits
                      have hcs : padA n3 c3' = s.cs := hpad.trans HP.out.cs.symm
                      have HM2 : Hid ((idxS 2 c3').length = mm) := by rw [Hid, ← idxS_pad hf3 (by decide), hcs]; exact HM.out
                      have HH2 : Hid (allH c3' (idxS 2 c3') = hl) := by rw [Hid, ← all_pad hf3 (by decide), hcs]; exact HH.out
                      have HB : Hid (∀ (w' : World) (L' : List As), St w0 (blk M K 59 :: RaB A3 n3 t.e.top (mergeA c3') :: R3 :: L') w' → St w0 (DwB M t' :: L') w') := fun w' L' h => by
                        rw [← HT'.out]; exact hback _ _ w' L' (by rw [← merge_pad, hcs]) h
                      have HK0 := Lib.hid hK0
                      clear hK0 hpad hf3 hcs hback
                      replace hs : St w0 (EnB E A1 R s :: blk M K 59 :: RaB A3 n3 t.e.top c3' :: R3 :: own Ba na ca 40 2 (hsV all) :: blk g15 (c8o o).toArray 42 :: blk g16 (h2 hd).toArray 40 :: blk g17 (YtiafdlofcjbllaaGreatDoor.c3 v).toArray 38 :: blk g9 (cfC (N : Nat) ((q3 : Nat) + 1) B m cB none 0 0).toArray 28 :: own B m cB 97 3 (cs3 ds) :: []) _ := hs.ent (by (repeat first | exact Ent.refl _ | refine Ent.step (by repeat first | exact Ent.refl _ | apply Ent.skip) ?_))
                      replace hs : St w0 (blk E (enC A1 R) 53 :: blk M K 59 :: AlB A1 s.top s.cs :: RgB R s.l :: RaB A3 n3 t.e.top c3' :: R3 :: own Ba na ca 40 2 (hsV all) :: blk g15 (c8o o).toArray 42 :: blk g16 (h2 hd).toArray 40 :: blk g17 (YtiafdlofcjbllaaGreatDoor.c3 v).toArray 38 :: blk g9 (cfC (N : Nat) ((q3 : Nat) + 1) B m cB none 0 0).toArray 28 :: own B m cB 97 3 (cs3 ds) :: []) _ := (hs.enopen).ent (by (repeat first | exact Ent.refl _ | refine Ent.step (by repeat first | exact Ent.refl _ | apply Ent.skip) ?_))
                      go_upto_region 14 with (fail)
                      refine wp_region_plain [false, false, false, false, false, true, false, false, false, false, true, true, true] hs.only2 (by kernel_rfl) (by kernel_rfl) fun hne => ?_
                      have r0 := (show Rd w0 [blk E (enC A1 R) 53, blk M K 59] ⟨E, 0, none⟩ (.pointer (some ⟨A1, 0, none⟩)) from Rd.blk rfl).alln
                      have r1 := (show Rd w0 [blk E (enC A1 R) 53, blk M K 59] ⟨M, 0, none⟩ (.pointer (some ⟨A3, 0, none⟩)) from (Rd.blk HK0.out).tail).alln
                      simp only [pickOps]
                      repeat (go_big_quiet_step (fail))
                      refine wpQuiet_nil ?_
                      clear hne r0 r1
                      simp only [chainIx]
                      replace hs := hs.drew
                      refine wpChainP_next rfl ?_
                      (go_wp2_with (first
                        | (go_at_call 37; refine (merge_c hT hs.up2 HM).mono ?_; clear hs; rintro r w ⟨B5, c5, rfl, hs⟩)))
                      rw [HH.out] at hs
                      replace hs : St w0 (blk E (enC A1 R) 53 :: blk M K 59 :: RaB A3 n3 t.e.top c3' :: own B5 mm c5 40 2 (hsV hl) :: AlB A1 s.top (mergeA s.cs) :: RgB R s.l :: R3 :: own Ba na ca 40 2 (hsV all) :: blk g15 (c8o o).toArray 42 :: blk g16 (h2 hd).toArray 40 :: blk g17 (YtiafdlofcjbllaaGreatDoor.c3 v).toArray 38 :: blk g9 (cfC (N : Nat) ((q3 : Nat) + 1) B m cB none 0 0).toArray 28 :: own B m cB 97 3 (cs3 ds) :: []) _ := hs.ent (by (repeat first | exact Ent.refl _ | refine Ent.step (by repeat first | exact Ent.refl _ | apply Ent.skip) ?_))
                      refine ⟨hs.only2, ?_⟩
                      refine wpChainP_next rfl ?_
                      (go_wp2_with (first
                        | (go_at_call 38; refine (merge_r hs.up2 HM2).mono ?_; clear hs; rintro r w ⟨B6, c6, rfl, hs⟩)))
                      rw [HH2.out] at hs
                      replace hs : St w0 (blk E (enC A1 R) 53 :: blk M K 59 :: own B5 mm c5 40 2 (hsV hl) :: own B6 mm c6 40 2 (hsV hl) :: RaB A3 n3 t.e.top (mergeA c3') :: AlB A1 s.top (mergeA s.cs) :: RgB R s.l :: R3 :: own Ba na ca 40 2 (hsV all) :: blk g15 (c8o o).toArray 42 :: blk g16 (h2 hd).toArray 40 :: blk g17 (YtiafdlofcjbllaaGreatDoor.c3 v).toArray 38 :: blk g9 (cfC (N : Nat) ((q3 : Nat) + 1) B m cB none 0 0).toArray 28 :: own B m cB 97 3 (cs3 ds) :: []) _ := hs.ent (by (repeat first | exact Ent.refl _ | refine Ent.step (by repeat first | exact Ent.refl _ | apply Ent.skip) ?_))
                      refine ⟨hs.only2, ?_⟩
                      refine wpChainP_next rfl ?_
                      (go_wp2_with (first
                        | (go_at_call 36; refine (sameH_c HHL.out (by omega) hs (RdS.own hs.drop.drop).tail.tail (RdS.own hs.drop.drop.drop).tail.tail.tail).mono ?_; rintro r w ⟨rfl, hg⟩; replace hs := hs.grew hg; clear hg)))
                      refine ⟨hs.only2, ?_⟩
                      refine wpChain_last rfl ?_
                      go_wp2
                      have h5 := HB.out _ _ (hs.ent (M := blk M K 59 :: RaB A3 n3 t.e.top (mergeA c3') :: R3 :: AlB A1 s.top (mergeA s.cs) :: RgB R s.l :: blk E (enC A1 R) 53 :: own B5 mm c5 40 2 (hsV hl) :: own B6 mm c6 40 2 (hsV hl) :: own Ba na ca 40 2 (hsV all) :: blk g15 (c8o o).toArray 42 :: blk g16 (h2 hd).toArray 40 :: blk g17 (YtiafdlofcjbllaaGreatDoor.c3 v).toArray 38 :: blk g9 (cfC (N : Nat) ((q3 : Nat) + 1) B m cB none 0 0).toArray 28 :: own B m cB 97 3 (cs3 ds) :: []) (by (repeat first | exact Ent.refl _ | refine Ent.step (by repeat first | exact Ent.refl _ | apply Ent.skip) ?_)))
                      have h6 := (h5.ent (M := AlB A1 s.top (mergeA s.cs) :: RgB R s.l :: blk E (enC A1 R) 53 :: own B5 mm c5 40 2 (hsV hl) :: own B6 mm c6 40 2 (hsV hl) :: DwB M t' :: own Ba na ca 40 2 (hsV all) :: blk g15 (c8o o).toArray 42 :: blk g16 (h2 hd).toArray 40 :: blk g17 (YtiafdlofcjbllaaGreatDoor.c3 v).toArray 38 :: blk g9 (cfC (N : Nat) ((q3 : Nat) + 1) B m cB none 0 0).toArray 28 :: own B m cB 97 3 (cs3 ds) :: []) (by (repeat first | exact Ent.refl _ | refine Ent.step (by repeat first | exact Ent.refl _ | apply Ent.skip) ?_)))
                      have h7 := St.enshut (s := ⟨s.top, mergeA s.cs, s.l⟩) h6
                      rw [HS'.out] at h7
                      replace hs : St w0 (EnB E A1 R s' :: DwB M t' :: own Ba na ca 40 2 (hsV all) :: blk g15 (c8o o).toArray 42 :: blk g16 (h2 hd).toArray 40 :: blk g17 (YtiafdlofcjbllaaGreatDoor.c3 v).toArray 38 :: blk g9 (cfC (N : Nat) ((q3 : Nat) + 1) B m cB none 0 0).toArray 28 :: own B m cB 97 3 (cs3 ds) :: []) _ := (h7.ent (M := own B5 mm c5 40 2 (hsV hl) :: own B6 mm c6 40 2 (hsV hl) :: EnB E A1 R s' :: DwB M t' :: own Ba na ca 40 2 (hsV all) :: blk g15 (c8o o).toArray 42 :: blk g16 (h2 hd).toArray 40 :: blk g17 (YtiafdlofcjbllaaGreatDoor.c3 v).toArray 38 :: blk g9 (cfC (N : Nat) ((q3 : Nat) + 1) B m cB none 0 0).toArray 28 :: own B m cB 97 3 (cs3 ds) :: []) (by (repeat first | exact Ent.refl _ | refine Ent.step (by repeat first | exact Ent.refl _ | apply Ent.skip) ?_))).drop.drop
                      clear h5 h6 h7
                      go_meet
                      exact ⟨na, ca, Ba, all, s', t', by omega, rfl, HNA, HP', hs⟩
  case rest =>
  clear hs HP HNA hna
  obtain ⟨na, ca, Ba, all, s, t, hna, rfl, HNA, HP, hs⟩ := hcut
  go_upto_region 55 with (fail)
  obtain ⟨sv, HSV⟩ : ∃ z, Hid (stV s.cs hd = z) := ⟨_, rfl⟩
  obtain ⟨A3, n3, c3', L3, hpad, k3, _, hr3⟩ := hs.rot.dwA
  have HSV3 : Hid (stV c3' hd = sv) := by rw [Hid, ← of_pad hr3.raopen.1.fits, hpad, ← HP.out.cs]; exact HSV.out
  clear hpad
  have k4 : World.cell? _ ⟨g16, 0, none⟩ = some (.int .i64 hd.1) := Rd.blk (by rfl) _ hs.drop.drop.drop.drop
  have k5 : World.cell? _ ⟨g16, 1, none⟩ = some (.int .i64 hd.2) := Rd.blk (by rfl) _ hs.drop.drop.drop.drop
  have he := hs.enopen
  obtain ⟨h1, h2x⟩ := hd
  refine wp_region_grow (by kernel_rfl) (by kernel_rfl) fun hne => ?_
  have g3 := fun p : GW _ => p.grew.cell k3
  have g4 := fun p : GW _ => p.grew.cell k4
  have g5 := fun p : GW _ => p.grew.cell k5
  repeat (go_big_quiet_step (first
    | (go_at_call 39; exact in_gsame (en_alloc (hs.grew (GW.grew _))))
    | (go_at_call 40; exact in_gsame (en_reg (hs.grew (GW.grew _))))
    | (go_at_call 41; exact in_grew (state_c (h := (h1, h2x)) (he.grew (GW.grew _)) HSV))
    | (go_at_call 42; exact in_grew (of_r5 (h := (h1, h2x)) (hr3.grew (GW.grew _)) HSV3))))
  refine wpQuiet_nil ?_
  clear hne g3 g4 g5 k3 k4 k5 he hr3
  intro u hu
  replace hs := hs.grew hu
  clear hu
  go_wp2
  unfold EpHN at HN
  exact HN _ _ _ _ _ _ _ hna HNA HP (hs.ent (M := blk g15 (c8o o).toArray 42 :: blk g16 (h2 (h1, h2x)).toArray 40 :: blk g17 (YtiafdlofcjbllaaGreatDoor.c3 v).toArray 38 :: EnB E A1 R s :: DwB M t :: own Ba na ca 40 2 (hsV all) :: blk g9 (cfC (N : Nat) ((q3 : Nat) + 1) B m cB none 0 0).toArray 28 :: [own B m cB 97 3 (cs3 ds)]) (by (repeat first | exact Ent.refl _ | refine Ent.step (by repeat first | exact Ent.refl _ | apply Ent.skip) ?_))).drop.drop.drop
end Go.Proofs.YtiafdlofcjbllaaGreatDoor
