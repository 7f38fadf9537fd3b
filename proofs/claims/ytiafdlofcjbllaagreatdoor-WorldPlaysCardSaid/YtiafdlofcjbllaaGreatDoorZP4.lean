/-
  WorldPlays: what the statements' do wants.
-/
import Derived.Test.YtiafdlofcjbllaaGreatDoorZP3
import Derived.Test.YtiafdlofcjbllaaGreatDoorZG
import Derived.Test.YtiafdlofcjbllaaGreatDoorZW7
import Derived.Test.YtiafdlofcjbllaaGreatDoorZW4
import Derived.Test.YtiafdlofcjbllaaGreatDoorZW5
import Derived.Test.YtiafdlofcjbllaaGreatDoorZW8
import Derived.Test.YtiafdlofcjbllaaGreatDoorZD6
import Derived.Deep.DeepCutAuto
import Derived.Deep.CutRange
import Derived.Deep.CutBlock
set_option maxRecDepth 100000
namespace Go.Proofs.YtiafdlofcjbllaaGreatDoor
section
open Go Go.RowKit
theorem elemHp:ElemOk Tryz.prog 36 40 2 16:=ElemOk.of Tryz.underlying36 (z:=hv (0,0)) (by kernel_rfl) rfl (by decide)
theorem size_sh:(Tryz.prog.info? 36).map (·.size)=some 1:=by kernel_rfl
theorem Wr.sl1 {w0:World} {g:Nat} {u v:Value} {t:TypeId} {L:List As}:Wr w0 (YtiafdlofcjbllaaGreatDoor.blk g #[u] t::L) ⟨g,0,none⟩ v (YtiafdlofcjbllaaGreatDoor.blk g #[v] t::L):=Wr.blk (by simp)
theorem Wr.dw4 {w0:World} {L:List As} {M A:Nat} {B:Option Addr} {m cB:Nat} {C:Option Addr} {r cC:Nat} {D:Option Addr} {q cD:Nat} {held b:Bool} {t:TypeId}:Wr w0 (YtiafdlofcjbllaaGreatDoor.blk M (dwC A B m cB C r cC D q cD held) t::L) ⟨M,4,none⟩ (.bool b) (YtiafdlofcjbllaaGreatDoor.blk M (dwC A B m cB C r cC D q cD b) t::L):=Wr.blk (by simp[dwC])
theorem newE_len {b:Nat} {evs:List Ev} {p:Nat}:(newE b evs p).length≤evs.length:=by
 unfold newE
 split
 ·exact Nat.zero_le _
 ·rw[List.length_drop];omega
theorem WoS.read_len {s:WoS} {c r:Int} {K:Nat} (h:EvL K s.e.l):(s.read c r).1.length≤K:=by
 unfold WoS.read
 split
 ·exact Nat.zero_le _
 ·rename_i y hy
  split
  ·split
   ·exact Nat.zero_le _
   ·exact Nat.le_trans newE_len (h _ (EnS.slot_mem hy))
  ·exact Nat.zero_le _
theorem wo_defer_v {w0 w:World} {L:List As} {W E A R X Q n m:Nat} {s:WoS} {l:List OpW} {D:Option Addr} {cap:Nat} (hq:s.q.length≤10000) (hm:Hid (l.length=m)) (hl:m≤1000000) (hs:St w0 (WoB W E A R X Q n s::L) w) (hr:RdS w0 L D (l.flatMap c7w)) {x:Int} {s':WoS} (HV:Hid (s.defer l=(x,s'))):
  Calls Tryz.prog 53 #[.pointer (some ⟨W,0,none⟩), .slice D m cap] w fun r w'=>r= .returned (.int .i64 x)∧St w0 (WoB W E A R X Q n s'::L) w':=by
 rw[← hm.out]
 exact wo_defer hq (by rw[hm.out];exact hl) hs hr HV
def DoP (w0:World) (L:List As) (W E A R X Q n M AP m k:Nat) (r:Ending) (w':World):Prop:=
 r= .returned (.bool true)∧∃ (na ca:Nat) (Ba:Option Addr) (all:List Hdl) (s t:WoS),na≤k+1∧Hid (all.length=na)∧Hid (WpI s t m (k+1))∧St w0 (WoB W E A R X Q n s::DwB M t::blk AP #[.slice Ba na ca] 36::own Ba na ca 40 2 (hsV all)::L) w'
noncomputable def bodyDo:Code:=(Tryz.f69.body).getD .skip
noncomputable def frDo (W M AP:Nat) (o:OpV) (g7 g9 g10:Nat) (v:V3) (u52 u53 u54 u55 u56 u57 u58 u59:Value):Act:=⟨#[.pointer (some ⟨W,0,none⟩), .pointer (some ⟨M,0,none⟩), .pointer (some ⟨AP,0,none⟩), .agg (c9o o).toArray,undef,undef,undef, .pointer (some ⟨g7,0,none⟩), .bool false, .pointer (some ⟨g9,0,none⟩), .pointer (some ⟨g10,0,none⟩),undef,undef,undef,undef,undef,undef,undef,undef,undef,undef,undef,undef,undef,undef,undef,undef,undef,undef,undef,undef,undef,undef,undef,undef,undef,undef,undef,undef,undef,undef,undef,undef,undef,undef,undef,undef,undef,undef,undef,undef,undef,u52,u53,u54,u55,u56,u57,u58,u59, .pointer (some ⟨M,0,none⟩), .pointer (some ⟨g7,2,none⟩), .int .i64 o.c, .pointer (some ⟨g7,4,none⟩), .agg (YtiafdlofcjbllaaGreatDoor.c3 o.v).toArray,val3 v,undef,undef,undef,undef,undef,undef,undef,undef,undef,undef,undef,undef,undef,undef,undef,undef,undef,undef,undef,undef,undef,undef,undef,undef,undef,undef,undef,undef,undef,undef,undef,undef,undef,undef,undef,undef,undef,undef,undef,undef,undef,undef,undef,undef,undef,undef,undef,undef,undef,undef,undef,undef,undef,undef,undef,undef,undef,undef,undef,undef,undef,undef,undef,undef,undef,undef,undef,undef,undef,undef,undef,undef,undef,undef,undef,undef,undef,undef,undef,undef,undef,undef,undef,undef,undef,undef,undef,undef,undef,undef,undef,undef,undef,undef,undef,undef,undef,undef,undef,undef,undef,undef,undef,undef,undef,undef,undef,undef,undef,undef,undef,undef,undef,undef,undef,undef,undef,undef,undef,undef,undef,undef,undef,undef,undef,undef,undef,undef,undef,undef,undef,undef,undef,undef,undef,undef,undef,undef,undef,undef,undef,undef,undef,undef,undef,undef,undef,undef,undef,undef,undef,undef,undef,undef,undef,undef,undef,undef,undef,undef,undef,undef,undef,undef,undef,undef,undef,undef,undef,undef,undef,undef,undef,undef,undef,undef,undef,undef,undef,undef,undef,undef,undef,undef,undef,undef,undef,undef,undef,undef,undef,undef,undef,undef,undef,undef,undef,undef,undef,undef,undef,undef,undef,undef,undef,undef,undef,undef,undef,undef,undef,undef,undef,undef,undef,undef,undef,undef,undef,undef,undef,undef,undef,undef,undef,undef,undef,undef,undef,undef,undef,undef,undef,undef,undef,undef,undef,undef,undef,undef,undef,undef,undef,undef,undef,undef,undef,undef,undef,undef,undef,undef,undef,undef,undef,undef,undef,undef,undef,undef,undef,undef,undef,undef,undef,undef,undef,undef,undef,undef,undef,undef,undef,undef,undef,undef,undef,undef,undef,undef,undef,undef,undef,undef,undef,undef,undef,undef,undef,undef,undef,undef,undef,undef,undef,undef,undef,undef,undef,undef],[]⟩
def DoArm (w0 w:World) (L:List As) (W E A R X Q n M AP m k na ca:Nat) (Ba:Option Addr) (all:List Hdl) (s t:WoS) (o:OpV) (g7 g9 g10:Nat) (hd:Hdl) (v:V3) (u52 u53 u54 u55 u56 u57 u58 u59:Value):Prop:=
 Tab w0→k < 100→m≤8→Hid (WpI s t m k)→na≤k→Hid (all.length=na)→St w0 (blk g7 (c9o o).toArray 138::blk g9 (h2 hd).toArray 40::blk g10 (YtiafdlofcjbllaaGreatDoor.c3 v).toArray 38::WoB W E A R X Q n s::DwB M t::blk AP #[.slice Ba na ca] 36::own Ba na ca 40 2 (hsV all)::L) w→∀ K K1:Act→World→Prop,(∀ a w,Code.wp Tryz.prog (.seq (hdAt 52 bodyDo) (tlAt 52 bodyDo)) (bodyPost Tryz.prog Tryz.f69 (DoP w0 L W E A R X Q n M AP m k)) a w→K1 a w)→(∀ a w,Code.wp Tryz.prog (tlAt 3 bodyDo) (Exit.then K1 (bodyPost Tryz.prog Tryz.f69 (DoP w0 L W E A R X Q n M AP m k))) a w→K a w)→Code.wp Tryz.prog (hdAt 3 bodyDo) (Exit.then K (Exit.then K1 (bodyPost Tryz.prog Tryz.f69 (DoP w0 L W E A R X Q n M AP m k)))) (frDo W M AP o g7 g9 g10 v u52 u53 u54 u55 u56 u57 u58 u59) w
theorem c9o_v {o:OpV} {j:Nat} {x:Value} (h:(YtiafdlofcjbllaaGreatDoor.c3 o.v)[j]? =some x):(c9o o).toArray[4+j]? =some x:=by
 rw[List.getElem?_toArray]
 match j,h with
 | 0,h=>exact h
 | 1,h=>exact h
 | 2,h=>exact h
 | k+3,h=>simp[YtiafdlofcjbllaaGreatDoor.c3] at h
end
end Go.Proofs.YtiafdlofcjbllaaGreatDoor
