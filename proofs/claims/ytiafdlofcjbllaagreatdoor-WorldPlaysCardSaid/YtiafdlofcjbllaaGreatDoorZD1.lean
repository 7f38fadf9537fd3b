/-
  The document's World (vivariumref15.World), 1: what memory holds; comp, may.
-/
import Derived.Test.YtiafdlofcjbllaaGreatDoorZL
import Derived.Test.YtiafdlofcjbllaaGreatDoorZX
import Derived.Test.YtiafdlofcjbllaaGreatDoorZZ
import Derived.Test.YtiafdlofcjbllaaGreatDoorZG
import Derived.Deep.DeepCutAuto
import Derived.Deep.CutBlock
set_option maxRecDepth 100000
namespace Go.Proofs.YtiafdlofcjbllaaGreatDoor
section
open Go Go.RowKit
def Dls (l:List Cmp):As:=big (l.map fun (y:Cmp)=>DsB y.1 y.2)
def DlsBut (l:List Cmp) (k:Nat):As:=big ((l.map fun (y:Cmp)=>DsB y.1 y.2).eraseIdx k)
section
variable {w0 w:World} {L:List As} {l:List Cmp} {k:Nat} {x:Cmp}
theorem St.dlsOut (hk:l[k]? =some x) (hs:St w0 (Dls l::L) w):St w0 (DsB x.1 x.2::DlsBut l k::L) w:=
 hs.ent (Ent.open2 fun _ h=>big_out (by simp[hk]) h)
theorem St.dlsIn (hk:l[k]? =some x) {s':SlS} (hs:St w0 (DsB x.1 s'::DlsBut l k::L) w):St w0 (Dls (l.set k (x.1,s'))::L) w:=by
 refine hs.ent (Ent.shut2 fun _ h=>?_)
 have h2:=big_in (M:=l.map fun (y:Cmp)=>DsB y.1 y.2) (k:=k) (p:=DsB x.1 s') (by rw[List.length_map];exact (List.getElem?_eq_some_iff.1 hk).1) h
 rwa [show (l.map fun (y:Cmp)=>DsB y.1 y.2).set k (DsB x.1 s')=(l.set k (x.1,s')).map fun (y:Cmp)=>DsB y.1 y.2 by rw[List.map_set]] at h2
theorem Ent.dlsAdd {X:Nat} {s:SlS}:Ent (DsB X s::Dls l::L) (Dls (l++[(X,s)])::L):=by
 have h:∀ (M:List As) (p:As) (h:Hl),star p (big M) h→big (M++[p]) h:=by
  intro M
  induction M with
  | nil=>exact fun p h hb=>hb
  | cons q M ih=>exact fun p h hb=>star_mono (fun _ x=>x) (fun _ x=>ih p _ x) (star_left hb)
 refine Ent.shut2 fun x hx=>?_
 unfold Dls
 rw[List.map_append]
 exact h _ _ _ hx
theorem St.dlsNil (hs:St w0 L w):St w0 (Dls []::L) w:=hs.ent fun _ h=>emp_star h
end
def dwC (A:Nat) (B:Option Addr) (m cB:Nat) (C:Option Addr) (r cC:Nat) (D:Option Addr) (q cD:Nat) (held:Bool):Array Value:=#[.pointer (some ⟨A,0,none⟩), .slice B m cB, .slice C r cC, .slice D q cD, .bool held]
def DwB (M:Nat) (s:WoS):As:=fun h=>∃ (A n:Nat) (c:List ACell) (B:Option Addr) (cB:Nat) (C:Option Addr) (cC:Nat) (D:Option Addr) (cD:Nat),padA n c=s.e.cs∧
 big [blk M (dwC A B s.e.l.length cB C s.r.length cC D s.q.length cD s.held) 59,own B s.e.l.length cB 146 1 (rgP s.e.l),RaB A n s.e.top c,Dls s.e.l,own C s.r.length cC 2 1 (i8v s.r),own D s.q.length cD 99 7 (s.q.flatMap c7w)] h
section
variable {w0 w:World} {L:List As} {M:Nat} {s:WoS}
theorem St.dwopen (hs:St w0 (DwB M s::L) w):∃ (A n:Nat) (c:List ACell) (B:Option Addr) (cB:Nat) (C:Option Addr) (cC:Nat) (D:Option Addr) (cD:Nat),padA n c=s.e.cs∧
  St w0 (YtiafdlofcjbllaaGreatDoor.blk M (dwC A B s.e.l.length cB C s.r.length cC D s.q.length cD s.held) 59::YtiafdlofcjbllaaGreatDoor.own B s.e.l.length cB 146 1 (rgP s.e.l)::RaB A n s.e.top c::Dls s.e.l::YtiafdlofcjbllaaGreatDoor.own C s.r.length cC 2 1 (i8v s.r)::YtiafdlofcjbllaaGreatDoor.own D s.q.length cD 99 7 (s.q.flatMap c7w)::L) w:=by
 obtain⟨hb,x,r,hd,hx,y,z,hyz,e,⟨A,n,c,B,cB,C,cC,D,cD,hp,hh⟩,hz⟩:=hs
 refine⟨A,n,c,B,cB,C,cC,D,cD,hp,?_⟩
 have h1:St w0 (big [YtiafdlofcjbllaaGreatDoor.blk M (dwC A B s.e.l.length cB C s.r.length cC D s.q.length cD s.held) 59,YtiafdlofcjbllaaGreatDoor.own B s.e.l.length cB 146 1 (rgP s.e.l),RaB A n s.e.top c,Dls s.e.l,YtiafdlofcjbllaaGreatDoor.own C s.r.length cC 2 1 (i8v s.r),YtiafdlofcjbllaaGreatDoor.own D s.q.length cD 99 7 (s.q.flatMap c7w)]::L) w:=⟨hb,x,r,hd,hx,y,z,hyz,e,hh,hz⟩
 exact h1.ent (Ent.flat _ L)
theorem St.dwshut {A n m r q:Nat} {c:List ACell} {B:Option Addr} {cB:Nat} {C:Option Addr} {cC:Nat} {D:Option Addr} {cD:Nat} (hp:padA n c=s.e.cs) (hm:s.e.l.length=m) (hr:s.r.length=r) (hq:s.q.length=q)
  (hs:St w0 (YtiafdlofcjbllaaGreatDoor.blk M (dwC A B m cB C r cC D q cD s.held) 59::YtiafdlofcjbllaaGreatDoor.own B m cB 146 1 (rgP s.e.l)::RaB A n s.e.top c::Dls s.e.l::YtiafdlofcjbllaaGreatDoor.own C r cC 2 1 (i8v s.r)::YtiafdlofcjbllaaGreatDoor.own D q cD 99 7 (s.q.flatMap c7w)::L) w):St w0 (DwB M s::L) w:=by
 subst hm;subst hr;subst hq
 exact (hs.ent (Ent.unflat [_,_,_,_,_,_] L)).conv fun _ h=>⟨A,n,c,B,cB,C,cC,D,cD,hp,h⟩
end
theorem St.dwslotL {w0 w:World} {L:List As} {M j X m:Nat} {s:WoS} {t:SlS} (hm:s.e.l.length=m) (hj:s.e.l[j]? =some (X,t)) (hs:St w0 (DwB M s::L) w):∃ (K:Array Value) (gB cB:Nat) (P:List Value) (R:As),K[1]? =some (.slice (some ⟨gB,0,none⟩) m cB)∧j < m∧P[j]? =some (.pointer (some ⟨X,0,none⟩))∧
  St w0 (YtiafdlofcjbllaaGreatDoor.blk M K 59::YtiafdlofcjbllaaGreatDoor.own (some ⟨gB,0,none⟩) m cB 146 1 P::DsB X t::R::L) w∧
  ∀ (t':SlS) (w':World) (L':List As),St w0 (YtiafdlofcjbllaaGreatDoor.blk M K 59::YtiafdlofcjbllaaGreatDoor.own (some ⟨gB,0,none⟩) m cB 146 1 P::DsB X t'::R::L') w'→St w0 (DwB M { s with e:=⟨s.e.top,s.e.cs,s.e.l.set j (X,t')⟩ }::L') w':=by
 subst hm
 obtain⟨A,n,c,B,cB,C,cC,D,cD,hp,hs⟩:=hs.dwopen
 have hl:=(List.getElem?_eq_some_iff.1 hj).1
 obtain⟨gB,rfl⟩:=hs.rot.own_at (by omega)
 refine⟨dwC A (some ⟨gB,0,none⟩) s.e.l.length cB C s.r.length cC D s.q.length cD s.held,gB,cB,rgP s.e.l,big [DlsBut s.e.l j,RaB A n s.e.top c,YtiafdlofcjbllaaGreatDoor.own C s.r.length cC 2 1 (i8v s.r),YtiafdlofcjbllaaGreatDoor.own D s.q.length cD 99 7 (s.q.flatMap c7w)],rfl,hl,rgP_get (x:=(X,t)) hj,?_,fun t' w' L' h=>?_⟩
 ·have h1:=(hs.up3).dlsOut (x:=(X,t)) hj
  have h2:St w0 (DlsBut s.e.l j::RaB A n s.e.top c::YtiafdlofcjbllaaGreatDoor.own C s.r.length cC 2 1 (i8v s.r)::YtiafdlofcjbllaaGreatDoor.own D s.q.length cD 99 7 (s.q.flatMap c7w)::YtiafdlofcjbllaaGreatDoor.blk M (dwC A (some ⟨gB,0,none⟩) s.e.l.length cB C s.r.length cC D s.q.length cD s.held) 59::YtiafdlofcjbllaaGreatDoor.own (some ⟨gB,0,none⟩) s.e.l.length cB 146 1 (rgP s.e.l)::DsB X t::L) w:=h1.pm
  exact (h2.ent (Ent.unflat [_,_,_,_] _)).pm
 ·have h1:=h.up3.ent (Ent.flat _ _)
  have h2:St w0 (DsB X t'::DlsBut s.e.l j::RaB A n s.e.top c::YtiafdlofcjbllaaGreatDoor.own C s.r.length cC 2 1 (i8v s.r)::YtiafdlofcjbllaaGreatDoor.own D s.q.length cD 99 7 (s.q.flatMap c7w)::YtiafdlofcjbllaaGreatDoor.blk M (dwC A (some ⟨gB,0,none⟩) s.e.l.length cB C s.r.length cC D s.q.length cD s.held) 59::YtiafdlofcjbllaaGreatDoor.own (some ⟨gB,0,none⟩) s.e.l.length cB 146 1 (rgP s.e.l)::L') w':=h1.pm
  have h3:=h2.dlsIn (x:=(X,t)) hj
  refine St.dwshut (s:={ s with e:=⟨s.e.top,s.e.cs,s.e.l.set j (X,t')⟩ }) (A:=A) (n:=n) (m:=s.e.l.length) (r:=s.r.length) (q:=s.q.length) (c:=c) (B:=some ⟨gB,0,none⟩) (cB:=cB) (C:=C) (cC:=cC) (D:=D) (cD:=cD) hp (by show (s.e.l.set j _).length=_;rw[List.length_set]) rfl rfl ?_
  show St w0 (_::YtiafdlofcjbllaaGreatDoor.own _ _ _ _ 1 (rgP (s.e.l.set j (X,t')))::_) w'
  rw[show rgP (s.e.l.set j (X,t'))=rgP s.e.l from rgP_set (x:=(X,t)) hj t']
  exact h3.pm
theorem St.dwslot {w0 w:World} {L:List As} {M j X:Nat} {s:WoS} {t:SlS} (hj:s.e.l[j]? =some (X,t)) (hs:St w0 (DwB M s::L) w):∃ (K:Array Value) (gB m cB:Nat) (P:List Value) (R:As),K[1]? =some (.slice (some ⟨gB,0,none⟩) m cB)∧j < m∧P[j]? =some (.pointer (some ⟨X,0,none⟩))∧
  St w0 (YtiafdlofcjbllaaGreatDoor.blk M K 59::YtiafdlofcjbllaaGreatDoor.own (some ⟨gB,0,none⟩) m cB 146 1 P::DsB X t::R::L) w∧
  ∀ (t':SlS) (w':World) (L':List As),St w0 (YtiafdlofcjbllaaGreatDoor.blk M K 59::YtiafdlofcjbllaaGreatDoor.own (some ⟨gB,0,none⟩) m cB 146 1 P::DsB X t'::R::L') w'→St w0 (DwB M { s with e:=⟨s.e.top,s.e.cs,s.e.l.set j (X,t')⟩ }::L') w':=by
 obtain⟨K,gB,cB,P,R,h1,h2,h3,h4,h5⟩:=St.dwslotL rfl hj hs
 exact⟨K,gB,_,cB,P,R,h1,h2,h3,h4,h5⟩
theorem St.dwlen {w0 w:World} {L:List As} {M m:Nat} {s:WoS} (hm:s.e.l.length=m) (hs:St w0 (DwB M s::L) w):∃ B cB,w.cell? ⟨M,1,none⟩=some (.slice B m cB):=by
 subst hm
 obtain⟨A,n,c,B,cB,C,cC,D,cD,hp,hs⟩:=hs.dwopen
 exact⟨B,cB,Rd.blk (by rfl) _ hs⟩
theorem St.dwA {w0 w:World} {L:List As} {M:Nat} {s:WoS} (hs:St w0 (DwB M s::L) w):∃ (A n:Nat) (c:List ACell) (L':List As),padA n c=s.e.cs∧w.cell? ⟨M,0,none⟩=some (.pointer (some ⟨A,0,none⟩))∧w.cell? ⟨M,4,none⟩=some (.bool s.held)∧St w0 (RaB A n s.e.top c::L') w:=by
 obtain⟨A,n,c,B,cB,C,cC,D,cD,hp,hs⟩:=hs.dwopen
 exact⟨A,n,c,_,hp,Rd.blk (by rfl) _ hs,Rd.blk (by rfl) _ hs,hs.up2⟩
theorem WoS.set_same {s:WoS} {j X:Nat} {t:SlS} (hj:s.e.l[j]? =some (X,t)):({ s with e:=⟨s.e.top,s.e.cs,s.e.l.set j (X,t)⟩ }:WoS)=s:=by
 obtain⟨h1,h2⟩:=List.getElem?_eq_some_iff.1 hj
 have e:s.e.l.set j (X,t)=s.e.l:=by rw[← h2,List.set_getElem_self]
 rw[e]
theorem St.dwal {w0 w:World} {L:List As} {M:Nat} {s:WoS} (hs:St w0 (DwB M s::L) w):∃ (K:Array Value) (A n:Nat) (c:List ACell) (R:As),K[0]? =some (.pointer (some ⟨A,0,none⟩))∧K[4]? =some (.bool s.held)∧padA n c=s.e.cs∧
  St w0 (YtiafdlofcjbllaaGreatDoor.blk M K 59::RaB A n s.e.top c::R::L) w∧
  ∀ (c':List ACell) (cs':List ACell) (w':World) (L':List As),padA n c'=cs'→St w0 (YtiafdlofcjbllaaGreatDoor.blk M K 59::RaB A n s.e.top c'::R::L') w'→St w0 (DwB M { s with e:=⟨s.e.top,cs',s.e.l⟩ }::L') w':=by
 obtain⟨A,n,c,B,cB,C,cC,D,cD,hp,hs⟩:=hs.dwopen
 refine⟨dwC A B s.e.l.length cB C s.r.length cC D s.q.length cD s.held,A,n,c,big [YtiafdlofcjbllaaGreatDoor.own B s.e.l.length cB 146 1 (rgP s.e.l),Dls s.e.l,YtiafdlofcjbllaaGreatDoor.own C s.r.length cC 2 1 (i8v s.r),YtiafdlofcjbllaaGreatDoor.own D s.q.length cD 99 7 (s.q.flatMap c7w)],rfl,rfl,hp,?_,fun c' cs' w' L' hp' h=>?_⟩
 ·have h2:St w0 (YtiafdlofcjbllaaGreatDoor.own B s.e.l.length cB 146 1 (rgP s.e.l)::Dls s.e.l::YtiafdlofcjbllaaGreatDoor.own C s.r.length cC 2 1 (i8v s.r)::YtiafdlofcjbllaaGreatDoor.own D s.q.length cD 99 7 (s.q.flatMap c7w)::YtiafdlofcjbllaaGreatDoor.blk M (dwC A B s.e.l.length cB C s.r.length cC D s.q.length cD s.held) 59::RaB A n s.e.top c::L) w:=hs.pm
  exact (h2.ent (Ent.unflat [_,_,_,_] _)).pm
 ·have h1:=h.up2.ent (Ent.flat _ _)
  exact St.dwshut (s:={ s with e:=⟨s.e.top,cs',s.e.l⟩ }) (c:=c') hp' rfl rfl rfl (h1.pm)
def WoS.cmpD (s:WoS) (c:Int):Int:=match s.e.slot c with | some _=>0 | none=>11
def WoS.mayD (s:WoS) (busy:Bool) (h:Hdl) (c:Int):Int:=if s.e.live h=4 then 4 else if busy && s.held then 13 else if s.e.live h ≠ 0 then s.e.live h else s.cmpD c
theorem mayR_live {n:Nat} {c:List ACell} {s:EnS} (hf:c.length≤n) (hp:padA n c=s.cs) (h:Hdl):mayR (stV c h)=s.live h:=by
 rw[← of_pad hf,hp];rfl
section
variable {s:WoS} {h:Hdl} {c:Int} {v:V3} {b:Bool} {e:Int}
theorem WoS.cmpD_some {x:Cmp} (hx:s.e.slot c=some x):s.cmpD c=0:=by unfold WoS.cmpD;rw[hx]
theorem WoS.cmpD_none (hx:s.e.slot c=none):s.cmpD c=11:=by unfold WoS.cmpD;rw[hx]
theorem WoS.cmpD_zero (h0:s.cmpD c=0):∃ x,s.e.slot c=some x:=by
 unfold WoS.cmpD at h0
 split at h0
 ·rename_i x hx;exact⟨x,hx⟩
 ·cases h0
theorem WoS.mayD_zero (h0:s.mayD b h c=0):s.e.live h=0∧(b=true→s.held=false)∧∃ (j:Nat) (x:Cmp),c=(j:Int)∧s.e.l[j]? =some x:=by
 unfold WoS.mayD at h0
 split at h0
 ·cases h0
 ·split at h0
  ·cases h0
  ·rename_i h1 h2
   split at h0
   ·rename_i h3;exact absurd h0 h3
   ·rename_i h3
    obtain⟨x,hx⟩:=WoS.cmpD_zero h0
    obtain⟨j,rfl,hj⟩:=EnS.slot_some hx
    refine⟨by simpa using h3,fun hb=>?_,j,x,rfl,hj⟩
    subst hb
    simpa using h2
theorem WoS.ins_no (h0:s.mayD true h c ≠ 0):s.ins h c v=(V3.z,false,s.mayD true h c,s):=by
 unfold WoS.mayD at h0 ⊢
 by_cases h4:s.e.live h=4
 ·rw[if_pos h4];unfold WoS.ins;rw[WoS.may_live4 h4,if_neg (by decide)]
 ·rw[if_neg h4] at h0 ⊢
  unfold WoS.ins
  rw[WoS.may_not4 h4]
  by_cases hh:s.held=true
  ·rw[WoS.free_held hh];simp[hh]
  ·replace hh:s.held=false:=by simpa using hh
   rw[if_pos (WoS.free_free hh)]
   rw[hh] at h0 ⊢
   simp only[Bool.and_false,Bool.false_eq_true,if_false] at h0 ⊢
   by_cases h5:s.e.live h=0
   ·rw[if_neg (by simpa using h5)] at h0 ⊢
    have hx:s.e.slot c=none:=by
     cases hx:s.e.slot c with
     | none=>rfl
     | some x=>exact absurd (WoS.cmpD_some hx) h0
    rw[EnS.ins_comp h5 hx,WoS.cmpD_none hx]
    exact congrArg (fun z=>(V3.z,false,(11:Int),z)) (WoS.eta_free hh)
   ·rw[if_pos h5,EnS.ins_no h5]
    exact congrArg (fun z=>(V3.z,false,s.e.live h,z)) (WoS.eta_free hh)
theorem WoS.ins_yes (h0:s.mayD true h c=0) {j:Nat} {x:Cmp} (hc:c=(j:Int)) (hx:s.e.l[j]? =some x):s.ins h c v=(x.2.putU h.1 v,x.2.putB h.1 v,x.2.err h.1 v,{ s with e:=⟨s.e.top,s.e.cs,s.e.l.set j (x.1,x.2.put h.1 v)⟩ }):=by
 obtain⟨hl,hh,_⟩:=WoS.mayD_zero h0
 subst hc
 unfold WoS.ins
 rw[WoS.may_not4 (by rw[hl];decide)]
 rw[if_pos (WoS.free_free (hh rfl)),EnS.ins_in hl (x:=x) (by rw[EnS.slot_nat];exact hx)]
 simp only[Int.toNat_natCast]
theorem WoS.rem_no (h0:s.mayD true h c ≠ 0):s.rem h c=(V3.z,s.mayD true h c,s):=by
 unfold WoS.mayD at h0 ⊢
 by_cases h4:s.e.live h=4
 ·rw[if_pos h4];unfold WoS.rem;rw[WoS.may_live4 h4,if_neg (by decide)]
 ·rw[if_neg h4] at h0 ⊢
  unfold WoS.rem
  rw[WoS.may_not4 h4]
  by_cases hh:s.held=true
  ·rw[WoS.free_held hh];simp[hh]
  ·replace hh:s.held=false:=by simpa using hh
   rw[if_pos (WoS.free_free hh)]
   rw[hh] at h0 ⊢
   simp only[Bool.and_false,Bool.false_eq_true,if_false] at h0 ⊢
   by_cases h5:s.e.live h=0
   ·rw[if_neg (by simpa using h5)] at h0 ⊢
    have hx:s.e.slot c=none:=by
     cases hx:s.e.slot c with
     | none=>rfl
     | some x=>exact absurd (WoS.cmpD_some hx) h0
    rw[EnS.rem_no (by rw[EnS.get_comp h5 hx]) (by decide),WoS.cmpD_none hx]
    exact congrArg (fun z=>(V3.z,(11:Int),z)) (WoS.eta_free hh)
   ·rw[if_pos h5,EnS.rem_no (by rw[EnS.get_no h5]) h5]
    exact congrArg (fun z=>(V3.z,s.e.live h,z)) (WoS.eta_free hh)
theorem WoS.rem_yes (h0:s.mayD true h c=0) {j:Nat} {x:Cmp} (hc:c=(j:Int)) (hx:s.e.l[j]? =some x):s.rem h c=if x.2.has h.1 then (x.2.get h.1,0,{ s with e:=⟨s.e.top,s.e.cs,s.e.l.set j (x.1,x.2.take h.1)⟩ }) else (V3.z,10,s):=by
 obtain⟨hl,hh,_⟩:=WoS.mayD_zero h0
 subst hc
 unfold WoS.rem
 rw[WoS.may_not4 (by rw[hl];decide)]
 rw[if_pos (WoS.free_free (hh rfl))]
 unfold EnS.rem
 rw[if_pos hl,EnS.slot_nat,hx]
 simp only[Int.toNat_natCast]
 split <;> rfl
theorem WoS.get_noD (h0:s.mayD false h c ≠ 0):s.get h c=(V3.z,s.mayD false h c):=by
 unfold WoS.mayD at h0 ⊢
 unfold WoS.get
 by_cases h4:s.e.live h=4
 ·rw[if_pos h4,EnS.get_no (by rw[h4];decide),h4]
 ·rw[if_neg h4] at h0 ⊢
  simp only[Bool.false_and,Bool.false_eq_true,if_false] at h0 ⊢
  by_cases h5:s.e.live h=0
  ·rw[if_neg (by simpa using h5)] at h0 ⊢
   have hx:s.e.slot c=none:=by
    cases hx:s.e.slot c with
    | none=>rfl
    | some x=>exact absurd (WoS.cmpD_some hx) h0
   rw[EnS.get_comp h5 hx,WoS.cmpD_none hx]
  ·rw[if_pos h5,EnS.get_no h5]
theorem WoS.get_yes (h0:s.mayD false h c=0) {j:Nat} {x:Cmp} (hc:c=(j:Int)) (hx:s.e.l[j]? =some x):s.get h c=if x.2.has h.1 then (x.2.get h.1,0) else (V3.z,10):=by
 obtain⟨hl,_,_⟩:=WoS.mayD_zero h0
 subst hc
 exact EnS.get_in hl (x:=x) (by rw[EnS.slot_nat];exact hx)
theorem WoS.set_noD (h0:s.mayD false h c ≠ 0):s.set h c v=(s.mayD false h c,s):=by
 unfold WoS.mayD at h0 ⊢
 unfold WoS.set
 by_cases h4:s.e.live h=4
 ·rw[if_pos h4,EnS.set_no (by rw[h4];decide),h4]
 ·rw[if_neg h4] at h0 ⊢
  simp only[Bool.false_and,Bool.false_eq_true,if_false] at h0 ⊢
  by_cases h5:s.e.live h=0
  ·rw[if_neg (by simpa using h5)] at h0 ⊢
   have hx:s.e.slot c=none:=by
    cases hx:s.e.slot c with
    | none=>rfl
    | some x=>exact absurd (WoS.cmpD_some hx) h0
   rw[EnS.set_comp h5 hx,WoS.cmpD_none hx]
  ·rw[if_pos h5,EnS.set_no h5]
theorem WoS.set_yes (h0:s.mayD false h c=0) {j:Nat} {x:Cmp} (hc:c=(j:Int)) (hx:s.e.l[j]? =some x):s.set h c v=(x.2.errSet h.1 v,{ s with e:=⟨s.e.top,s.e.cs,s.e.l.set j (x.1,x.2.set h.1 v)⟩ }):=by
 obtain⟨hl,_,_⟩:=WoS.mayD_zero h0
 subst hc
 unfold WoS.set
 rw[EnS.set_in hl (x:=x) (by rw[EnS.slot_nat];exact hx)]
 simp only[Int.toNat_natCast]
end
attribute [local irreducible] wpList Calls Code.wp stV EnS.live EnS.slot WoS.cmpD WoS.mayD mayR rgP padA
set_option maxHeartbeats 1000000 in
theorem dw_comp {w0 w:World} {L:List As} {M:Nat} {s:WoS} (hs:St w0 (DwB M s::L) w) {c e:Int} (he:Hid (s.cmpD c=e)):
  Calls Tryz.prog 136 #[.pointer (some ⟨M,0,none⟩), .int .i64 c] w fun r w'=>r= .returned (.int .i64 e)∧w=w':=by
 obtain⟨A,n,c',B,cB,C,cC,D,cD,hp,hs⟩:=hs.dwopen
 obtain⟨m,HM⟩:∃ m,Hid (s.e.l.length=m):=⟨_,rfl⟩
 rw[HM.out] at hs
 have k1:=Rd.blk (k:=1) (v:= .slice B m cB) (by rfl) _ hs
 clear hp hs
 by_cases h1:c < 0
 ·obtain rfl:e=11:=by
   rw[← he.out];refine WoS.cmpD_none ?_
   unfold EnS.slot;rw[if_neg (by omega)]
  go_enter Tryz.func136,Tryz.ntmps136
  go_wp2
  go_ret
  exact⟨rfl,rfl⟩
 ·obtain⟨j,rfl⟩:=Int.eq_ofNat_of_zero_le (show 0≤c by omega)
  by_cases h2:j < m
  ·obtain rfl:e=0:=by
    rw[← he.out]
    obtain⟨x,hx⟩:∃ x,s.e.l[j]? =some x:=⟨_,List.getElem?_eq_getElem (by rw[HM.out];exact h2)⟩
    exact WoS.cmpD_some (by rw[EnS.slot_nat];exact hx)
   have h3:¬ (m:Int)≤(j:Int):=by omega
   go_enter Tryz.func136,Tryz.ntmps136
   go_wp2
   go_ret
   exact⟨rfl,rfl⟩
  ·obtain rfl:e=11:=by
    rw[← he.out];refine WoS.cmpD_none ?_
    rw[EnS.slot_nat]
    exact List.getElem?_eq_none (by rw[HM.out];omega)
   have h3:(m:Int)≤(j:Int):=by omega
   go_enter Tryz.func136,Tryz.ntmps136
   go_wp2
   go_ret
   exact⟨rfl,rfl⟩
set_option maxHeartbeats 4000000 in
theorem dw_may {w0 w:World} {L:List As} {M:Nat} {s:WoS} (hs:St w0 (DwB M s::L) w) {busy:Bool} {h:Hdl} {c e:Int} (he:Hid (s.mayD busy h c=e)):
  Calls Tryz.prog 88 #[.pointer (some ⟨M,0,none⟩),hv h, .bool busy, .int .i64 c] w fun r w'=>r= .returned (.int .i64 e)∧Grew w w':=by
 obtain⟨A,n,c',B,cB,C,cC,D,cD,hp,ho⟩:=hs.dwopen
 have hr:=ho.up2
 have hf:=hr.raopen.1.fits
 obtain⟨f,HL⟩:∃ z,Hid (s.e.live h=z):=⟨_,rfl⟩
 have HMR:Hid (mayR (stV c' h)=f):=by rw[Hid,mayR_live hf hp];exact HL.out
 obtain⟨x,HC⟩:∃ z,Hid (s.cmpD c=z):=⟨_,rfl⟩
 obtain⟨held,HH⟩:∃ z,Hid (s.held=z):=⟨_,rfl⟩
 have k0:=Rd.blk (k:=0) (v:= .pointer (some ⟨A,0,none⟩)) (by rfl) _ ho
 have k4:=Rd.blk (k:=4) (v:= .bool s.held) (by rfl) _ ho
 rw[HH.out] at k4
 have h1:=he.out
 unfold WoS.mayD at h1
 rw[HL.out,HC.out,HH.out] at h1
 have hc:=s.e.live_cases h
 rw[HL.out] at hc
 clear he hp hf ho
 obtain⟨i,g⟩:=h
 have hw:=St.start w
 rcases hc with rfl | rfl | rfl
 ·cases busy with
  | true=>
   cases held with
   | true=>
    obtain rfl:e=13:=by rw[← h1];rfl
    clear h1
    go_enter Tryz.func88,Tryz.ntmps88
    go_upto_region 1 with (first
     | (refine wpl_box_v (v:=hv (i,g)) rfl hw ?_;clear hw;intro g5 w1 hw;replace hw:St w [blk g5 (h2 (i,g)).toArray 40] w1:=hw))
    replace hs:=hs.grew hw.made_grew
    replace hr:=hr.grew hw.made_grew
    replace k0:=Grew.cell hw.made_grew k0
    replace k4:=Grew.cell hw.made_grew k4
    have k1:World.cell? _ ⟨g5,0,none⟩=some (.int .i64 i):=Rd.blk (by rfl) _ hw
    have k2:World.cell? _ ⟨g5,1,none⟩=some (.int .i64 g):=Rd.blk (by rfl) _ hw
    refine wp_region_grow (by kernel_rfl) (by kernel_rfl) fun hne=>?_
    have g0:=fun p:GW _=>p.grew.cell k0
    have g1:=fun p:GW _=>p.grew.cell k1
    have g2:=fun p:GW _=>p.grew.cell k2
    repeat (go_big_quiet_step (first
     | (go_at_call 83;exact in_grew (may_v (h:=(i,g)) (hr.grew (GW.grew _)) HMR))))
    refine wpQuiet_nil ?_
    clear hne g0 g1 g2 k0 k1 k2
    intro u hu
    replace hw:=hw.grew hu
    replace k4:=Grew.cell hu k4
    replace hs:=hs.grew hu
    clear hu hr
    (go_wp2_with (first
     | (go_at_call 136;refine (dw_comp hs HC).mono ?_;rintro r w' ⟨rfl,rfl⟩)))
    go_ret
    exact⟨rfl,hw.made_grew⟩
   | false=>
    obtain rfl:e=x:=by rw[← h1];rfl
    clear h1
    go_enter Tryz.func88,Tryz.ntmps88
    go_upto_region 1 with (first
     | (refine wpl_box_v (v:=hv (i,g)) rfl hw ?_;clear hw;intro g5 w1 hw;replace hw:St w [blk g5 (h2 (i,g)).toArray 40] w1:=hw))
    replace hs:=hs.grew hw.made_grew
    replace hr:=hr.grew hw.made_grew
    replace k0:=Grew.cell hw.made_grew k0
    replace k4:=Grew.cell hw.made_grew k4
    have k1:World.cell? _ ⟨g5,0,none⟩=some (.int .i64 i):=Rd.blk (by rfl) _ hw
    have k2:World.cell? _ ⟨g5,1,none⟩=some (.int .i64 g):=Rd.blk (by rfl) _ hw
    refine wp_region_grow (by kernel_rfl) (by kernel_rfl) fun hne=>?_
    have g0:=fun p:GW _=>p.grew.cell k0
    have g1:=fun p:GW _=>p.grew.cell k1
    have g2:=fun p:GW _=>p.grew.cell k2
    repeat (go_big_quiet_step (first
     | (go_at_call 83;exact in_grew (may_v (h:=(i,g)) (hr.grew (GW.grew _)) HMR))))
    refine wpQuiet_nil ?_
    clear hne g0 g1 g2 k0 k1 k2
    intro u hu
    replace hw:=hw.grew hu
    replace k4:=Grew.cell hu k4
    replace hs:=hs.grew hu
    clear hu hr
    (go_wp2_with (first
     | (go_at_call 136;refine (dw_comp hs HC).mono ?_;rintro r w' ⟨rfl,rfl⟩)))
    go_ret
    exact⟨rfl,hw.made_grew⟩
  | false=>
   obtain rfl:e=x:=by rw[← h1];rfl
   clear h1
   go_enter Tryz.func88,Tryz.ntmps88
   go_upto_region 1 with (first
    | (refine wpl_box_v (v:=hv (i,g)) rfl hw ?_;clear hw;intro g5 w1 hw;replace hw:St w [blk g5 (h2 (i,g)).toArray 40] w1:=hw))
   replace hs:=hs.grew hw.made_grew
   replace hr:=hr.grew hw.made_grew
   replace k0:=Grew.cell hw.made_grew k0
   replace k4:=Grew.cell hw.made_grew k4
   have k1:World.cell? _ ⟨g5,0,none⟩=some (.int .i64 i):=Rd.blk (by rfl) _ hw
   have k2:World.cell? _ ⟨g5,1,none⟩=some (.int .i64 g):=Rd.blk (by rfl) _ hw
   refine wp_region_grow (by kernel_rfl) (by kernel_rfl) fun hne=>?_
   have g0:=fun p:GW _=>p.grew.cell k0
   have g1:=fun p:GW _=>p.grew.cell k1
   have g2:=fun p:GW _=>p.grew.cell k2
   repeat (go_big_quiet_step (first
    | (go_at_call 83;exact in_grew (may_v (h:=(i,g)) (hr.grew (GW.grew _)) HMR))))
   refine wpQuiet_nil ?_
   clear hne g0 g1 g2 k0 k1 k2
   intro u hu
   replace hw:=hw.grew hu
   replace k4:=Grew.cell hu k4
   replace hs:=hs.grew hu
   clear hu hr
   (go_wp2_with (first
    | (go_at_call 136;refine (dw_comp hs HC).mono ?_;rintro r w' ⟨rfl,rfl⟩)))
   go_ret
   exact⟨rfl,hw.made_grew⟩
 ·obtain rfl:e=4:=by rw[← h1];rfl
  clear h1
  go_enter Tryz.func88,Tryz.ntmps88
  go_upto_region 1 with (first
   | (refine wpl_box_v (v:=hv (i,g)) rfl hw ?_;clear hw;intro g5 w1 hw;replace hw:St w [blk g5 (h2 (i,g)).toArray 40] w1:=hw))
  replace hs:=hs.grew hw.made_grew
  replace hr:=hr.grew hw.made_grew
  replace k0:=Grew.cell hw.made_grew k0
  replace k4:=Grew.cell hw.made_grew k4
  have k1:World.cell? _ ⟨g5,0,none⟩=some (.int .i64 i):=Rd.blk (by rfl) _ hw
  have k2:World.cell? _ ⟨g5,1,none⟩=some (.int .i64 g):=Rd.blk (by rfl) _ hw
  refine wp_region_grow (by kernel_rfl) (by kernel_rfl) fun hne=>?_
  have g0:=fun p:GW _=>p.grew.cell k0
  have g1:=fun p:GW _=>p.grew.cell k1
  have g2:=fun p:GW _=>p.grew.cell k2
  repeat (go_big_quiet_step (first
   | (go_at_call 83;exact in_grew (may_v (h:=(i,g)) (hr.grew (GW.grew _)) HMR))))
  refine wpQuiet_nil ?_
  clear hne g0 g1 g2 k0 k1 k2
  intro u hu
  replace hw:=hw.grew hu
  replace k4:=Grew.cell hu k4
  replace hs:=hs.grew hu
  clear hu hr
  (go_wp2_with (first
   | (go_at_call 136;refine (dw_comp hs HC).mono ?_;rintro r w' ⟨rfl,rfl⟩)))
  go_ret
  exact⟨rfl,hw.made_grew⟩
 ·cases busy with
  | true=>
   cases held with
   | true=>
    obtain rfl:e=13:=by rw[← h1];rfl
    clear h1
    go_enter Tryz.func88,Tryz.ntmps88
    go_upto_region 1 with (first
     | (refine wpl_box_v (v:=hv (i,g)) rfl hw ?_;clear hw;intro g5 w1 hw;replace hw:St w [blk g5 (h2 (i,g)).toArray 40] w1:=hw))
    replace hs:=hs.grew hw.made_grew
    replace hr:=hr.grew hw.made_grew
    replace k0:=Grew.cell hw.made_grew k0
    replace k4:=Grew.cell hw.made_grew k4
    have k1:World.cell? _ ⟨g5,0,none⟩=some (.int .i64 i):=Rd.blk (by rfl) _ hw
    have k2:World.cell? _ ⟨g5,1,none⟩=some (.int .i64 g):=Rd.blk (by rfl) _ hw
    refine wp_region_grow (by kernel_rfl) (by kernel_rfl) fun hne=>?_
    have g0:=fun p:GW _=>p.grew.cell k0
    have g1:=fun p:GW _=>p.grew.cell k1
    have g2:=fun p:GW _=>p.grew.cell k2
    repeat (go_big_quiet_step (first
     | (go_at_call 83;exact in_grew (may_v (h:=(i,g)) (hr.grew (GW.grew _)) HMR))))
    refine wpQuiet_nil ?_
    clear hne g0 g1 g2 k0 k1 k2
    intro u hu
    replace hw:=hw.grew hu
    replace k4:=Grew.cell hu k4
    replace hs:=hs.grew hu
    clear hu hr
    (go_wp2_with (first
     | (go_at_call 136;refine (dw_comp hs HC).mono ?_;rintro r w' ⟨rfl,rfl⟩)))
    go_ret
    exact⟨rfl,hw.made_grew⟩
   | false=>
    obtain rfl:e=5:=by rw[← h1];rfl
    clear h1
    go_enter Tryz.func88,Tryz.ntmps88
    go_upto_region 1 with (first
     | (refine wpl_box_v (v:=hv (i,g)) rfl hw ?_;clear hw;intro g5 w1 hw;replace hw:St w [blk g5 (h2 (i,g)).toArray 40] w1:=hw))
    replace hs:=hs.grew hw.made_grew
    replace hr:=hr.grew hw.made_grew
    replace k0:=Grew.cell hw.made_grew k0
    replace k4:=Grew.cell hw.made_grew k4
    have k1:World.cell? _ ⟨g5,0,none⟩=some (.int .i64 i):=Rd.blk (by rfl) _ hw
    have k2:World.cell? _ ⟨g5,1,none⟩=some (.int .i64 g):=Rd.blk (by rfl) _ hw
    refine wp_region_grow (by kernel_rfl) (by kernel_rfl) fun hne=>?_
    have g0:=fun p:GW _=>p.grew.cell k0
    have g1:=fun p:GW _=>p.grew.cell k1
    have g2:=fun p:GW _=>p.grew.cell k2
    repeat (go_big_quiet_step (first
     | (go_at_call 83;exact in_grew (may_v (h:=(i,g)) (hr.grew (GW.grew _)) HMR))))
    refine wpQuiet_nil ?_
    clear hne g0 g1 g2 k0 k1 k2
    intro u hu
    replace hw:=hw.grew hu
    replace k4:=Grew.cell hu k4
    replace hs:=hs.grew hu
    clear hu hr
    (go_wp2_with (first
     | (go_at_call 136;refine (dw_comp hs HC).mono ?_;rintro r w' ⟨rfl,rfl⟩)))
    go_ret
    exact⟨rfl,hw.made_grew⟩
  | false=>
   obtain rfl:e=5:=by rw[← h1];rfl
   clear h1
   go_enter Tryz.func88,Tryz.ntmps88
   go_upto_region 1 with (first
    | (refine wpl_box_v (v:=hv (i,g)) rfl hw ?_;clear hw;intro g5 w1 hw;replace hw:St w [blk g5 (h2 (i,g)).toArray 40] w1:=hw))
   replace hs:=hs.grew hw.made_grew
   replace hr:=hr.grew hw.made_grew
   replace k0:=Grew.cell hw.made_grew k0
   replace k4:=Grew.cell hw.made_grew k4
   have k1:World.cell? _ ⟨g5,0,none⟩=some (.int .i64 i):=Rd.blk (by rfl) _ hw
   have k2:World.cell? _ ⟨g5,1,none⟩=some (.int .i64 g):=Rd.blk (by rfl) _ hw
   refine wp_region_grow (by kernel_rfl) (by kernel_rfl) fun hne=>?_
   have g0:=fun p:GW _=>p.grew.cell k0
   have g1:=fun p:GW _=>p.grew.cell k1
   have g2:=fun p:GW _=>p.grew.cell k2
   repeat (go_big_quiet_step (first
    | (go_at_call 83;exact in_grew (may_v (h:=(i,g)) (hr.grew (GW.grew _)) HMR))))
   refine wpQuiet_nil ?_
   clear hne g0 g1 g2 k0 k1 k2
   intro u hu
   replace hw:=hw.grew hu
   replace k4:=Grew.cell hu k4
   replace hs:=hs.grew hu
   clear hu hr
   (go_wp2_with (first
    | (go_at_call 136;refine (dw_comp hs HC).mono ?_;rintro r w' ⟨rfl,rfl⟩)))
   go_ret
   exact⟨rfl,hw.made_grew⟩
end
end Go.Proofs.YtiafdlofcjbllaaGreatDoor
