/-
  The document's World (vivariumref15.World), 7: apply.
-/
import Derived.Test.YtiafdlofcjbllaaGreatDoorZD5
import Derived.Test.YtiafdlofcjbllaaGreatDoorZD2
import Derived.Test.YtiafdlofcjbllaaGreatDoorZD3
import Derived.Test.YtiafdlofcjbllaaGreatDoorZW4
import Derived.Deep.CutRange
set_option maxRecDepth 100000
namespace Go.Proofs.YtiafdlofcjbllaaGreatDoor
section
open Go Go.RowKit
attribute [local irreducible] wpList Calls Code.wp okI okN pS tS memS getG pG insS delS getV pV tV okVal newSl SlS.put SlS.err SlS.putU SlS.putB descE SlS.take SlS.set SlS.errSet SlS.get SlS.has stV EnS.live EnS.get EnS.ins EnS.set EnS.rem EnS.parts EnS.del ofN strL delA newA giveV newE lagE WoS.apply WoS.del WoS.ins WoS.rem
set_option maxHeartbeats 4000000 in
theorem dw_apply {w0 w:World} {L:List As} {M:Nat} {s:WoS} (hs:St w0 (DwB M s::L) w) (hev:∀ x∈s.e.l,x.2.evs.length≤4000000000) (hl9:s.e.l.length≤1000) (hh:s.held=false) (o:OpW) {a:Bool} {s':WoS} (HV:Hid (s.apply o=(a,s'))):
  Calls Tryz.prog 154 #[.pointer (some ⟨M,0,none⟩),valW o] w fun r w'=>r= .returned (.bool a)∧St w0 (DwB M s'::L) w':=by
 obtain⟨k,⟨i,g⟩,c,v⟩:=o
 have HEV:=Lib.hid hev
 have HL9:=Lib.hid hl9
 clear hev hl9
 by_cases h1:k=1
 ·have d1:(k==1)=true:=by simp[h1]
  obtain⟨⟨m2,x2,e2⟩,HI⟩:∃ z,Hid (s.e.del (i,g)=z):=⟨_,rfl⟩
  have h3:=HV.out
  rw[WoS.apply_del (show (⟨k,(i,g),c,v⟩:OpW).k=1 from h1) HI.out] at h3
  cases h3
  have HD:Hid (s.del (i,g)=(m2,x2,{ s with e:=e2 })):=by rw[Hid,WoS.del_f hh,HI.out]
  clear HV h1 hh
  go_enter Tryz.func154,Tryz.ntmps154
  go_upto_region 2 with (first
   | (refine wpl_box_v (v:=valW ⟨k,(i,g),c,v⟩) rfl hs ?_;clear hs;intro g3 w hs;replace hs:St w0 (blk g3 (c7w ⟨k,(i,g),c,v⟩).toArray 99::_) w:=hs))
  have c0:World.cell? _ ⟨g3,0,none⟩=some (.int .i64 k):=Rd.blk (by rfl) _ hs
  have c1:World.cell? _ ⟨g3,1,none⟩=some (.int .i64 i):=Rd.blk (by rfl) _ hs
  have c2:World.cell? _ ⟨g3,2,none⟩=some (.int .i64 g):=Rd.blk (by rfl) _ hs
  have c3':World.cell? _ ⟨g3,3,none⟩=some (.int .i64 c):=Rd.blk (by rfl) _ hs
  have c4:World.cell? _ ⟨g3,4,none⟩=some (.int .i64 v.k):=Rd.blk (by rfl) _ hs
  have c5:World.cell? _ ⟨g3,5,none⟩=some (.int .i64 v.a):=Rd.blk (by rfl) _ hs
  have c6:World.cell? _ ⟨g3,6,none⟩=some (.int .i64 v.b):=Rd.blk (by rfl) _ hs
  (go_wp2_with (first
   | (go_at_call 24;refine (dw_del (h:=(i,g)) hs.rot HEV.out HL9.out HD).mono ?_;clear hs c0 c1 c2 c3' c4 c5 c6;rintro r w ⟨rfl,hs⟩)))
  go_ret
  exact⟨rfl,hs.rot.drop⟩
 ·have d1:(k==1)=false:=by simp[h1]
  by_cases h2:k=2
  ·have d2:(k==2)=true:=by simp[h2]
   obtain⟨⟨u2,b2,x2,e2⟩,HI⟩:∃ z,Hid (s.e.ins (i,g) c v=z):=⟨_,rfl⟩
   have h3:=HV.out
   rw[WoS.apply_ins (show (⟨k,(i,g),c,v⟩:OpW).k=2 from h2) HI.out] at h3
   cases h3
   have HD:Hid (s.ins (i,g) c v=(u2,b2,x2,{ s with e:=e2 })):=by rw[Hid,WoS.ins_f hh,HI.out]
   clear HV h1 h2 hh
   go_enter Tryz.func154,Tryz.ntmps154
   go_upto_region 2 with (first
    | (refine wpl_box_v (v:=valW ⟨k,(i,g),c,v⟩) rfl hs ?_;clear hs;intro g3 w hs;replace hs:St w0 (blk g3 (c7w ⟨k,(i,g),c,v⟩).toArray 99::_) w:=hs))
   have c0:World.cell? _ ⟨g3,0,none⟩=some (.int .i64 k):=Rd.blk (by rfl) _ hs
   have c1:World.cell? _ ⟨g3,1,none⟩=some (.int .i64 i):=Rd.blk (by rfl) _ hs
   have c2:World.cell? _ ⟨g3,2,none⟩=some (.int .i64 g):=Rd.blk (by rfl) _ hs
   have c3':World.cell? _ ⟨g3,3,none⟩=some (.int .i64 c):=Rd.blk (by rfl) _ hs
   have c4:World.cell? _ ⟨g3,4,none⟩=some (.int .i64 v.k):=Rd.blk (by rfl) _ hs
   have c5:World.cell? _ ⟨g3,5,none⟩=some (.int .i64 v.a):=Rd.blk (by rfl) _ hs
   have c6:World.cell? _ ⟨g3,6,none⟩=some (.int .i64 v.b):=Rd.blk (by rfl) _ hs
   (go_wp2_with (first
    | (go_at_call 26;refine (dw_ins (h:=(i,g)) hs.rot HEV.out HD).mono ?_;clear hs c0 c1 c2 c3' c4 c5 c6;rintro r w ⟨rfl,hs⟩)))
   go_ret
   exact⟨rfl,hs.rot.drop⟩
  ·have d2:(k==2)=false:=by simp[h2]
   obtain⟨⟨u2,x2,e2⟩,HI⟩:∃ z,Hid (s.e.rem (i,g) c=z):=⟨_,rfl⟩
   have h3:=HV.out
   rw[WoS.apply_rem (show (⟨k,(i,g),c,v⟩:OpW).k ≠ 1 from h1) h2 HI.out] at h3
   cases h3
   have HD:Hid (s.rem (i,g) c=(u2,x2,{ s with e:=e2 })):=by rw[Hid,WoS.rem_f hh,HI.out]
   clear HV h1 h2 hh
   go_enter Tryz.func154,Tryz.ntmps154
   go_upto_region 2 with (first
    | (refine wpl_box_v (v:=valW ⟨k,(i,g),c,v⟩) rfl hs ?_;clear hs;intro g3 w hs;replace hs:St w0 (blk g3 (c7w ⟨k,(i,g),c,v⟩).toArray 99::_) w:=hs))
   have c0:World.cell? _ ⟨g3,0,none⟩=some (.int .i64 k):=Rd.blk (by rfl) _ hs
   have c1:World.cell? _ ⟨g3,1,none⟩=some (.int .i64 i):=Rd.blk (by rfl) _ hs
   have c2:World.cell? _ ⟨g3,2,none⟩=some (.int .i64 g):=Rd.blk (by rfl) _ hs
   have c3':World.cell? _ ⟨g3,3,none⟩=some (.int .i64 c):=Rd.blk (by rfl) _ hs
   have c4:World.cell? _ ⟨g3,4,none⟩=some (.int .i64 v.k):=Rd.blk (by rfl) _ hs
   have c5:World.cell? _ ⟨g3,5,none⟩=some (.int .i64 v.a):=Rd.blk (by rfl) _ hs
   have c6:World.cell? _ ⟨g3,6,none⟩=some (.int .i64 v.b):=Rd.blk (by rfl) _ hs
   (go_wp2_with (first
    | (go_at_call 28;refine (dw_rem (h:=(i,g)) hs.rot HEV.out HD).mono ?_;clear hs c0 c1 c2 c3' c4 c5 c6;rintro r w ⟨rfl,hs⟩)))
   go_ret
   exact⟨rfl,hs.rot.drop⟩
end
section
open Go Go.RowKit
section
variable {s:WoS}
theorem WoS.apply_held (o:OpW):(s.apply o).2.held=s.held:=by
 unfold WoS.apply
 split
 ·rfl
 ·split <;> rfl
theorem WoS.apply_len (o:OpW):(s.apply o).2.e.l.length=s.e.l.length:=by
 unfold WoS.apply
 split
 ·show (s.e.del o.h).2.2.l.length=_
  unfold EnS.del
  split
  ·exact strL_len _ _
  ·rfl
 ·split
  ·show (s.e.ins o.h o.c o.v).2.2.2.l.length=_
   unfold EnS.ins
   split
   ·split
    ·simp
    ·rfl
   ·rfl
  ·show (s.e.rem o.h o.c).2.2.l.length=_
   unfold EnS.rem
   split
   ·split
    ·split
     ·simp
     ·rfl
    ·rfl
   ·rfl
end
theorem size_qs:(Tryz.prog.info? 57).map (·.size)=some 1:=by kernel_rfl
theorem Wr.dw3 {w0:World} {L:List As} {M A:Nat} {B:Option Addr} {m cB:Nat} {C:Option Addr} {r cC:Nat} {D:Option Addr} {q cD:Nat} {held:Bool} {t:TypeId}:Wr w0 (YtiafdlofcjbllaaGreatDoor.blk M (dwC A B m cB C r cC D q cD held) t::L) ⟨M,3,none⟩ (.slice none 0 0) (YtiafdlofcjbllaaGreatDoor.blk M (dwC A B m cB C r cC none 0 0 held) t::L):=Wr.blk (by simp[dwC])
attribute [local irreducible] wpList Calls Code.wp okI okN pS tS memS getG pG insS delS getV pV tV okVal newSl SlS.put SlS.err SlS.putU SlS.putB descE SlS.take SlS.set SlS.errSet SlS.get SlS.has stV EnS.live EnS.get EnS.ins EnS.set EnS.rem EnS.parts EnS.del ofN strL delA newA giveV newE lagE WoS.apply WoS.del WoS.ins WoS.rem mergeA idxS padA WoS.run
set_option maxHeartbeats 4000000 in
theorem dw_maint {w0 w:World} {L:List As} {M:Nat} {s:WoS} (hs:St w0 (DwB M s::L) w) {K:Nat} (hev:EvL K s.e.l) (hK:K≤1000000000) (hq:s.q.length≤10000) (hl9:s.e.l.length≤1000) {u:V3} {x:Int} {s':WoS} (HV:Hid (s.maint=(u,x,s'))):
  Calls Tryz.prog 119 #[.pointer (some ⟨M,0,none⟩)] w fun r w'=>r= .returned (.tuple #[val3 u, .int .i64 x])∧St w0 (DwB M s'::L) w':=by
 obtain⟨held,HH⟩:∃ z,Hid (s.held=z):=⟨_,rfl⟩
 have h1:=HV.out
 clear HV
 cases held with
 | true=>
  rw[WoS.maint_bad (by rw[WoS.free_13 HH.out];decide),WoS.free_13 HH.out] at h1
  cases h1
  clear hev hq hl9
  obtain⟨A,n,c,B,cB,C,cC,D,cD,hp,ho⟩:=hs.dwopen
  clear hp ho
  go_enter Tryz.func119,Tryz.ntmps119
  go_upto_region 1 with (first
   | (refine wpl_alloc zeroRp hs ?_;clear hs;intro g2 w hs;replace hs:St w0 (blk g2 (YtiafdlofcjbllaaGreatDoor.c3 V3.z).toArray 102::_) w:=hs))
  have k4:World.cell? w ⟨M,4,none⟩=some (.bool s.held):=by
   obtain⟨A,n,c,B,cB,C,cC,D,cD,hp,ho⟩:=hs.rot.dwopen
   exact Rd.blk (by rfl) _ ho
  rw[HH.out] at k4
  (go_wp2_with (first
   | (refine wpl_buildS build_r0 rfl ?_)
   | (refine wpl_store_agg (v:=val3 V3.z) rfl rfl (sizeRp _) hs WrA.slot3 ?_;clear hs k4;intro w hs)))
  refine bodyPost_at (results_cell_tmp Tryz.results119 rfl (hs.slot_run aggRp (sizeRp _))) rfl ?_
  exact⟨rfl,hs.drop⟩
 | false=>
  obtain⟨⟨a2,b2,t2⟩,HR⟩:∃ z,Hid ((({ s with e:=⟨s.e.top,mergeA s.e.cs,s.e.l⟩,q:=[] }:WoS)).run s.q=z):=⟨_,rfl⟩
  obtain⟨m,HN⟩:∃ z,Hid ((idxS 2 s.e.cs).length=z):=⟨_,rfl⟩
  rw[WoS.maint_ok (WoS.free_free HH.out) HR.out,HN.out] at h1
  cases h1
  obtain⟨s1,HS1⟩:∃ z,Hid (({ s with e:=⟨s.e.top,mergeA s.e.cs,s.e.l⟩,q:=[] }:WoS)=z):=⟨_,rfl⟩
  rw[HS1.out] at HR
  have HEV1:Hid (EvL K s1.e.l):=by rw[← HS1.out];exact hev
  have HLN1:Hid (s1.e.l.length≤1000):=by rw[← HS1.out];exact hl9
  have HHD1:Hid (s1.held=false):=by rw[← HS1.out];exact HH.out
  obtain⟨mq,HMQ⟩:∃ z,Hid (s.q.length=z):=⟨_,rfl⟩
  have hmq:mq≤10000:=HMQ.out ▸ hq
  clear hev hq hl9
  go_enter Tryz.func119,Tryz.ntmps119
  go_upto_region 1 with (first
   | (refine wpl_alloc zeroRp hs ?_;clear hs;intro g2 w hs;replace hs:St w0 (blk g2 (YtiafdlofcjbllaaGreatDoor.c3 V3.z).toArray 102::_) w:=hs))
  obtain⟨A,n,c,B,cB,C,cC,D,cD,hp,ho⟩:=hs.rot.dwopen
  clear hs
  have hf:=ho.up2.raopen.1.fits
  have HN2:Hid ((idxS 2 c).length=m):=by have:=HN.out;rwa [← hp,idxS_pad hf (by decide)] at this
  have HP2:Hid (padA n (mergeA c)=mergeA s.e.cs):=by rw[Hid,← merge_pad,hp]
  rw[HMQ.out,HH.out] at ho
  have k0:=Rd.blk (k:=0) (v:= .pointer (some ⟨A,0,none⟩)) (by rfl) _ ho
  have k4:=Rd.blk (k:=4) (v:= .bool false) (by rfl) _ ho
  clear hf hp HN
  go_upto_region 4 with (first
   | (go_at_call 38;refine (merge_r ho.up2 HN2).mono ?_;clear ho k0 k4;rintro r w ⟨B5,c5,rfl,hs⟩;replace hs:=hs.drop)
   | (refine wpl_buildS (build_r1 _) rfl ?_)
   | (refine wpl_alloc zeroRp hs ?_;clear hs;intro g5 w hs;replace hs:St w0 (blk g5 (YtiafdlofcjbllaaGreatDoor.c3 V3.z).toArray 102::_) w:=hs)
   | (refine wpl_store_agg (v:=val3 ⟨(m:Nat),0,0⟩) rfl rfl (sizeRp _) hs WrA.slot3 ?_;clear hs;intro w hs))
  replace hs:St w0 (blk M (dwC A B s.e.l.length cB C s.r.length cC D mq cD false) 59::blk g5 (YtiafdlofcjbllaaGreatDoor.c3 ⟨(m:Nat),0,0⟩).toArray 102::RaB A n s.e.top (mergeA c)::own B s.e.l.length cB 146 1 (rgP s.e.l)::Dls s.e.l::own C s.r.length cC 2 1 (i8v s.r)::own D mq cD 99 7 (s.q.flatMap c7w)::blk g2 (YtiafdlofcjbllaaGreatDoor.c3 V3.z).toArray 102::L) _:=hs.pm
  have k3:=Rd.blk (k:=3) (v:= .slice D mq cD) (by rfl) _ hs
  go_upto_region 6 with (first
   | (refine wpl_store (v:= .slice none 0 0) rfl rfl rfl size_qs hs Wr.dw3 ?_;clear hs k3;intro w hs))
  replace hs:=hs.own_nil 99 7
  replace hs:=St.dwshut (s:=({ s with e:=⟨s.e.top,mergeA s.e.cs,s.e.l⟩,q:=[],held:=false }:WoS)) HP2.out rfl rfl rfl (hs.pm (M:=blk M (dwC A B s.e.l.length cB C s.r.length cC none 0 0 false) 59::own B s.e.l.length cB 146 1 (rgP s.e.l)::RaB A n s.e.top (mergeA c)::Dls s.e.l::own C s.r.length cC 2 1 (i8v s.r)::own none 0 0 99 7 []::blk g5 (YtiafdlofcjbllaaGreatDoor.c3 ⟨(m:Nat),0,0⟩).toArray 102::own D mq cD 99 7 (s.q.flatMap c7w)::blk g2 (YtiafdlofcjbllaaGreatDoor.c3 V3.z).toArray 102::L))
  rw[show ({ s with e:=⟨s.e.top,mergeA s.e.cs,s.e.l⟩,q:=[],held:=false }:WoS)=s1 by rw[← HS1.out,← HH.out]] at hs
  clear HN2 HP2 HS1 HH
  go_upto_region 7 with (fail)
  go_loopw [6] (fun iv wr=>∃ (k a b:Nat) (t:WoS),k≤mq∧a≤k∧b≤k∧iv= .int .i64 (k:Nat)∧Hid (s1.run (s.q.take k)=(a,b,t))∧Hid (EvL (K+k) t.e.l)∧Hid (t.e.l.length≤1000)∧Hid (t.held=false)∧St w0 (DwB M t::blk g5 (YtiafdlofcjbllaaGreatDoor.c3 ⟨(m:Nat),(a:Nat),(b:Nat)⟩).toArray 102::own D mq cD 99 7 (s.q.flatMap c7w)::blk g2 (YtiafdlofcjbllaaGreatDoor.c3 V3.z).toArray 102::L) wr) (fun iv _=>mq - (intOf iv).toNat)
  case atStart=>exact⟨0,0,0,s1,Nat.zero_le _,Nat.le_refl _,Nat.le_refl _,rfl,(by rw[Hid];unfold WoS.run;rfl),HEV1,HLN1,HHD1,hs⟩
  case round=>
   clear hs
   obtain⟨k,a,b,t,hk,hak,hbk,rfl,Hr,He,Hl,Hh,hs⟩:=hrel
   by_cases hlt:k < mq
   ·obtain⟨o,ho⟩:∃ o,Hid (s.q[k]? =some o):=⟨s.q[k]'(by rw[HMQ.out];exact hlt),List.getElem?_eq_getElem _⟩
    obtain⟨gD,rfl⟩:=hs.up2.own_at (by omega)
    obtain⟨⟨y,t'⟩,HA⟩:∃ z,Hid (t.apply o=z):=⟨_,rfl⟩
    have He2:Hid (EvL (K+(k+1)) t'.e.l):=EvL.apply He.out HA.out
    have Hr2:Hid (s1.run (s.q.take (k+1))=(if y then a+1 else a,if y then b else b+1,t')):=by rw[Hid,List.take_add_one,ho.out];exact WoS.run_snoc Hr.out HA.out
    have Hl2:Hid (t'.e.l.length≤1000):=by have:=WoS.apply_len (s:=t) o;rw[HA.out] at this;rw[Hid,this];exact Hl.out
    have Hh2:Hid (t'.held=false):=by have:=WoS.apply_held (s:=t) o;rw[HA.out] at this;rw[Hid,this];exact Hh.out
    have HLT:Hid (∀ x∈t.e.l,x.2.evs.length≤4000000000):=fun x hx=>Nat.le_trans (He.out x hx) (by omega)
    cases y
    ·go_wp2_with (first
      | (refine wpl_load_agg (cs:=c7w o) (b:=gD) (o:=k*7) rfl aggW (sizeW o) hs ?hh ?_;case hh=>exact fun j x hx=>(Rd.own (flat_get c7len ho.out j x hx)).tail.tail)
      | (go_at_call 154;refine (dw_apply hs HLT.out Hl.out Hh.out o HA).mono ?_;clear hs;rintro r w ⟨rfl,hs⟩;replace hs:=hs.rot;have p1:World.cell? _ ⟨g5,2,none⟩=some (.int .i64 (b:Nat)):=Rd.blk (by rfl) _ hs)
      | (refine wpl_store (v:= .int .i64 ((b+1:Nat):Int)) rfl (by go_num) rfl size_in hs Wr.rp2 ?_;clear hs p1;intro w hs))
     go_roundw
     case rel=>exact⟨k+1,a,b+1,t',by omega,by omega,by omega,by first | rfl | go_num,Hr2,He2,Hl2,Hh2,hs.rot⟩
     case measure=>simp[intOf];omega
    ·go_wp2_with (first
      | (refine wpl_load_agg (cs:=c7w o) (b:=gD) (o:=k*7) rfl aggW (sizeW o) hs ?hh ?_;case hh=>exact fun j x hx=>(Rd.own (flat_get c7len ho.out j x hx)).tail.tail)
      | (go_at_call 154;refine (dw_apply hs HLT.out Hl.out Hh.out o HA).mono ?_;clear hs;rintro r w ⟨rfl,hs⟩;replace hs:=hs.rot;have p1:World.cell? _ ⟨g5,1,none⟩=some (.int .i64 (a:Nat)):=Rd.blk (by rfl) _ hs)
      | (refine wpl_store (v:= .int .i64 ((a+1:Nat):Int)) rfl (by go_num) rfl size_in hs Wr.rp1 ?_;clear hs p1;intro w hs))
     go_roundw
     case rel=>exact⟨k+1,a+1,b,t',by omega,by omega,by omega,by first | rfl | go_num,Hr2,He2,Hl2,Hh2,hs.rot⟩
     case measure=>simp[intOf];omega
   ·obtain rfl:k=mq:=by omega
    have h9:=Hr.out
    rw[List.take_of_length_le (by rw[HMQ.out];exact Nat.le_refl _),HR.out] at h9
    cases h9
    clear HR Hr He HEV1 Hl Hh HLN1 HHD1
    replace hs:St w0 (blk g2 (YtiafdlofcjbllaaGreatDoor.c3 V3.z).toArray 102::blk g5 (YtiafdlofcjbllaaGreatDoor.c3 ⟨(m:Nat),(a2:Nat),(b2:Nat)⟩).toArray 102::DwB M s'::own D k cD 99 7 (s.q.flatMap c7w)::L) _:=hs.pm
    go_wp2_with (first
     | (refine wpl_load3 (v:=⟨(m:Nat),(a2:Nat),(b2:Nat)⟩) (g:=g5) rfl (has3_tail (has3_slot (t:=102))) aggRp sizeRpn hs ?_)
     | (refine wpl_store_agg (v:=val3 ⟨(m:Nat),(a2:Nat),(b2:Nat)⟩) rfl rfl (sizeRp _) hs WrA.slot3 ?_;clear hs;intro w hs))
    refine bodyPost_at (results_cell_tmp Tryz.results119 rfl (hs.slot_run aggRp (sizeRp _))) rfl ?_
    exact⟨rfl,hs.drop.drop.rot.drop⟩
end
end Go.Proofs.YtiafdlofcjbllaaGreatDoor
