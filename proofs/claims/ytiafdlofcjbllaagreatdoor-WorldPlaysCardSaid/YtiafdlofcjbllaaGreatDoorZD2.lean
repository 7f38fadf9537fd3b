/-
  The document's World (vivariumref15.World), 2: Insert, Remove, Get, Set. (Printed by gen_dw.py.)
-/
import Derived.Test.YtiafdlofcjbllaaGreatDoorZD1
import Derived.Deep.DeepCutAuto
import Derived.Deep.CutRange
import Derived.Deep.CutBlock
set_option maxRecDepth 100000
namespace Go.Proofs.YtiafdlofcjbllaaGreatDoor
section
open Go Go.RowKit
attribute [local irreducible] wpList Calls Code.wp stV EnS.live EnS.slot WoS.cmpD WoS.mayD mayR rgP padA okI okN pS tS memS getG pG insS delS getV pV tV okVal newSl SlS.put SlS.err SlS.putU SlS.putB descE SlS.take SlS.set SlS.errSet SlS.get SlS.has EnS.ins EnS.set EnS.rem EnS.get WoS.ins WoS.rem WoS.get WoS.set
set_option maxHeartbeats 4000000 in
theorem dw_ins {w0 w:World} {L:List As} {M:Nat} {s:WoS} (hs:St w0 (DwB M s::L) w) (hev:∀ x∈s.e.l,x.2.evs.length≤4000000000) {h:Hdl} {c:Int} {v u:V3} {b:Bool} {x:Int} {s':WoS} (HV:Hid (s.ins h c v=(u,b,x,s'))):
  Calls Tryz.prog 26 #[.pointer (some ⟨M,0,none⟩),hv h, .int .i64 c,val3 v] w fun r w'=>r= .returned (.tuple #[val3 u, .bool b, .int .i64 x])∧St w0 (DwB M s'::L) w':=by
 obtain⟨f,HMY⟩:∃ z,Hid (s.mayD true h c=z):=⟨_,rfl⟩
 by_cases h0:f=0
 ·subst h0
  obtain⟨hz1,hz2,j,⟨X,t⟩,rfl,hj⟩:=WoS.mayD_zero HMY.out
  clear hz1 hz2
  have h1:=HV.out
  rw[WoS.ins_yes HMY.out rfl hj] at h1
  have hx:=hev _ (List.mem_of_getElem? hj)
  have HEV:Hid (t.evs.length≤4000000000):=hx
  obtain⟨i,g⟩:=h
  obtain⟨t',HT'⟩:∃ z,Hid (t.put i v=z):=⟨_,rfl⟩
  obtain⟨u2,HU⟩:∃ z,Hid (t.putU i v=z):=⟨_,rfl⟩
  obtain⟨b2,HB⟩:∃ z,Hid (t.putB i v=z):=⟨_,rfl⟩
  obtain⟨e2,HE⟩:∃ z,Hid (t.err i v=z):=⟨_,rfl⟩
  simp only at h1
  rw[HU.out,HB.out,HE.out,HT'.out] at h1
  cases h1
  have HJ:=Lib.hid hj
  clear HV hx hev hj
  go_enter Tryz.func26,Tryz.ntmps26
  go_upto_region 4 with (first
   | (refine wpl_box_v (v:=hv (i,g)) rfl hs ?_;clear hs;intro g5 w hs;replace hs:St w0 (blk g5 (h2 (i,g)).toArray 40::_) w:=hs)
   | (refine wpl_box_v (v:=val3 v) rfl hs ?_;clear hs;intro g7 w hs;replace hs:St w0 (blk g7 (YtiafdlofcjbllaaGreatDoor.c3 v).toArray 38::_) w:=hs)
   | (refine wpl_alloc zero3 hs ?_;clear hs;intro g8 w hs;replace hs:St w0 (blk g8 (YtiafdlofcjbllaaGreatDoor.c3 V3.z).toArray 38::_) w:=hs)
   | (refine wpl_load_agg (cs:=h2 (i,g)) (b:=g5) (o:=0) rfl aggH (sizeHd _) hs ?hh ?_;case hh=>exact fun j x hx=>((Rd.blk (by simpa using hx)).tail).tail)
   | (go_at_call 88;refine (dw_may (h:=(i,g)) hs.up3 HMY).mono ?_;rintro r w ⟨rfl,hg⟩;replace hs:=hs.grew hg;clear hg))
  obtain⟨K,gB,m,cB,P,R,hK,hjm,hP,hs,hback⟩:=hs.up3.dwslot HJ.out
  replace hs:St w0 (blk M K 59::own (some ⟨gB,0,none⟩) m cB 146 1 P::blk g5 (h2 (i,g)).toArray 40::blk g7 (c3 v).toArray 38::DsB X t::blk g8 (c3 V3.z).toArray 38::R::L) _:=hs.pm
  replace hback:=Lib.hid hback
  refine wp_mix 2 [0,1,2,3,4,5,6,7,8,9] [10,11,12,13,14,15,16] hs.only4 (by kernel_rfl) (by kernel_rfl) fun hne=>?_
  have r0:=(Rd.blk (w0:=w0) (g:=M) (k:=1) (cs:=K) (t:=59) (L:=[own (some ⟨gB,0,none⟩) m cB 146 1 P,blk g5 (h2 (i,g)).toArray 40,blk g7 (c3 v).toArray 38]) hK).alln
  have r1:=((Rd.own (w0:=w0) (g:=gB) (n:=m) (cap:=cB) (e:=146) (size:=1) (L:=[blk g5 (h2 (i,g)).toArray 40,blk g7 (c3 v).toArray 38]) hP).tail (p:=blk M K 59)).alln
  have r2:=(show Rd w0 [blk M K 59,own (some ⟨gB,0,none⟩) m cB 146 1 P,blk g5 (h2 (i,g)).toArray 40,blk g7 (c3 v).toArray 38] ⟨g5,0,none⟩ (.int .i64 i) from ((Rd.blk rfl).tail).tail).alln
  have r3:=(show Rd w0 [blk M K 59,own (some ⟨gB,0,none⟩) m cB 146 1 P,blk g5 (h2 (i,g)).toArray 40,blk g7 (c3 v).toArray 38] ⟨g7,0,none⟩ (.int .i64 v.k) from (((Rd.blk rfl).tail).tail).tail).alln
  have r4:=(show Rd w0 [blk M K 59,own (some ⟨gB,0,none⟩) m cB 146 1 P,blk g5 (h2 (i,g)).toArray 40,blk g7 (c3 v).toArray 38] ⟨g7,1,none⟩ (.int .i64 v.a) from (((Rd.blk rfl).tail).tail).tail).alln
  have r5:=(show Rd w0 [blk M K 59,own (some ⟨gB,0,none⟩) m cB 146 1 P,blk g5 (h2 (i,g)).toArray 40,blk g7 (c3 v).toArray 38] ⟨g7,2,none⟩ (.int .i64 v.b) from (((Rd.blk rfl).tail).tail).tail).alln
  simp only[opsAt,List.getElem?_toArray,List.getElem?_cons_succ,List.getElem?_cons_zero]
  repeat (go_big_quiet_step (fail))
  refine wpQuiet_nil ?_
  clear hne r0 r1 r2 r3 r4 r5
  replace hs:=hs.drew
  refine wpMix_next [10] (by kernel_rfl) (by simp) (fun c hc=>?_)
  simp only[List.mem_singleton] at hc
  subst hc
  refine⟨_,rfl,?_⟩
  go_wp2_with (first
   | (go_at_call 89;refine (ds_put hs.up4 HEV.out HU HB HE HT').mono ?_;clear hs;rintro r w ⟨rfl,hs⟩;replace hs:=hs.dn4))
  replace hs:St w0 (blk M K 59::own (some ⟨gB,0,none⟩) m cB 146 1 P::blk g5 (h2 (i,g)).toArray 40::blk g7 (c3 v).toArray 38::DsB X t'::blk g8 (c3 V3.z).toArray 38::R::L) w:=hs.pm
  refine mix_quiet [11,12,13] [14,15,16] hs.only4 (by kernel_rfl) (by kernel_rfl) fun hne=>?_
  simp only[opsAt,List.getElem?_toArray,List.getElem?_cons_succ,List.getElem?_cons_zero]
  repeat (go_big_quiet_step (fail))
  refine wpQuiet_nil ?_
  clear hne
  refine wpMix_next [14] (by kernel_rfl) (by simp) (fun c hc=>?_)
  simp only[List.mem_singleton] at hc
  subst hc
  refine⟨_,rfl,?_⟩
  refine wpl_store_agg (v:=val3 u) rfl rfl (size3 _) (hs.pm (M:=blk g8 (c3 V3.z).toArray 38::blk M K 59::own (some ⟨gB,0,none⟩) m cB 146 1 P::blk g5 (h2 (i,g)).toArray 40::blk g7 (c3 v).toArray 38::DsB X t'::R::L)) WrA.slot3 ?_
  clear hs
  intro w hs
  replace hs:St w0 (blk M K 59::own (some ⟨gB,0,none⟩) m cB 146 1 P::blk g5 (h2 (i,g)).toArray 40::blk g7 (c3 v).toArray 38::DsB X t'::blk g8 (YtiafdlofcjbllaaGreatDoor.c3 u).toArray 38::R::L) w:=hs.pm
  refine wpList_nil ⟨rfl,?_⟩
  refine mix_quiet [15,16] [] hs.only4 (by kernel_rfl) (by kernel_rfl) fun hne=>?_
  simp only[opsAt,List.getElem?_toArray,List.getElem?_cons_succ,List.getElem?_cons_zero]
  try simp only[Act.put,List.setIfInBounds_toArray,List.set_cons_succ,List.set_cons_zero]
  repeat (go_big_quiet_step (fail))
  refine wpQuiet_nil ?_
  clear hne
  refine wpMix_end ?_
  go_wp2
  refine bodyPost_at (results_cell_tmp2 Tryz.results26 rfl ((hs.pm (M:=blk g8 (YtiafdlofcjbllaaGreatDoor.c3 u).toArray 38::blk M K 59::own (some ⟨gB,0,none⟩) m cB 146 1 P::blk g5 (h2 (i,g)).toArray 40::blk g7 (c3 v).toArray 38::DsB X t'::R::L)).slot_run agg3 (size3 _))) rfl ?_
  exact⟨rfl,hback.out _ _ _ (hs.pm (M:=blk g8 (YtiafdlofcjbllaaGreatDoor.c3 u).toArray 38::blk g7 (YtiafdlofcjbllaaGreatDoor.c3 v).toArray 38::blk g5 (h2 (i,g)).toArray 40::blk M K 59::own (some ⟨gB,0,none⟩) m cB 146 1 P::DsB X t'::R::L)).drop.drop.drop⟩
 ·have e1:(f==0)=false:=by simpa using h0
  have e2:(f !=0)=true:=by simpa using h0
  have h1:=HV.out
  rw[WoS.ins_no (by rw[HMY.out];exact h0),HMY.out] at h1
  cases h1
  clear HV h0 hev
  obtain⟨i,g⟩:=h
  go_enter Tryz.func26,Tryz.ntmps26
  (go_wp2_with (first
   | (refine wpl_box_v (v:=hv (i,g)) rfl hs ?_;clear hs;intro g5 w hs;replace hs:St w0 (blk g5 (h2 (i,g)).toArray 40::_) w:=hs)
   | (refine wpl_box_v (v:=val3 v) rfl hs ?_;clear hs;intro g7 w hs;replace hs:St w0 (blk g7 (YtiafdlofcjbllaaGreatDoor.c3 v).toArray 38::_) w:=hs)
   | (refine wpl_alloc zero3 hs ?_;clear hs;intro g8 w hs;replace hs:St w0 (blk g8 (YtiafdlofcjbllaaGreatDoor.c3 V3.z).toArray 38::_) w:=hs)
   | (refine wpl_load_agg (cs:=h2 (i,g)) (b:=g5) (o:=0) rfl aggH (sizeHd _) hs ?hh ?_;case hh=>exact fun j x hx=>((Rd.blk (by simpa using hx)).tail).tail)
   | (go_at_call 88;refine (dw_may (h:=(i,g)) hs.up3 HMY).mono ?_;rintro r w ⟨rfl,hg⟩;replace hs:=hs.grew hg;clear hg)
   | (refine wpl_buildS build3 rfl ?_)
   | (refine wpl_store_agg (v:=val3 V3.z) rfl rfl (size3 _) hs WrA.slot3 ?_;clear hs;intro w hs)))
  refine bodyPost_at (results_cell_tmp2 Tryz.results26 rfl (hs.slot_run agg3 (size3 _))) rfl ?_
  exact⟨rfl,hs.drop.drop.drop⟩
set_option maxHeartbeats 4000000 in
theorem dw_rem {w0 w:World} {L:List As} {M:Nat} {s:WoS} (hs:St w0 (DwB M s::L) w) (hev:∀ x∈s.e.l,x.2.evs.length≤4000000000) {h:Hdl} {c:Int} {u:V3} {x:Int} {s':WoS} (HV:Hid (s.rem h c=(u,x,s'))):
  Calls Tryz.prog 28 #[.pointer (some ⟨M,0,none⟩),hv h, .int .i64 c] w fun r w'=>r= .returned (.tuple #[val3 u, .int .i64 x])∧St w0 (DwB M s'::L) w':=by
 obtain⟨f,HMY⟩:∃ z,Hid (s.mayD true h c=z):=⟨_,rfl⟩
 by_cases h0:f=0
 ·subst h0
  obtain⟨hz1,hz2,j,⟨X,t⟩,rfl,hj⟩:=WoS.mayD_zero HMY.out
  clear hz1 hz2
  have h1:=HV.out
  rw[WoS.rem_yes HMY.out rfl hj] at h1
  have hx:=hev _ (List.mem_of_getElem? hj)
  have HEV:Hid (t.evs.length≤4000000000):=hx
  obtain⟨i,g⟩:=h
  obtain⟨t',HT'⟩:∃ z,Hid (t.take i=z):=⟨_,rfl⟩
  obtain⟨u2,HU⟩:∃ z,Hid (t.get i=z):=⟨_,rfl⟩
  obtain⟨b2,HB⟩:∃ z,Hid (t.has i=z):=⟨_,rfl⟩
  have h1:(if b2 then (u2,(0:Int),({ s with e:=⟨s.e.top,s.e.cs,s.e.l.set j (X,t')⟩ }:WoS)) else (V3.z,10,s))=(u,x,s'):=by
   rw[← HB.out,← HU.out,← HT'.out];exact h1
  have HN:Hid (b2=false→t'=t):=fun hb=>by rw[← HT'.out];exact SlS.take_no (by rw[HB.out];exact hb)
  have HJ:=Lib.hid hj
  have HR:=Lib.hid h1
  clear HV hx hev hj h1
  go_enter Tryz.func28,Tryz.ntmps28
  go_upto_region 4 with (first
   | (refine wpl_box_v (v:=hv (i,g)) rfl hs ?_;clear hs;intro g5 w hs;replace hs:St w0 (blk g5 (h2 (i,g)).toArray 40::_) w:=hs)
   | (refine wpl_box_v (v:=val3 v) rfl hs ?_;clear hs;intro g7 w hs;replace hs:St w0 (blk g7 (YtiafdlofcjbllaaGreatDoor.c3 v).toArray 38::_) w:=hs)
   | (refine wpl_alloc zero3 hs ?_;clear hs;intro g8 w hs;replace hs:St w0 (blk g8 (YtiafdlofcjbllaaGreatDoor.c3 V3.z).toArray 38::_) w:=hs)
   | (refine wpl_load_agg (cs:=h2 (i,g)) (b:=g5) (o:=0) rfl aggH (sizeHd _) hs ?hh ?_;case hh=>exact fun j x hx=>((Rd.blk (by simpa using hx)).tail))
   | (go_at_call 88;refine (dw_may (h:=(i,g)) hs.up2 HMY).mono ?_;rintro r w ⟨rfl,hg⟩;replace hs:=hs.grew hg;clear hg))
  obtain⟨K,gB,m,cB,P,R,hK,hjm,hP,hs,hback⟩:=hs.up2.dwslot HJ.out
  replace hs:St w0 (blk M K 59::own (some ⟨gB,0,none⟩) m cB 146 1 P::blk g5 (h2 (i,g)).toArray 40::DsB X t::blk g8 (c3 V3.z).toArray 38::R::L) _:=hs.pm
  replace hback:=Lib.hid hback
  go_cut [9,10] from 19 to 31 (fun pv bv wx=>∃ g9,pv= .pointer (some ⟨g9,0,none⟩)∧bv= .bool b2∧St w0 (blk g9 (YtiafdlofcjbllaaGreatDoor.c3 u2).toArray 38::blk M K 59::own (some ⟨gB,0,none⟩) m cB 146 1 P::blk g5 (h2 (i,g)).toArray 40::DsB X t'::blk g8 (c3 V3.z).toArray 38::R::L) wx)
  case first=>
   refine wp_mix 3 [0,1,2,3,4,5,6,7,8] [9,10,11,12,13,14,15] hs.only3 (by kernel_rfl) (by kernel_rfl) fun hne=>?_
   have r0:=(Rd.blk (w0:=w0) (g:=M) (k:=1) (cs:=K) (t:=59) (L:=[own (some ⟨gB,0,none⟩) m cB 146 1 P,blk g5 (h2 (i,g)).toArray 40]) hK).alln
   have r1:=((Rd.own (w0:=w0) (g:=gB) (n:=m) (cap:=cB) (e:=146) (size:=1) (L:=[blk g5 (h2 (i,g)).toArray 40]) hP).tail (p:=blk M K 59)).alln
   have r2:=(show Rd w0 [blk M K 59,own (some ⟨gB,0,none⟩) m cB 146 1 P,blk g5 (h2 (i,g)).toArray 40] ⟨g5,0,none⟩ (.int .i64 i) from ((Rd.blk rfl).tail).tail).alln
   simp only[opsAt,List.getElem?_toArray,List.getElem?_cons_succ,List.getElem?_cons_zero]
   repeat (go_big_quiet_step (fail))
   refine wpQuiet_nil ?_
   clear hne r0 r1 r2
   replace hs:=hs.drew
   refine wpMix_next [9,13] (by kernel_rfl) (by simp) (fun c hc=>?_)
   simp only[List.mem_cons,List.not_mem_nil,or_false] at hc
   rcases hc with rfl | rfl
   ·skip
    refine⟨_,rfl,?_⟩
    go_wp2_with (first
     | (go_at_call 84;refine (ds_take hs.up3 HEV.out HU HB HT').mono ?_;clear hs;rintro r w ⟨rfl,hs⟩;replace hs:=hs.dn3))
    replace hs:St w0 (blk M K 59::own (some ⟨gB,0,none⟩) m cB 146 1 P::blk g5 (h2 (i,g)).toArray 40::DsB X t'::blk g8 (c3 V3.z).toArray 38::R::L) w:=hs.pm
    refine mix_quiet [10,11,12] [13,14,15] hs.only3 (by kernel_rfl) (by kernel_rfl) fun hne=>?_
    simp only[opsAt,List.getElem?_toArray,List.getElem?_cons_succ,List.getElem?_cons_zero]
    repeat (go_big_quiet_step (fail))
    refine wpQuiet_nil ?_
    clear hne
    refine wpMix_next [13] (by kernel_rfl) (by simp) (fun c hc=>?_)
    simp only[List.mem_singleton] at hc
    subst hc
    refine⟨_,rfl,?_⟩
    refine wpl_alloc zero3 hs ?_
    clear hs
    intro g9 w hs
    replace hs:St w0 (blk g9 (YtiafdlofcjbllaaGreatDoor.c3 V3.z).toArray 38::_) w:=hs
    replace hs:St w0 (blk M K 59::own (some ⟨gB,0,none⟩) m cB 146 1 P::blk g5 (h2 (i,g)).toArray 40::DsB X t'::blk g8 (c3 V3.z).toArray 38::R::blk g9 (YtiafdlofcjbllaaGreatDoor.c3 V3.z).toArray 38::L) w:=hs.pm
    refine wpList_nil ⟨rfl,?_⟩
    refine mix_quiet [] [14,15] hs.only3 (by kernel_rfl) (by kernel_rfl) fun hne=>?_
    simp only[opsAt]
    refine wpQuiet_nil ?_
    clear hne
    refine wpMix_next [14] (by kernel_rfl) (by simp) (fun c hc=>?_)
    simp only[List.mem_singleton] at hc
    subst hc
    refine⟨_,rfl,?_⟩
    refine wpl_store_agg (v:=val3 u2) rfl rfl (size3 _) (hs.pm (M:=blk g9 (YtiafdlofcjbllaaGreatDoor.c3 V3.z).toArray 38::blk M K 59::own (some ⟨gB,0,none⟩) m cB 146 1 P::blk g5 (h2 (i,g)).toArray 40::DsB X t'::blk g8 (c3 V3.z).toArray 38::R::L)) WrA.slot3 ?_
    clear hs
    intro w hs
    replace hs:St w0 (blk M K 59::own (some ⟨gB,0,none⟩) m cB 146 1 P::blk g5 (h2 (i,g)).toArray 40::DsB X t'::blk g8 (c3 V3.z).toArray 38::R::blk g9 (YtiafdlofcjbllaaGreatDoor.c3 u2).toArray 38::L) w:=hs.pm
    refine wpList_nil ⟨rfl,?_⟩
    refine mix_quiet [15] [] hs.only3 (by kernel_rfl) (by kernel_rfl) fun hne=>?_
    simp only[opsAt,List.getElem?_toArray,List.getElem?_cons_succ,List.getElem?_cons_zero]
    try simp only[Act.put,List.setIfInBounds_toArray,List.set_cons_succ,List.set_cons_zero]
    repeat (go_big_quiet_step (fail))
    refine wpQuiet_nil ?_
    clear hne
    refine wpMix_end ?_
    go_wp2
    go_meet
    exact⟨g9,rfl,rfl,hs.pm⟩
   ·skip
    refine⟨_,rfl,?_⟩
    refine wpl_alloc zero3 hs ?_
    clear hs
    intro g9 w hs
    replace hs:St w0 (blk g9 (YtiafdlofcjbllaaGreatDoor.c3 V3.z).toArray 38::_) w:=hs
    replace hs:St w0 (blk M K 59::own (some ⟨gB,0,none⟩) m cB 146 1 P::blk g5 (h2 (i,g)).toArray 40::DsB X t::blk g8 (c3 V3.z).toArray 38::R::blk g9 (YtiafdlofcjbllaaGreatDoor.c3 V3.z).toArray 38::L) w:=hs.pm
    refine wpList_nil ⟨rfl,?_⟩
    refine mix_quiet [] [9,10,11,12,14,15] hs.only3 (by kernel_rfl) (by kernel_rfl) fun hne=>?_
    simp only[opsAt]
    refine wpQuiet_nil ?_
    clear hne
    refine wpMix_next [9] (by kernel_rfl) (by simp) (fun c hc=>?_)
    simp only[List.mem_singleton] at hc
    subst hc
    refine⟨_,rfl,?_⟩
    go_wp2_with (first
     | (go_at_call 84;refine (ds_take hs.up3 HEV.out HU HB HT').mono ?_;clear hs;rintro r w ⟨rfl,hs⟩;replace hs:=hs.dn3))
    replace hs:St w0 (blk M K 59::own (some ⟨gB,0,none⟩) m cB 146 1 P::blk g5 (h2 (i,g)).toArray 40::DsB X t'::blk g8 (c3 V3.z).toArray 38::R::blk g9 (YtiafdlofcjbllaaGreatDoor.c3 V3.z).toArray 38::L) w:=hs.pm
    refine mix_quiet [10,11,12] [14,15] hs.only3 (by kernel_rfl) (by kernel_rfl) fun hne=>?_
    simp only[opsAt,List.getElem?_toArray,List.getElem?_cons_succ,List.getElem?_cons_zero]
    repeat (go_big_quiet_step (fail))
    refine wpQuiet_nil ?_
    clear hne
    refine wpMix_next [14] (by kernel_rfl) (by simp) (fun c hc=>?_)
    simp only[List.mem_singleton] at hc
    subst hc
    refine⟨_,rfl,?_⟩
    refine wpl_store_agg (v:=val3 u2) rfl rfl (size3 _) (hs.pm (M:=blk g9 (YtiafdlofcjbllaaGreatDoor.c3 V3.z).toArray 38::blk M K 59::own (some ⟨gB,0,none⟩) m cB 146 1 P::blk g5 (h2 (i,g)).toArray 40::DsB X t'::blk g8 (c3 V3.z).toArray 38::R::L)) WrA.slot3 ?_
    clear hs
    intro w hs
    replace hs:St w0 (blk M K 59::own (some ⟨gB,0,none⟩) m cB 146 1 P::blk g5 (h2 (i,g)).toArray 40::DsB X t'::blk g8 (c3 V3.z).toArray 38::R::blk g9 (YtiafdlofcjbllaaGreatDoor.c3 u2).toArray 38::L) w:=hs.pm
    refine wpList_nil ⟨rfl,?_⟩
    refine mix_quiet [15] [] hs.only3 (by kernel_rfl) (by kernel_rfl) fun hne=>?_
    simp only[opsAt,List.getElem?_toArray,List.getElem?_cons_succ,List.getElem?_cons_zero]
    try simp only[Act.put,List.setIfInBounds_toArray,List.set_cons_succ,List.set_cons_zero]
    repeat (go_big_quiet_step (fail))
    refine wpQuiet_nil ?_
    clear hne
    refine wpMix_end ?_
    go_wp2
    go_meet
    exact⟨g9,rfl,rfl,hs.pm⟩
  case rest=>
  clear hs
  obtain⟨g9,rfl,rfl,hs⟩:=hcut
  cases b2 with
  | true=>
   obtain⟨rfl,rfl,rfl⟩:u2=u∧(0:Int)=x∧({ s with e:=⟨s.e.top,s.e.cs,s.e.l.set j (X,t')⟩ }:WoS)=s':=by
    have:=HR.out;simp only[if_true,Prod.mk.injEq] at this;exact this
   replace hs:St w0 (blk g8 (YtiafdlofcjbllaaGreatDoor.c3 V3.z).toArray 38::blk g9 (YtiafdlofcjbllaaGreatDoor.c3 u2).toArray 38::blk M K 59::own (some ⟨gB,0,none⟩) m cB 146 1 P::blk g5 (h2 (i,g)).toArray 40::DsB X t'::R::L) _:=hs.pm
   (go_wp2_with (first
    | (refine wpl_buildS build3 rfl ?_)
    | (refine wpl_load3 (v:=u2) (g:=g9) rfl (has3_tail (has3_slot (t:=38))) agg3 size3n hs ?_)
    | (refine wpl_store_agg (v:=val3 u2) rfl rfl (size3 _) hs WrA.slot3 ?_;clear hs;intro w hs)))
   refine bodyPost_at (results_cell_tmp Tryz.results28 rfl (hs.slot_run agg3 (size3 _))) rfl ?_
   exact⟨rfl,hback.out _ _ _ (hs.pm (M:=blk g8 (YtiafdlofcjbllaaGreatDoor.c3 u2).toArray 38::blk g9 (YtiafdlofcjbllaaGreatDoor.c3 u2).toArray 38::blk g5 (h2 (i,g)).toArray 40::blk M K 59::own (some ⟨gB,0,none⟩) m cB 146 1 P::DsB X t'::R::L)).drop.drop.drop⟩
  | false=>
   obtain⟨rfl,rfl,rfl⟩:V3.z=u∧(10:Int)=x∧s=s':=by
    have:=HR.out;simp only[Bool.false_eq_true,if_false,Prod.mk.injEq] at this;exact this
   obtain rfl:=HN.out rfl
   replace hs:St w0 (blk g8 (YtiafdlofcjbllaaGreatDoor.c3 V3.z).toArray 38::blk g9 (YtiafdlofcjbllaaGreatDoor.c3 u2).toArray 38::blk M K 59::own (some ⟨gB,0,none⟩) m cB 146 1 P::blk g5 (h2 (i,g)).toArray 40::DsB X t'::R::L) _:=hs.pm
   (go_wp2_with (first
    | (refine wpl_buildS build3 rfl ?_)
    | (refine wpl_load3 (v:=u2) (g:=g9) rfl (has3_tail (has3_slot (t:=38))) agg3 size3n hs ?_)
    | (refine wpl_store_agg (v:=val3 V3.z) rfl rfl (size3 _) hs WrA.slot3 ?_;clear hs;intro w hs)))
   refine bodyPost_at (results_cell_tmp Tryz.results28 rfl (hs.slot_run agg3 (size3 _))) rfl ?_
   have h5:=hback.out _ _ _ (hs.pm (M:=blk g8 (YtiafdlofcjbllaaGreatDoor.c3 V3.z).toArray 38::blk g9 (YtiafdlofcjbllaaGreatDoor.c3 u2).toArray 38::blk g5 (h2 (i,g)).toArray 40::blk M K 59::own (some ⟨gB,0,none⟩) m cB 146 1 P::DsB X t'::R::L)).drop.drop.drop
   rw[WoS.set_same HJ.out] at h5
   exact⟨rfl,h5⟩
 ·have e1:(f==0)=false:=by simpa using h0
  have e2:(f !=0)=true:=by simpa using h0
  have h1:=HV.out
  rw[WoS.rem_no (by rw[HMY.out];exact h0),HMY.out] at h1
  cases h1
  clear HV h0 hev
  obtain⟨i,g⟩:=h
  go_enter Tryz.func28,Tryz.ntmps28
  (go_wp2_with (first
   | (refine wpl_box_v (v:=hv (i,g)) rfl hs ?_;clear hs;intro g5 w hs;replace hs:St w0 (blk g5 (h2 (i,g)).toArray 40::_) w:=hs)
   | (refine wpl_box_v (v:=val3 v) rfl hs ?_;clear hs;intro g7 w hs;replace hs:St w0 (blk g7 (YtiafdlofcjbllaaGreatDoor.c3 v).toArray 38::_) w:=hs)
   | (refine wpl_alloc zero3 hs ?_;clear hs;intro g8 w hs;replace hs:St w0 (blk g8 (YtiafdlofcjbllaaGreatDoor.c3 V3.z).toArray 38::_) w:=hs)
   | (refine wpl_load_agg (cs:=h2 (i,g)) (b:=g5) (o:=0) rfl aggH (sizeHd _) hs ?hh ?_;case hh=>exact fun j x hx=>((Rd.blk (by simpa using hx)).tail))
   | (go_at_call 88;refine (dw_may (h:=(i,g)) hs.up2 HMY).mono ?_;rintro r w ⟨rfl,hg⟩;replace hs:=hs.grew hg;clear hg)
   | (refine wpl_buildS build3 rfl ?_)
   | (refine wpl_store_agg (v:=val3 V3.z) rfl rfl (size3 _) hs WrA.slot3 ?_;clear hs;intro w hs)))
  refine bodyPost_at (results_cell_tmp Tryz.results28 rfl (hs.slot_run agg3 (size3 _))) rfl ?_
  exact⟨rfl,hs.drop.drop⟩
set_option maxHeartbeats 4000000 in
theorem dw_get {w0 w:World} {L:List As} {M:Nat} {s:WoS} (hs:St w0 (DwB M s::L) w) {h:Hdl} {c:Int} {u:V3} {x:Int} (HV:Hid (s.get h c=(u,x))):
  Calls Tryz.prog 30 #[.pointer (some ⟨M,0,none⟩),hv h, .int .i64 c] w fun r w'=>r= .returned (.tuple #[val3 u, .int .i64 x])∧St w0 (DwB M s::L) w':=by
 obtain⟨f,HMY⟩:∃ z,Hid (s.mayD false h c=z):=⟨_,rfl⟩
 by_cases h0:f=0
 ·subst h0
  obtain⟨hz1,hz2,j,⟨X,t⟩,rfl,hj⟩:=WoS.mayD_zero HMY.out
  clear hz1 hz2
  have h1:=HV.out
  rw[WoS.get_yes HMY.out rfl hj] at h1
  obtain⟨i,g⟩:=h
  obtain⟨u2,HU⟩:∃ z,Hid (t.get i=z):=⟨_,rfl⟩
  obtain⟨b2,HB⟩:∃ z,Hid (t.has i=z):=⟨_,rfl⟩
  have h1:(if b2 then (u2,(0:Int)) else (V3.z,10))=(u,x):=by
   rw[← HB.out,← HU.out];exact h1
  have HJ:=Lib.hid hj
  have HR:=Lib.hid h1
  clear HV hj h1
  go_enter Tryz.func30,Tryz.ntmps30
  go_upto_region 4 with (first
   | (refine wpl_box_v (v:=hv (i,g)) rfl hs ?_;clear hs;intro g5 w hs;replace hs:St w0 (blk g5 (h2 (i,g)).toArray 40::_) w:=hs)
   | (refine wpl_box_v (v:=val3 v) rfl hs ?_;clear hs;intro g7 w hs;replace hs:St w0 (blk g7 (YtiafdlofcjbllaaGreatDoor.c3 v).toArray 38::_) w:=hs)
   | (refine wpl_alloc zero3 hs ?_;clear hs;intro g8 w hs;replace hs:St w0 (blk g8 (YtiafdlofcjbllaaGreatDoor.c3 V3.z).toArray 38::_) w:=hs)
   | (refine wpl_load_agg (cs:=h2 (i,g)) (b:=g5) (o:=0) rfl aggH (sizeHd _) hs ?hh ?_;case hh=>exact fun j x hx=>((Rd.blk (by simpa using hx)).tail))
   | (go_at_call 88;refine (dw_may (h:=(i,g)) hs.up2 HMY).mono ?_;rintro r w ⟨rfl,hg⟩;replace hs:=hs.grew hg;clear hg))
  obtain⟨K,gB,m,cB,P,R,hK,hjm,hP,hs,hback⟩:=hs.up2.dwslot HJ.out
  replace hs:St w0 (blk M K 59::own (some ⟨gB,0,none⟩) m cB 146 1 P::blk g5 (h2 (i,g)).toArray 40::DsB X t::blk g8 (c3 V3.z).toArray 38::R::L) _:=hs.pm
  replace hback:=Lib.hid hback
  go_cut [9,10] from 19 to 33 (fun pv bv wx=>∃ g9,pv= .pointer (some ⟨g9,0,none⟩)∧bv= .bool b2∧St w0 (blk g9 (YtiafdlofcjbllaaGreatDoor.c3 u2).toArray 38::blk M K 59::own (some ⟨gB,0,none⟩) m cB 146 1 P::blk g5 (h2 (i,g)).toArray 40::DsB X t::blk g8 (c3 V3.z).toArray 38::R::L) wx)
  case first=>
   refine wp_mix 3 [0,1,2,3,4,5,6,7,8,9,10] [11,12,13,14,15,16,17] hs.only3 (by kernel_rfl) (by kernel_rfl) fun hne=>?_
   have r0:=(Rd.blk (w0:=w0) (g:=M) (k:=1) (cs:=K) (t:=59) (L:=[own (some ⟨gB,0,none⟩) m cB 146 1 P,blk g5 (h2 (i,g)).toArray 40]) hK).alln
   have r1:=((Rd.own (w0:=w0) (g:=gB) (n:=m) (cap:=cB) (e:=146) (size:=1) (L:=[blk g5 (h2 (i,g)).toArray 40]) hP).tail (p:=blk M K 59)).alln
   have r2:=(show Rd w0 [blk M K 59,own (some ⟨gB,0,none⟩) m cB 146 1 P,blk g5 (h2 (i,g)).toArray 40] ⟨g5,0,none⟩ (.int .i64 i) from ((Rd.blk rfl).tail).tail).alln
   simp only[opsAt,List.getElem?_toArray,List.getElem?_cons_succ,List.getElem?_cons_zero]
   repeat (go_big_quiet_step (fail))
   refine wpQuiet_nil ?_
   clear hne r0 r1 r2
   replace hs:=hs.drew
   refine wpMix_next [11,15] (by kernel_rfl) (by simp) (fun c hc=>?_)
   simp only[List.mem_cons,List.not_mem_nil,or_false] at hc
   rcases hc with rfl | rfl
   ·skip
    refine⟨_,rfl,?_⟩
    go_wp2_with (first
     | (go_at_call 91;refine (ds_get hs.up3 HU HB).mono ?_;rintro r w ⟨rfl,hg⟩;replace hs:=hs.grew hg;clear hg))
    refine mix_quiet [12,13,14] [15,16,17] hs.only3 (by kernel_rfl) (by kernel_rfl) fun hne=>?_
    simp only[opsAt,List.getElem?_toArray,List.getElem?_cons_succ,List.getElem?_cons_zero]
    repeat (go_big_quiet_step (fail))
    refine wpQuiet_nil ?_
    clear hne
    refine wpMix_next [15] (by kernel_rfl) (by simp) (fun c hc=>?_)
    simp only[List.mem_singleton] at hc
    subst hc
    refine⟨_,rfl,?_⟩
    refine wpl_alloc zero3 hs ?_
    clear hs
    intro g9 w hs
    replace hs:St w0 (blk g9 (YtiafdlofcjbllaaGreatDoor.c3 V3.z).toArray 38::_) w:=hs
    replace hs:St w0 (blk M K 59::own (some ⟨gB,0,none⟩) m cB 146 1 P::blk g5 (h2 (i,g)).toArray 40::DsB X t::blk g8 (c3 V3.z).toArray 38::R::blk g9 (YtiafdlofcjbllaaGreatDoor.c3 V3.z).toArray 38::L) w:=hs.pm
    refine wpList_nil ⟨rfl,?_⟩
    refine mix_quiet [] [16,17] hs.only3 (by kernel_rfl) (by kernel_rfl) fun hne=>?_
    simp only[opsAt]
    refine wpQuiet_nil ?_
    clear hne
    refine wpMix_next [16] (by kernel_rfl) (by simp) (fun c hc=>?_)
    simp only[List.mem_singleton] at hc
    subst hc
    refine⟨_,rfl,?_⟩
    refine wpl_store_agg (v:=val3 u2) rfl rfl (size3 _) (hs.pm (M:=blk g9 (YtiafdlofcjbllaaGreatDoor.c3 V3.z).toArray 38::blk M K 59::own (some ⟨gB,0,none⟩) m cB 146 1 P::blk g5 (h2 (i,g)).toArray 40::DsB X t::blk g8 (c3 V3.z).toArray 38::R::L)) WrA.slot3 ?_
    clear hs
    intro w hs
    replace hs:St w0 (blk M K 59::own (some ⟨gB,0,none⟩) m cB 146 1 P::blk g5 (h2 (i,g)).toArray 40::DsB X t::blk g8 (c3 V3.z).toArray 38::R::blk g9 (YtiafdlofcjbllaaGreatDoor.c3 u2).toArray 38::L) w:=hs.pm
    refine wpList_nil ⟨rfl,?_⟩
    refine mix_quiet [17] [] hs.only3 (by kernel_rfl) (by kernel_rfl) fun hne=>?_
    simp only[opsAt,List.getElem?_toArray,List.getElem?_cons_succ,List.getElem?_cons_zero]
    try simp only[Act.put,List.setIfInBounds_toArray,List.set_cons_succ,List.set_cons_zero]
    repeat (go_big_quiet_step (fail))
    refine wpQuiet_nil ?_
    clear hne
    refine wpMix_end ?_
    go_wp2
    go_meet
    exact⟨g9,rfl,rfl,hs.pm⟩
   ·skip
    refine⟨_,rfl,?_⟩
    refine wpl_alloc zero3 hs ?_
    clear hs
    intro g9 w hs
    replace hs:St w0 (blk g9 (YtiafdlofcjbllaaGreatDoor.c3 V3.z).toArray 38::_) w:=hs
    replace hs:St w0 (blk M K 59::own (some ⟨gB,0,none⟩) m cB 146 1 P::blk g5 (h2 (i,g)).toArray 40::DsB X t::blk g8 (c3 V3.z).toArray 38::R::blk g9 (YtiafdlofcjbllaaGreatDoor.c3 V3.z).toArray 38::L) w:=hs.pm
    refine wpList_nil ⟨rfl,?_⟩
    refine mix_quiet [] [11,12,13,14,16,17] hs.only3 (by kernel_rfl) (by kernel_rfl) fun hne=>?_
    simp only[opsAt]
    refine wpQuiet_nil ?_
    clear hne
    refine wpMix_next [11] (by kernel_rfl) (by simp) (fun c hc=>?_)
    simp only[List.mem_singleton] at hc
    subst hc
    refine⟨_,rfl,?_⟩
    go_wp2_with (first
     | (go_at_call 91;refine (ds_get hs.up3 HU HB).mono ?_;rintro r w ⟨rfl,hg⟩;replace hs:=hs.grew hg;clear hg))
    refine mix_quiet [12,13,14] [16,17] hs.only3 (by kernel_rfl) (by kernel_rfl) fun hne=>?_
    simp only[opsAt,List.getElem?_toArray,List.getElem?_cons_succ,List.getElem?_cons_zero]
    repeat (go_big_quiet_step (fail))
    refine wpQuiet_nil ?_
    clear hne
    refine wpMix_next [16] (by kernel_rfl) (by simp) (fun c hc=>?_)
    simp only[List.mem_singleton] at hc
    subst hc
    refine⟨_,rfl,?_⟩
    refine wpl_store_agg (v:=val3 u2) rfl rfl (size3 _) (hs.pm (M:=blk g9 (YtiafdlofcjbllaaGreatDoor.c3 V3.z).toArray 38::blk M K 59::own (some ⟨gB,0,none⟩) m cB 146 1 P::blk g5 (h2 (i,g)).toArray 40::DsB X t::blk g8 (c3 V3.z).toArray 38::R::L)) WrA.slot3 ?_
    clear hs
    intro w hs
    replace hs:St w0 (blk M K 59::own (some ⟨gB,0,none⟩) m cB 146 1 P::blk g5 (h2 (i,g)).toArray 40::DsB X t::blk g8 (c3 V3.z).toArray 38::R::blk g9 (YtiafdlofcjbllaaGreatDoor.c3 u2).toArray 38::L) w:=hs.pm
    refine wpList_nil ⟨rfl,?_⟩
    refine mix_quiet [17] [] hs.only3 (by kernel_rfl) (by kernel_rfl) fun hne=>?_
    simp only[opsAt,List.getElem?_toArray,List.getElem?_cons_succ,List.getElem?_cons_zero]
    try simp only[Act.put,List.setIfInBounds_toArray,List.set_cons_succ,List.set_cons_zero]
    repeat (go_big_quiet_step (fail))
    refine wpQuiet_nil ?_
    clear hne
    refine wpMix_end ?_
    go_wp2
    go_meet
    exact⟨g9,rfl,rfl,hs.pm⟩
  case rest=>
  clear hs
  obtain⟨g9,rfl,rfl,hs⟩:=hcut
  cases b2 with
  | true=>
   obtain⟨rfl,rfl⟩:u2=u∧(0:Int)=x:=by
    have:=HR.out;simp only[if_true,Prod.mk.injEq] at this;exact this
   replace hs:St w0 (blk g8 (YtiafdlofcjbllaaGreatDoor.c3 V3.z).toArray 38::blk g9 (YtiafdlofcjbllaaGreatDoor.c3 u2).toArray 38::blk M K 59::own (some ⟨gB,0,none⟩) m cB 146 1 P::blk g5 (h2 (i,g)).toArray 40::DsB X t::R::L) _:=hs.pm
   (go_wp2_with (first
    | (refine wpl_buildS build3 rfl ?_)
    | (refine wpl_load3 (v:=u2) (g:=g9) rfl (has3_tail (has3_slot (t:=38))) agg3 size3n hs ?_)
    | (refine wpl_store_agg (v:=val3 u2) rfl rfl (size3 _) hs WrA.slot3 ?_;clear hs;intro w hs)))
   refine bodyPost_at (results_cell_tmp Tryz.results30 rfl (hs.slot_run agg3 (size3 _))) rfl ?_
   have h5:=hback.out _ _ _ (hs.pm (M:=blk g8 (YtiafdlofcjbllaaGreatDoor.c3 u2).toArray 38::blk g9 (YtiafdlofcjbllaaGreatDoor.c3 u2).toArray 38::blk g5 (h2 (i,g)).toArray 40::blk M K 59::own (some ⟨gB,0,none⟩) m cB 146 1 P::DsB X t::R::L)).drop.drop.drop
   rw[WoS.set_same HJ.out] at h5
   exact⟨rfl,h5⟩
  | false=>
   obtain⟨rfl,rfl⟩:V3.z=u∧(10:Int)=x:=by
    have:=HR.out;simp only[Bool.false_eq_true,if_false,Prod.mk.injEq] at this;exact this
   replace hs:St w0 (blk g8 (YtiafdlofcjbllaaGreatDoor.c3 V3.z).toArray 38::blk g9 (YtiafdlofcjbllaaGreatDoor.c3 u2).toArray 38::blk M K 59::own (some ⟨gB,0,none⟩) m cB 146 1 P::blk g5 (h2 (i,g)).toArray 40::DsB X t::R::L) _:=hs.pm
   (go_wp2_with (first
    | (refine wpl_buildS build3 rfl ?_)
    | (refine wpl_load3 (v:=u2) (g:=g9) rfl (has3_tail (has3_slot (t:=38))) agg3 size3n hs ?_)
    | (refine wpl_store_agg (v:=val3 V3.z) rfl rfl (size3 _) hs WrA.slot3 ?_;clear hs;intro w hs)))
   refine bodyPost_at (results_cell_tmp Tryz.results30 rfl (hs.slot_run agg3 (size3 _))) rfl ?_
   have h5:=hback.out _ _ _ (hs.pm (M:=blk g8 (YtiafdlofcjbllaaGreatDoor.c3 V3.z).toArray 38::blk g9 (YtiafdlofcjbllaaGreatDoor.c3 u2).toArray 38::blk g5 (h2 (i,g)).toArray 40::blk M K 59::own (some ⟨gB,0,none⟩) m cB 146 1 P::DsB X t::R::L)).drop.drop.drop
   rw[WoS.set_same HJ.out] at h5
   exact⟨rfl,h5⟩
 ·have e1:(f==0)=false:=by simpa using h0
  have e2:(f !=0)=true:=by simpa using h0
  have h1:=HV.out
  rw[WoS.get_noD (by rw[HMY.out];exact h0),HMY.out] at h1
  cases h1
  clear HV h0
  obtain⟨i,g⟩:=h
  go_enter Tryz.func30,Tryz.ntmps30
  (go_wp2_with (first
   | (refine wpl_box_v (v:=hv (i,g)) rfl hs ?_;clear hs;intro g5 w hs;replace hs:St w0 (blk g5 (h2 (i,g)).toArray 40::_) w:=hs)
   | (refine wpl_box_v (v:=val3 v) rfl hs ?_;clear hs;intro g7 w hs;replace hs:St w0 (blk g7 (YtiafdlofcjbllaaGreatDoor.c3 v).toArray 38::_) w:=hs)
   | (refine wpl_alloc zero3 hs ?_;clear hs;intro g8 w hs;replace hs:St w0 (blk g8 (YtiafdlofcjbllaaGreatDoor.c3 V3.z).toArray 38::_) w:=hs)
   | (refine wpl_load_agg (cs:=h2 (i,g)) (b:=g5) (o:=0) rfl aggH (sizeHd _) hs ?hh ?_;case hh=>exact fun j x hx=>((Rd.blk (by simpa using hx)).tail))
   | (go_at_call 88;refine (dw_may (h:=(i,g)) hs.up2 HMY).mono ?_;rintro r w ⟨rfl,hg⟩;replace hs:=hs.grew hg;clear hg)
   | (refine wpl_buildS build3 rfl ?_)
   | (refine wpl_store_agg (v:=val3 V3.z) rfl rfl (size3 _) hs WrA.slot3 ?_;clear hs;intro w hs)))
  refine bodyPost_at (results_cell_tmp Tryz.results30 rfl (hs.slot_run agg3 (size3 _))) rfl ?_
  exact⟨rfl,hs.drop.drop⟩
set_option maxHeartbeats 4000000 in
theorem dw_set {w0 w:World} {L:List As} {M:Nat} {s:WoS} (hs:St w0 (DwB M s::L) w) (hev:∀ x∈s.e.l,x.2.evs.length≤4000000000) {h:Hdl} {c:Int} {v:V3} {x:Int} {s':WoS} (HV:Hid (s.set h c v=(x,s'))):
  Calls Tryz.prog 32 #[.pointer (some ⟨M,0,none⟩),hv h, .int .i64 c,val3 v] w fun r w'=>r= .returned (.int .i64 x)∧St w0 (DwB M s'::L) w':=by
 obtain⟨f,HMY⟩:∃ z,Hid (s.mayD false h c=z):=⟨_,rfl⟩
 by_cases h0:f=0
 ·subst h0
  obtain⟨hz1,hz2,j,⟨X,t⟩,rfl,hj⟩:=WoS.mayD_zero HMY.out
  clear hz1 hz2
  have h1:=HV.out
  rw[WoS.set_yes HMY.out rfl hj] at h1
  have hx:=hev _ (List.mem_of_getElem? hj)
  have HEV:Hid (t.evs.length≤4000000000):=hx
  obtain⟨i,g⟩:=h
  obtain⟨t',HT'⟩:∃ z,Hid (t.set i v=z):=⟨_,rfl⟩
  obtain⟨e2,HE⟩:∃ z,Hid (t.errSet i v=z):=⟨_,rfl⟩
  simp only at h1
  rw[HE.out,HT'.out] at h1
  cases h1
  have HJ:=Lib.hid hj
  clear HV hx hev hj
  go_enter Tryz.func32,Tryz.ntmps32
  go_upto_region 4 with (first
   | (refine wpl_box_v (v:=hv (i,g)) rfl hs ?_;clear hs;intro g5 w hs;replace hs:St w0 (blk g5 (h2 (i,g)).toArray 40::_) w:=hs)
   | (refine wpl_box_v (v:=val3 v) rfl hs ?_;clear hs;intro g7 w hs;replace hs:St w0 (blk g7 (YtiafdlofcjbllaaGreatDoor.c3 v).toArray 38::_) w:=hs)
   | (refine wpl_alloc zero3 hs ?_;clear hs;intro g8 w hs;replace hs:St w0 (blk g8 (YtiafdlofcjbllaaGreatDoor.c3 V3.z).toArray 38::_) w:=hs)
   | (refine wpl_load_agg (cs:=h2 (i,g)) (b:=g5) (o:=0) rfl aggH (sizeHd _) hs ?hh ?_;case hh=>exact fun j x hx=>((Rd.blk (by simpa using hx)).tail))
   | (go_at_call 88;refine (dw_may (h:=(i,g)) hs.up2 HMY).mono ?_;rintro r w ⟨rfl,hg⟩;replace hs:=hs.grew hg;clear hg))
  obtain⟨K,gB,m,cB,P,R,hK,hjm,hP,hs,hback⟩:=hs.up2.dwslot HJ.out
  replace hs:St w0 (blk M K 59::own (some ⟨gB,0,none⟩) m cB 146 1 P::blk g5 (h2 (i,g)).toArray 40::blk g7 (c3 v).toArray 38::DsB X t::R::L) _:=hs.pm
  replace hback:=Lib.hid hback
  refine wp_mix 1 [0,1,2,3,4,5,6,7,8,9] [10,11] hs.only4 (by kernel_rfl) (by kernel_rfl) fun hne=>?_
  have r0:=(Rd.blk (w0:=w0) (g:=M) (k:=1) (cs:=K) (t:=59) (L:=[own (some ⟨gB,0,none⟩) m cB 146 1 P,blk g5 (h2 (i,g)).toArray 40,blk g7 (c3 v).toArray 38]) hK).alln
  have r1:=((Rd.own (w0:=w0) (g:=gB) (n:=m) (cap:=cB) (e:=146) (size:=1) (L:=[blk g5 (h2 (i,g)).toArray 40,blk g7 (c3 v).toArray 38]) hP).tail (p:=blk M K 59)).alln
  have r2:=(show Rd w0 [blk M K 59,own (some ⟨gB,0,none⟩) m cB 146 1 P,blk g5 (h2 (i,g)).toArray 40,blk g7 (c3 v).toArray 38] ⟨g5,0,none⟩ (.int .i64 i) from ((Rd.blk rfl).tail).tail).alln
  have r3:=(show Rd w0 [blk M K 59,own (some ⟨gB,0,none⟩) m cB 146 1 P,blk g5 (h2 (i,g)).toArray 40,blk g7 (c3 v).toArray 38] ⟨g7,0,none⟩ (.int .i64 v.k) from (((Rd.blk rfl).tail).tail).tail).alln
  have r4:=(show Rd w0 [blk M K 59,own (some ⟨gB,0,none⟩) m cB 146 1 P,blk g5 (h2 (i,g)).toArray 40,blk g7 (c3 v).toArray 38] ⟨g7,1,none⟩ (.int .i64 v.a) from (((Rd.blk rfl).tail).tail).tail).alln
  have r5:=(show Rd w0 [blk M K 59,own (some ⟨gB,0,none⟩) m cB 146 1 P,blk g5 (h2 (i,g)).toArray 40,blk g7 (c3 v).toArray 38] ⟨g7,2,none⟩ (.int .i64 v.b) from (((Rd.blk rfl).tail).tail).tail).alln
  simp only[opsAt,List.getElem?_toArray,List.getElem?_cons_succ,List.getElem?_cons_zero]
  repeat (go_big_quiet_step (fail))
  refine wpQuiet_nil ?_
  clear hne r0 r1 r2 r3 r4 r5
  replace hs:=hs.drew
  refine wpMix_next [10] (by kernel_rfl) (by simp) (fun c hc=>?_)
  simp only[List.mem_singleton] at hc
  subst hc
  refine⟨_,rfl,?_⟩
  go_wp2_with (first
   | (go_at_call 93;refine (ds_set hs.up4 HEV.out HE HT').mono ?_;clear hs;rintro r w ⟨rfl,hs⟩;replace hs:=hs.dn4))
  replace hs:St w0 (blk M K 59::own (some ⟨gB,0,none⟩) m cB 146 1 P::blk g5 (h2 (i,g)).toArray 40::blk g7 (c3 v).toArray 38::DsB X t'::R::L) w:=hs.pm
  refine mix_quiet [11] [] hs.only4 (by kernel_rfl) (by kernel_rfl) fun hne=>?_
  simp only[opsAt,List.getElem?_toArray,List.getElem?_cons_succ,List.getElem?_cons_zero]
  repeat (go_big_quiet_step (fail))
  refine wpQuiet_nil ?_
  clear hne
  refine wpMix_end ?_
  go_wp2
  go_ret
  exact⟨rfl,hback.out _ _ _ (hs.pm (M:=blk g7 (YtiafdlofcjbllaaGreatDoor.c3 v).toArray 38::blk g5 (h2 (i,g)).toArray 40::blk M K 59::own (some ⟨gB,0,none⟩) m cB 146 1 P::DsB X t'::R::L)).drop.drop⟩
 ·have e1:(f==0)=false:=by simpa using h0
  have e2:(f !=0)=true:=by simpa using h0
  have h1:=HV.out
  rw[WoS.set_noD (by rw[HMY.out];exact h0),HMY.out] at h1
  cases h1
  clear HV h0 hev
  obtain⟨i,g⟩:=h
  go_enter Tryz.func32,Tryz.ntmps32
  (go_wp2_with (first
   | (refine wpl_box_v (v:=hv (i,g)) rfl hs ?_;clear hs;intro g5 w hs;replace hs:St w0 (blk g5 (h2 (i,g)).toArray 40::_) w:=hs)
   | (refine wpl_box_v (v:=val3 v) rfl hs ?_;clear hs;intro g7 w hs;replace hs:St w0 (blk g7 (YtiafdlofcjbllaaGreatDoor.c3 v).toArray 38::_) w:=hs)
   | (refine wpl_alloc zero3 hs ?_;clear hs;intro g8 w hs;replace hs:St w0 (blk g8 (YtiafdlofcjbllaaGreatDoor.c3 V3.z).toArray 38::_) w:=hs)
   | (refine wpl_load_agg (cs:=h2 (i,g)) (b:=g5) (o:=0) rfl aggH (sizeHd _) hs ?hh ?_;case hh=>exact fun j x hx=>((Rd.blk (by simpa using hx)).tail))
   | (go_at_call 88;refine (dw_may (h:=(i,g)) hs.up2 HMY).mono ?_;rintro r w ⟨rfl,hg⟩;replace hs:=hs.grew hg;clear hg)
   | (refine wpl_buildS build3 rfl ?_)
   | (refine wpl_store_agg (v:=val3 V3.z) rfl rfl (size3 _) hs WrA.slot3 ?_;clear hs;intro w hs)))
  go_ret
  exact⟨rfl,hs.drop.drop⟩
end
end Go.Proofs.YtiafdlofcjbllaaGreatDoor
