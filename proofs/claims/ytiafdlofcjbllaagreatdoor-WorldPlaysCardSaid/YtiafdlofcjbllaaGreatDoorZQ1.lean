/-
  WorldPlays: the statements' do, things. (Printed by gen_wp4.py.)
-/
import Derived.Test.YtiafdlofcjbllaaGreatDoorZP4
set_option maxRecDepth 100000
namespace Go.Proofs.YtiafdlofcjbllaaGreatDoor
section
open Go Go.RowKit
attribute [local irreducible] wpList Calls Code.wp stV EnS.live EnS.slot WoS.cmpD WoS.mayD mayR rgP padA okI okN pS tS memS getG pG insS delS getV pV tV okVal newSl SlS.put SlS.err SlS.putU SlS.putB descE SlS.take SlS.set SlS.errSet SlS.get SlS.has EnS.ins EnS.set EnS.rem EnS.get EnS.parts EnS.del WoS.ins WoS.rem WoS.get WoS.set WoS.del WoS.create WoS.give WoS.defer WoS.maint WoS.reader WoS.read ofN strL delA newA giveV allH idxS hsV nsV mergeA newE lagE
section
variable {w0 w:World} {L:List As} {W E A R X Q n M AP m k na ca:Nat} {Ba:Option Addr} {all:List Hdl} {s t:WoS} {o:OpV} {g7 g9 g10:Nat} {hd:Hdl} {v:V3} {u52 u53 u54 u55 u56 u57 u58 u59:Value}
set_option maxHeartbeats 8000000 in
theorem do_create (ok:o.k=0):
  DoArm w0 w L W E A R X Q n M AP m k na ca Ba all s t o g7 g9 g10 hd v u52 u53 u54 u55 u56 u57 u58 u59:=by
 intro hT hk9 hm8 HP hna HNA hs K K1 hK1 hK
 have d0:(o.k==0)=true:=by simp[ok]
 have d1:(o.k==1)=false:=by simp[ok]
 clear ok
 unfold frDo
 have f0:World.cell? _ ⟨g7,0,none⟩=some (.int .i64 o.k):=Rd.blk (by rfl) _ hs
 conv=>arg 2;whnf
 go_wp2
 conv=>arg 2;whnf
 obtain⟨⟨nh,e,s'⟩,HI⟩:∃ z,Hid (s.create=z):=⟨_,rfl⟩
 obtain⟨t',ht,hp'⟩:=HP.out.create HI.out
 have HT':=Lib.hid ht
 have HP':=Lib.hid hp'
 clear ht hp'
 replace hs:St w0 (WoB W E A R X Q n s::blk g7 (c9o o).toArray 138::blk g9 (h2 hd).toArray 40::blk g10 (YtiafdlofcjbllaaGreatDoor.c3 v).toArray 38::DwB M t::blk AP #[.slice Ba na ca] 36::own Ba na ca 40 2 (hsV all)::L) _:=hs.pm
 go_upto_region 10 with (first
  | (go_at_call 52;refine (wo_create hT hs HI).mono ?_;clear hs f0;rintro r w ⟨rfl,hs⟩)
  | (refine wpl_alloc zeroH hs ?_;clear hs;intro g13 w hs)
  | (refine wpl_store_agg (v:=hv nh) rfl rfl (sizeHd _) hs WrA.slotH ?_;clear hs;intro w hs))
 replace hs:St w0 (DwB M t::blk g13 (h2 nh).toArray 40::blk g7 (c9o o).toArray 138::blk g9 (h2 hd).toArray 40::blk g10 (YtiafdlofcjbllaaGreatDoor.c3 v).toArray 38::WoB W E A R X Q n s'::blk AP #[.slice Ba na ca] 36::own Ba na ca 40 2 (hsV all)::L) _:=hs.pm
 go_upto_region 11 with (first
  | (go_at_call 20;refine (dw_create hs HT').mono ?_;clear hs;rintro r w ⟨rfl,hs⟩)
  | (refine wpl_alloc zeroH hs ?_;clear hs;intro g15 w hs)
  | (refine wpl_store_agg (v:=hv nh) rfl rfl (sizeHd _) hs WrA.slotH ?_;clear hs;intro w hs))
 replace hs:St w0 (blk AP #[.slice Ba na ca] 36::blk g15 (h2 nh).toArray 40::blk g13 (h2 nh).toArray 40::blk g7 (c9o o).toArray 138::blk g9 (h2 hd).toArray 40::blk g10 (YtiafdlofcjbllaaGreatDoor.c3 v).toArray 38::WoB W E A R X Q n s'::DwB M t'::own Ba na ca 40 2 (hsV all)::L) _:=hs.pm
 have p0:World.cell? _ ⟨g15,0,none⟩=some (.int .i64 nh.1):=Rd.blk (by rfl) _ hs.drop
 have p1:World.cell? _ ⟨g15,1,none⟩=some (.int .i64 nh.2):=Rd.blk (by rfl) _ hs.drop
 have q0:World.cell? _ ⟨g13,0,none⟩=some (.int .i64 nh.1):=Rd.blk (by rfl) _ hs.drop.drop
 have q1:World.cell? _ ⟨g13,1,none⟩=some (.int .i64 nh.2):=Rd.blk (by rfl) _ hs.drop.drop
 by_cases he0:e=0
 ·subst he0
  have HHV:Hid (hsV all++h2 nh=hsV (all++[nh])):=by rw[Hid];unfold hsV;simp
  have HNA':Hid ((all++[nh]).length=na+1):=by rw[Hid,List.length_append,HNA.out];rfl
  clear p0 p1 q0 q1
  go_upto_region 12 with (fail)
  refine wp_region_plain [false,false,false,false,false,true,true,false,true] hs.only2 (by kernel_rfl) (by kernel_rfl) fun hne=>?_
  have r0:=(show Rd w0 [blk AP #[.slice Ba na ca] 36,blk g15 (h2 nh).toArray 40] ⟨AP,0,none⟩ (.slice Ba na ca) from Rd.blk rfl).alln
  have r1:=(show Rd w0 [blk AP #[.slice Ba na ca] 36,blk g15 (h2 nh).toArray 40] ⟨g15,0,none⟩ (.int .i64 nh.1) from (Rd.blk rfl).tail).alln
  have r2:=(show Rd w0 [blk AP #[.slice Ba na ca] 36,blk g15 (h2 nh).toArray 40] ⟨g15,1,none⟩ (.int .i64 nh.2) from (Rd.blk rfl).tail).alln
  simp only[pickOps]
  repeat (go_big_quiet_step (fail))
  refine wpQuiet_nil ?_
  clear hne r0 r1 r2
  simp only[chainIx]
  replace hs:=hs.drew
  refine wpChainP_next rfl ?_
  (go_wp2_with (first
   | (refine wpl_build1 (v:=hv nh) elemHp (by decide) rfl rfl hs ?_;clear hs;intro G7 w hs;replace hs:St w0 (blk G7 (h2 nh).toArray 40::_) w:=hs)))
  refine⟨hs.drop.only2,?_⟩
  refine wpChainP_next rfl ?_
  (go_wp2_with (first
   | (refine wpl_append (A:=Ba) (n:=na) (cap:=ca) (xs:=hsV all) (m:=1) (news:=h2 nh) elemHp rfl rfl hs (L':=blk G7 (h2 nh).toArray 40::blk AP #[.slice Ba na ca] 36::blk g15 (h2 nh).toArray 40::blk g13 (h2 nh).toArray 40::blk g7 (c9o o).toArray 138::blk g9 (h2 hd).toArray 40::blk g10 (YtiafdlofcjbllaaGreatDoor.c3 v).toArray 38::WoB W E A R X Q n s'::DwB M t'::L) (EP.ent (by repeat constructor)) RdS.blk rfl (h2_one nh) (by unfold maxLen;omega) (by omega) ?_;clear hs;intro B8 c8 w hs;rw[HHV.out] at hs)))
  replace hs:St w0 (blk AP #[.slice Ba na ca] 36::blk g15 (h2 nh).toArray 40::blk G7 (h2 nh).toArray 40::blk g13 (h2 nh).toArray 40::blk g7 (c9o o).toArray 138::blk g9 (h2 hd).toArray 40::blk g10 (YtiafdlofcjbllaaGreatDoor.c3 v).toArray 38::WoB W E A R X Q n s'::DwB M t'::own B8 (na+1) c8 40 2 (hsV (all++[nh]))::L) _:=hs.pm
  refine⟨hs.only2,?_⟩
  refine wpChain_last rfl ?_
  refine wpl_store (v:= .slice B8 (na+1) c8) rfl rfl rfl size_sh hs Wr.sl1 ?_
  clear hs
  intro w hs
  refine wpList_nil ⟨rfl,?_⟩
  have p0:World.cell? _ ⟨g15,0,none⟩=some (.int .i64 nh.1):=Rd.blk (by rfl) _ hs.drop
  have p1:World.cell? _ ⟨g15,1,none⟩=some (.int .i64 nh.2):=Rd.blk (by rfl) _ hs.drop
  have q0:World.cell? _ ⟨g13,0,none⟩=some (.int .i64 nh.1):=Rd.blk (by rfl) _ hs.drop.drop.drop
  have q1:World.cell? _ ⟨g13,1,none⟩=some (.int .i64 nh.2):=Rd.blk (by rfl) _ hs.drop.drop.drop
  go_wp2
  go_ret
  exact⟨rfl,na+1,c8,B8,all++[nh],s',t',by omega,HNA',HP',(hs.pm (M:=blk G7 (h2 nh).toArray 40::blk g15 (h2 nh).toArray 40::blk g13 (h2 nh).toArray 40::blk g7 (c9o o).toArray 138::blk g9 (h2 hd).toArray 40::blk g10 (YtiafdlofcjbllaaGreatDoor.c3 v).toArray 38::WoB W E A R X Q n s'::DwB M t'::blk AP #[.slice B8 (na+1) c8] 36::own B8 (na+1) c8 40 2 (hsV (all++[nh]))::L)).drop.drop.drop.drop.drop.drop⟩
 ·have e1:(e==0)=false:=by simpa using he0
  clear he0
  go_wp2
  go_ret
  exact⟨rfl,na,ca,Ba,all,s',t',by omega,HNA,HP',(hs.pm (M:=blk g15 (h2 nh).toArray 40::blk g13 (h2 nh).toArray 40::blk g7 (c9o o).toArray 138::blk g9 (h2 hd).toArray 40::blk g10 (YtiafdlofcjbllaaGreatDoor.c3 v).toArray 38::WoB W E A R X Q n s'::DwB M t'::blk AP #[.slice Ba na ca] 36::own Ba na ca 40 2 (hsV all)::L)).drop.drop.drop.drop.drop⟩
set_option maxHeartbeats 8000000 in
theorem do_raise (ok:o.k=1):
  DoArm w0 w L W E A R X Q n M AP m k na ca Ba all s t o g7 g9 g10 hd v u52 u53 u54 u55 u56 u57 u58 u59:=by
 intro hT hk9 hm8 HP hna HNA hs K K1 hK1 hK
 have d0:(o.k==0)=false:=by simp[ok]
 have d1:(o.k==1)=true:=by simp[ok]
 clear ok
 unfold frDo
 have f0:World.cell? _ ⟨g7,0,none⟩=some (.int .i64 o.k):=Rd.blk (by rfl) _ hs
 conv=>arg 2;whnf
 go_wp2
 conv=>arg 2;whnf
 obtain⟨⟨nh,e,s'⟩,HI⟩:∃ z,Hid (s.give 2=z):=⟨_,rfl⟩
 obtain⟨t',ht,hp'⟩:=HP.out.give 2 HI.out
 have HP':=Lib.hid hp'
 clear hp'
 have kW:World.cell? _ ⟨W,0,none⟩=some (.pointer (some ⟨E,0,none⟩)):=Rd.wo0 _ hs.drop.drop.drop
 have kE:World.cell? _ ⟨E,0,none⟩=some (.pointer (some ⟨A,0,none⟩)):=Rd.woe0 _ hs.drop.drop.drop
 replace hs:St w0 (DwB M t::blk g7 (c9o o).toArray 138::blk g9 (h2 hd).toArray 40::blk g10 (YtiafdlofcjbllaaGreatDoor.c3 v).toArray 38::WoB W E A R X Q n s::blk AP #[.slice Ba na ca] 36::own Ba na ca 40 2 (hsV all)::L) _:=hs.pm
 obtain⟨K,A3,n3,c3',R3,hK0,_,hpad,hs,hback⟩:=hs.dwal
 have k3:=Rd.blk hK0 _ hs
 obtain⟨⟨nh2,e2,cs'⟩,HG2⟩:∃ z,Hid (giveV 2 t.e.cs=z):=⟨_,rfl⟩
 have ht2:=ht
 unfold WoS.give at ht2
 rw[HG2.out] at ht2
 injection ht2 with i1 ht2
 injection ht2 with i2 i3
 subst i1;subst i2
 have HG3:Hid (giveV 2 (padA n3 c3')=(nh2,e2,cs')):=by rw[Hid,hpad];exact HG2.out
 have HB:Hid (∀ (c':List ACell) (w':World) (L':List As),padA n3 c'=cs'→St w0 (blk M K 59::RaB A3 n3 t.e.top c'::R3::L') w'→St w0 (DwB M t'::L') w'):=fun c' w' L' hp h=>by
  rw[← i3];exact hback c' _ w' L' hp h
 clear hpad hback hK0 ht i3 HG2
 replace hs:St w0 (WoB W E A R X Q n s::blk M K 59::RaB A3 n3 t.e.top c3'::R3::blk g7 (c9o o).toArray 138::blk g9 (h2 hd).toArray 40::blk g10 (YtiafdlofcjbllaaGreatDoor.c3 v).toArray 38::blk AP #[.slice Ba na ca] 36::own Ba na ca 40 2 (hsV all)::L) _:=hs.pm
 go_upto_region 8 with (fail)
 refine wp_region_grow (by kernel_rfl) (by kernel_rfl) fun hne=>?_
 have r0:=fun p:GW _=>p.grew.cell kW
 have r1:=fun p:GW _=>p.grew.cell kE
 have r2:=fun p:GW _=>p.grew.cell k3
 repeat (go_big_quiet_step (fail))
 refine wpQuiet_nil ?_
 clear hne r0 r1 r2 kW kE k3 f0
 intro u hu
 replace hs:=hs.grew hu
 clear hu
 go_upto_region 10 with (first
  | (go_at_call 21;refine (wo_raise hT hs HI).mono ?_;clear hs;rintro r w ⟨rfl,hs⟩)
  | (refine wpl_alloc zeroH hs ?_;clear hs;intro g13 w hs)
  | (refine wpl_store_agg (v:=hv nh2) rfl rfl (sizeHd _) hs WrA.slotH ?_;clear hs;intro w hs))
 replace hs:St w0 (RaB A3 n3 t.e.top c3'::blk g13 (h2 nh2).toArray 40::blk M K 59::R3::blk g7 (c9o o).toArray 138::blk g9 (h2 hd).toArray 40::blk g10 (YtiafdlofcjbllaaGreatDoor.c3 v).toArray 38::WoB W E A R X Q n s'::blk AP #[.slice Ba na ca] 36::own Ba na ca 40 2 (hsV all)::L) _:=hs.pm
 go_upto_region 11 with (first
  | (go_at_call 22;refine (raise_r hs HG3).mono ?_;clear hs;rintro r w ⟨c6,hp6,rfl,hs⟩;replace hs:=HB.out c6 _ _ hp6 (hs.pm (M:=blk M K 59::RaB A3 n3 t.e.top c6::R3::blk g13 (h2 nh2).toArray 40::blk g7 (c9o o).toArray 138::blk g9 (h2 hd).toArray 40::blk g10 (YtiafdlofcjbllaaGreatDoor.c3 v).toArray 38::WoB W E A R X Q n s'::blk AP #[.slice Ba na ca] 36::own Ba na ca 40 2 (hsV all)::L));clear hp6)
  | (refine wpl_alloc zeroH hs ?_;clear hs;intro g15 w hs)
  | (refine wpl_store_agg (v:=hv nh2) rfl rfl (sizeHd _) hs WrA.slotH ?_;clear hs;intro w hs))
 replace hs:St w0 (blk AP #[.slice Ba na ca] 36::blk g15 (h2 nh2).toArray 40::blk g13 (h2 nh2).toArray 40::blk g7 (c9o o).toArray 138::blk g9 (h2 hd).toArray 40::blk g10 (YtiafdlofcjbllaaGreatDoor.c3 v).toArray 38::WoB W E A R X Q n s'::DwB M t'::own Ba na ca 40 2 (hsV all)::L) _:=hs.pm
 have p0:World.cell? _ ⟨g15,0,none⟩=some (.int .i64 nh2.1):=Rd.blk (by rfl) _ hs.drop
 have p1:World.cell? _ ⟨g15,1,none⟩=some (.int .i64 nh2.2):=Rd.blk (by rfl) _ hs.drop
 have q0:World.cell? _ ⟨g13,0,none⟩=some (.int .i64 nh2.1):=Rd.blk (by rfl) _ hs.drop.drop
 have q1:World.cell? _ ⟨g13,1,none⟩=some (.int .i64 nh2.2):=Rd.blk (by rfl) _ hs.drop.drop
 by_cases he0:e2=0
 ·subst he0
  have HHV:Hid (hsV all++h2 nh2=hsV (all++[nh2])):=by rw[Hid];unfold hsV;simp
  have HNA':Hid ((all++[nh2]).length=na+1):=by rw[Hid,List.length_append,HNA.out];rfl
  clear p0 p1 q0 q1
  go_upto_region 12 with (fail)
  refine wp_region_plain [false,false,false,false,false,true,true,false,true] hs.only2 (by kernel_rfl) (by kernel_rfl) fun hne=>?_
  have r0:=(show Rd w0 [blk AP #[.slice Ba na ca] 36,blk g15 (h2 nh2).toArray 40] ⟨AP,0,none⟩ (.slice Ba na ca) from Rd.blk rfl).alln
  have r1:=(show Rd w0 [blk AP #[.slice Ba na ca] 36,blk g15 (h2 nh2).toArray 40] ⟨g15,0,none⟩ (.int .i64 nh2.1) from (Rd.blk rfl).tail).alln
  have r2:=(show Rd w0 [blk AP #[.slice Ba na ca] 36,blk g15 (h2 nh2).toArray 40] ⟨g15,1,none⟩ (.int .i64 nh2.2) from (Rd.blk rfl).tail).alln
  simp only[pickOps]
  repeat (go_big_quiet_step (fail))
  refine wpQuiet_nil ?_
  clear hne r0 r1 r2
  simp only[chainIx]
  replace hs:=hs.drew
  refine wpChainP_next rfl ?_
  (go_wp2_with (first
   | (refine wpl_build1 (v:=hv nh2) elemHp (by decide) rfl rfl hs ?_;clear hs;intro G7 w hs;replace hs:St w0 (blk G7 (h2 nh2).toArray 40::_) w:=hs)))
  refine⟨hs.drop.only2,?_⟩
  refine wpChainP_next rfl ?_
  (go_wp2_with (first
   | (refine wpl_append (A:=Ba) (n:=na) (cap:=ca) (xs:=hsV all) (m:=1) (news:=h2 nh2) elemHp rfl rfl hs (L':=blk G7 (h2 nh2).toArray 40::blk AP #[.slice Ba na ca] 36::blk g15 (h2 nh2).toArray 40::blk g13 (h2 nh2).toArray 40::blk g7 (c9o o).toArray 138::blk g9 (h2 hd).toArray 40::blk g10 (YtiafdlofcjbllaaGreatDoor.c3 v).toArray 38::WoB W E A R X Q n s'::DwB M t'::L) (EP.ent (by repeat constructor)) RdS.blk rfl (h2_one nh2) (by unfold maxLen;omega) (by omega) ?_;clear hs;intro B8 c8 w hs;rw[HHV.out] at hs)))
  replace hs:St w0 (blk AP #[.slice Ba na ca] 36::blk g15 (h2 nh2).toArray 40::blk G7 (h2 nh2).toArray 40::blk g13 (h2 nh2).toArray 40::blk g7 (c9o o).toArray 138::blk g9 (h2 hd).toArray 40::blk g10 (YtiafdlofcjbllaaGreatDoor.c3 v).toArray 38::WoB W E A R X Q n s'::DwB M t'::own B8 (na+1) c8 40 2 (hsV (all++[nh2]))::L) _:=hs.pm
  refine⟨hs.only2,?_⟩
  refine wpChain_last rfl ?_
  refine wpl_store (v:= .slice B8 (na+1) c8) rfl rfl rfl size_sh hs Wr.sl1 ?_
  clear hs
  intro w hs
  refine wpList_nil ⟨rfl,?_⟩
  have p0:World.cell? _ ⟨g15,0,none⟩=some (.int .i64 nh2.1):=Rd.blk (by rfl) _ hs.drop
  have p1:World.cell? _ ⟨g15,1,none⟩=some (.int .i64 nh2.2):=Rd.blk (by rfl) _ hs.drop
  have q0:World.cell? _ ⟨g13,0,none⟩=some (.int .i64 nh2.1):=Rd.blk (by rfl) _ hs.drop.drop.drop
  have q1:World.cell? _ ⟨g13,1,none⟩=some (.int .i64 nh2.2):=Rd.blk (by rfl) _ hs.drop.drop.drop
  go_wp2
  go_ret
  exact⟨rfl,na+1,c8,B8,all++[nh2],s',t',by omega,HNA',HP',(hs.pm (M:=blk G7 (h2 nh2).toArray 40::blk g15 (h2 nh2).toArray 40::blk g13 (h2 nh2).toArray 40::blk g7 (c9o o).toArray 138::blk g9 (h2 hd).toArray 40::blk g10 (YtiafdlofcjbllaaGreatDoor.c3 v).toArray 38::WoB W E A R X Q n s'::DwB M t'::blk AP #[.slice B8 (na+1) c8] 36::own B8 (na+1) c8 40 2 (hsV (all++[nh2]))::L)).drop.drop.drop.drop.drop.drop⟩
 ·have e1:(e2==0)=false:=by simpa using he0
  clear he0
  go_wp2
  go_ret
  exact⟨rfl,na,ca,Ba,all,s',t',by omega,HNA,HP',(hs.pm (M:=blk g15 (h2 nh2).toArray 40::blk g13 (h2 nh2).toArray 40::blk g7 (c9o o).toArray 138::blk g9 (h2 hd).toArray 40::blk g10 (YtiafdlofcjbllaaGreatDoor.c3 v).toArray 38::WoB W E A R X Q n s'::DwB M t'::blk AP #[.slice Ba na ca] 36::own Ba na ca 40 2 (hsV all)::L)).drop.drop.drop.drop.drop⟩
set_option maxHeartbeats 8000000 in
theorem do_del (ok:o.k=2):
  DoArm w0 w L W E A R X Q n M AP m k na ca Ba all s t o g7 g9 g10 hd v u52 u53 u54 u55 u56 u57 u58 u59:=by
 intro hT hk9 hm8 HP hna HNA hs K K1 hK1 hK
 have d0:(o.k==0)=false:=by simp[ok]
 have d1:(o.k==1)=false:=by simp[ok]
 have d2:(o.k==2)=true:=by simp[ok]
 clear ok
 unfold frDo
 have f0:World.cell? _ ⟨g7,0,none⟩=some (.int .i64 o.k):=Rd.blk (by rfl) _ hs
 conv=>arg 2;whnf
 go_wp2
 conv=>arg 2;whnf
 obtain⟨⟨nn,e,s'⟩,HI⟩:∃ z,Hid (s.del hd=z):=⟨_,rfl⟩
 obtain⟨t',ht,hp'⟩:=HP.out.del HI.out
 have HT':=Lib.hid ht
 have HP':=Lib.hid hp'
 clear ht hp'
 have HLN:Hid (t.e.l.length≤1000):=by rw[Hid,HP.out.lent];omega
 replace hs:St w0 (WoB W E A R X Q n s::blk g7 (c9o o).toArray 138::blk g9 (h2 hd).toArray 40::blk g10 (YtiafdlofcjbllaaGreatDoor.c3 v).toArray 38::DwB M t::blk AP #[.slice Ba na ca] 36::own Ba na ca 40 2 (hsV all)::L) _:=hs.pm
 go_upto_region 16 with (first
  | (refine wpl_load_agg (cs:=h2 hd) (b:=g9) (o:=0) rfl aggH (sizeHd _) hs ?hh ?_;case hh=>exact fun j x hx=>(((Rd.blk (by simpa using hx))).tail).tail)
  | (go_at_call 61;refine (wo_del (h:=hd) hs (fun x hx=>by have:=HP.out.ev x hx;omega) HI).mono ?_;clear hs f0;rintro r w ⟨rfl,hs⟩))
 replace hs:St w0 (DwB M t::blk g7 (c9o o).toArray 138::blk g9 (h2 hd).toArray 40::blk g10 (YtiafdlofcjbllaaGreatDoor.c3 v).toArray 38::WoB W E A R X Q n s'::blk AP #[.slice Ba na ca] 36::own Ba na ca 40 2 (hsV all)::L) _:=hs.pm
 go_upto_region 17 with (first
  | (refine wpl_load_agg (cs:=h2 hd) (b:=g9) (o:=0) rfl aggH (sizeHd _) hs ?hh ?_;case hh=>exact fun j x hx=>(((Rd.blk (by simpa using hx))).tail).tail)
  | (go_at_call 24;refine (dw_del (h:=hd) hs (fun x hx=>by have:=HP.out.evt x hx;omega) HLN.out HT').mono ?_;clear hs;rintro r w ⟨rfl,hs⟩))
 go_wp2
 go_ret
 exact⟨rfl,na,ca,Ba,all,s',t',by omega,HNA,HP',(hs.pm (M:=blk g7 (c9o o).toArray 138::blk g9 (h2 hd).toArray 40::blk g10 (YtiafdlofcjbllaaGreatDoor.c3 v).toArray 38::WoB W E A R X Q n s'::DwB M t'::blk AP #[.slice Ba na ca] 36::own Ba na ca 40 2 (hsV all)::L)).drop.drop.drop⟩
end
end
end Go.Proofs.YtiafdlofcjbllaaGreatDoor
