/-
  WorldPlays: the statements' do, parts. (Printed by gen_wp4.py.)
-/
import Derived.Test.YtiafdlofcjbllaaGreatDoorZP4
set_option maxRecDepth 100000
namespace Go.Proofs.YtiafdlofcjbllaaGreatDoor
section
open Go Go.RowKit
attribute [local irreducible] wpList Calls Code.wp stV EnS.live EnS.slot WoS.cmpD WoS.mayD mayR rgP padA okI okN pS tS memS getG pG insS delS getV pV tV okVal newSl SlS.put SlS.err SlS.putU SlS.putB descE SlS.take SlS.set SlS.errSet SlS.get SlS.has EnS.ins EnS.set EnS.rem EnS.get EnS.parts EnS.del WoS.ins WoS.rem WoS.get WoS.set WoS.del WoS.create WoS.give WoS.defer WoS.maint WoS.reader WoS.read ofN strL delA newA giveV allH idxS hsV nsV mergeA newE lagE
section
variable {w0 w:World} {L:List As} {W E A R X Q n M AP m k na ca:Nat} {Ba:Option Addr} {all:List Hdl} {s t:WoS} {o:OpV} {g7 g9 g10:Nat} {hd:Hdl} {v:V3} {u52 u53 u54 u55 u56 u57 u58 u59:Value}
set_option maxHeartbeats 8000000 in
theorem do_ins (ok:o.k=3):
  DoArm w0 w L W E A R X Q n M AP m k na ca Ba all s t o g7 g9 g10 hd v u52 u53 u54 u55 u56 u57 u58 u59:=by
 intro hT hk9 hm8 HP hna HNA hs K K1 hK1 hK
 have d0:(o.k==0)=false:=by simp[ok]
 have d1:(o.k==1)=false:=by simp[ok]
 have d2:(o.k==2)=false:=by simp[ok]
 have d3:(o.k==3)=true:=by simp[ok]
 clear ok
 unfold frDo
 have f0:World.cell? _ ⟨g7,0,none⟩=some (.int .i64 o.k):=Rd.blk (by rfl) _ hs
 conv=>arg 2;whnf
 go_wp2
 conv=>arg 2;whnf
 obtain⟨⟨u,bb,e,s'⟩,HI⟩:∃ z,Hid (s.ins hd o.c v=z):=⟨_,rfl⟩
 obtain⟨t',ht,hp'⟩:=HP.out.ins HI.out
 have HT':=Lib.hid ht
 have HP':=Lib.hid hp'
 clear ht hp'
 replace hs:St w0 (WoB W E A R X Q n s::blk g7 (c9o o).toArray 138::blk g9 (h2 hd).toArray 40::blk g10 (YtiafdlofcjbllaaGreatDoor.c3 v).toArray 38::DwB M t::blk AP #[.slice Ba na ca] 36::own Ba na ca 40 2 (hsV all)::L) _:=hs.pm
 have f2:World.cell? _ ⟨g7,2,none⟩=some (.int .i64 o.c):=Rd.blk (by rfl) _ hs.drop
 go_upto_region 20 with (first
  | (refine wpl_load_agg (cs:=h2 hd) (b:=g9) (o:=0) rfl aggH (sizeHd _) hs ?hh ?_;case hh=>exact fun j x hx=>(((Rd.blk (by simpa using hx))).tail).tail)
  | (refine wpl_load3 (v:=v) (g:=g10) rfl (has3_tail (has3_tail (has3_tail (has3_slot (t:=38))))) agg3 size3n hs ?_)
  | (go_at_call 63;refine (wo_ins (h:=hd) hs (fun x hx=>by have:=HP.out.ev x hx;omega) HI).mono ?_;clear hs f0 f2;rintro r w ⟨rfl,hs⟩)
  | (refine wpl_alloc zero3 hs ?_;clear hs;intro g21 w hs)
  | (refine wpl_store_agg (v:=val3 u) rfl rfl (size3 _) hs WrA.slot3 ?_;clear hs;intro w hs))
 replace hs:St w0 (DwB M t::blk g7 (c9o o).toArray 138::blk g9 (h2 hd).toArray 40::blk g10 (YtiafdlofcjbllaaGreatDoor.c3 v).toArray 38::blk g21 (YtiafdlofcjbllaaGreatDoor.c3 u).toArray 38::WoB W E A R X Q n s'::blk AP #[.slice Ba na ca] 36::own Ba na ca 40 2 (hsV all)::L) _:=hs.pm
 have f2:World.cell? _ ⟨g7,2,none⟩=some (.int .i64 o.c):=Rd.blk (by rfl) _ hs.drop
 go_upto_region 21 with (first
  | (refine wpl_load_agg (cs:=h2 hd) (b:=g9) (o:=0) rfl aggH (sizeHd _) hs ?hh ?_;case hh=>exact fun j x hx=>(((Rd.blk (by simpa using hx))).tail).tail)
  | (refine wpl_load3 (v:=v) (g:=g10) rfl (has3_tail (has3_tail (has3_tail (has3_slot (t:=38))))) agg3 size3n hs ?_)
  | (go_at_call 26;refine (dw_ins (h:=hd) hs (fun x hx=>by have:=HP.out.evt x hx;omega) HT').mono ?_;clear hs f2;rintro r w ⟨rfl,hs⟩)
  | (refine wpl_alloc zero3 hs ?_;clear hs;intro g24 w hs)
  | (refine wpl_store_agg (v:=val3 u) rfl rfl (size3 _) hs WrA.slot3 ?_;clear hs;intro w hs))
 replace hs:St w0 (blk g24 (YtiafdlofcjbllaaGreatDoor.c3 u).toArray 38::blk g21 (YtiafdlofcjbllaaGreatDoor.c3 u).toArray 38::blk g7 (c9o o).toArray 138::blk g9 (h2 hd).toArray 40::blk g10 (YtiafdlofcjbllaaGreatDoor.c3 v).toArray 38::WoB W E A R X Q n s'::DwB M t'::blk AP #[.slice Ba na ca] 36::own Ba na ca 40 2 (hsV all)::L) _:=hs.pm
 obtain⟨p0,p1,p2⟩:=Has3.facts (has3_slot (g:=g24) (v:=u) (t:=38)) hs
 obtain⟨q0,q1,q2⟩:=Has3.facts (has3_tail (has3_slot (g:=g21) (v:=u) (t:=38))) hs
 go_wp2
 go_ret
 exact⟨rfl,na,ca,Ba,all,s',t',by omega,HNA,HP',(hs.pm (M:=blk g24 (YtiafdlofcjbllaaGreatDoor.c3 u).toArray 38::blk g21 (YtiafdlofcjbllaaGreatDoor.c3 u).toArray 38::blk g7 (c9o o).toArray 138::blk g9 (h2 hd).toArray 40::blk g10 (YtiafdlofcjbllaaGreatDoor.c3 v).toArray 38::WoB W E A R X Q n s'::DwB M t'::blk AP #[.slice Ba na ca] 36::own Ba na ca 40 2 (hsV all)::L)).drop.drop.drop.drop.drop⟩
set_option maxHeartbeats 8000000 in
theorem do_rem (ok:o.k=4):
  DoArm w0 w L W E A R X Q n M AP m k na ca Ba all s t o g7 g9 g10 hd v u52 u53 u54 u55 u56 u57 u58 u59:=by
 intro hT hk9 hm8 HP hna HNA hs K K1 hK1 hK
 have d0:(o.k==0)=false:=by simp[ok]
 have d1:(o.k==1)=false:=by simp[ok]
 have d2:(o.k==2)=false:=by simp[ok]
 have d3:(o.k==3)=false:=by simp[ok]
 have d4:(o.k==4)=true:=by simp[ok]
 clear ok
 unfold frDo
 have f0:World.cell? _ ⟨g7,0,none⟩=some (.int .i64 o.k):=Rd.blk (by rfl) _ hs
 conv=>arg 2;whnf
 go_wp2
 conv=>arg 2;whnf
 obtain⟨⟨u,e,s'⟩,HI⟩:∃ z,Hid (s.rem hd o.c=z):=⟨_,rfl⟩
 obtain⟨t',ht,hp'⟩:=HP.out.rem HI.out
 have HT':=Lib.hid ht
 have HP':=Lib.hid hp'
 clear ht hp'
 replace hs:St w0 (WoB W E A R X Q n s::blk g7 (c9o o).toArray 138::blk g9 (h2 hd).toArray 40::blk g10 (YtiafdlofcjbllaaGreatDoor.c3 v).toArray 38::DwB M t::blk AP #[.slice Ba na ca] 36::own Ba na ca 40 2 (hsV all)::L) _:=hs.pm
 have f2:World.cell? _ ⟨g7,2,none⟩=some (.int .i64 o.c):=Rd.blk (by rfl) _ hs.drop
 go_upto_region 24 with (first
  | (refine wpl_load_agg (cs:=h2 hd) (b:=g9) (o:=0) rfl aggH (sizeHd _) hs ?hh ?_;case hh=>exact fun j x hx=>(((Rd.blk (by simpa using hx))).tail).tail)
  | (go_at_call 64;refine (wo_rem (h:=hd) hs (fun x hx=>by have:=HP.out.ev x hx;omega) HI).mono ?_;clear hs f0 f2;rintro r w ⟨rfl,hs⟩)
  | (refine wpl_alloc zero3 hs ?_;clear hs;intro g27 w hs)
  | (refine wpl_store_agg (v:=val3 u) rfl rfl (size3 _) hs WrA.slot3 ?_;clear hs;intro w hs))
 replace hs:St w0 (DwB M t::blk g7 (c9o o).toArray 138::blk g9 (h2 hd).toArray 40::blk g10 (YtiafdlofcjbllaaGreatDoor.c3 v).toArray 38::blk g27 (YtiafdlofcjbllaaGreatDoor.c3 u).toArray 38::WoB W E A R X Q n s'::blk AP #[.slice Ba na ca] 36::own Ba na ca 40 2 (hsV all)::L) _:=hs.pm
 have f2:World.cell? _ ⟨g7,2,none⟩=some (.int .i64 o.c):=Rd.blk (by rfl) _ hs.drop
 go_upto_region 25 with (first
  | (refine wpl_load_agg (cs:=h2 hd) (b:=g9) (o:=0) rfl aggH (sizeHd _) hs ?hh ?_;case hh=>exact fun j x hx=>(((Rd.blk (by simpa using hx))).tail).tail)
  | (go_at_call 28;refine (dw_rem (h:=hd) hs (fun x hx=>by have:=HP.out.evt x hx;omega) HT').mono ?_;clear hs f2;rintro r w ⟨rfl,hs⟩)
  | (refine wpl_alloc zero3 hs ?_;clear hs;intro g29 w hs)
  | (refine wpl_store_agg (v:=val3 u) rfl rfl (size3 _) hs WrA.slot3 ?_;clear hs;intro w hs))
 replace hs:St w0 (blk g29 (YtiafdlofcjbllaaGreatDoor.c3 u).toArray 38::blk g27 (YtiafdlofcjbllaaGreatDoor.c3 u).toArray 38::blk g7 (c9o o).toArray 138::blk g9 (h2 hd).toArray 40::blk g10 (YtiafdlofcjbllaaGreatDoor.c3 v).toArray 38::WoB W E A R X Q n s'::DwB M t'::blk AP #[.slice Ba na ca] 36::own Ba na ca 40 2 (hsV all)::L) _:=hs.pm
 obtain⟨p0,p1,p2⟩:=Has3.facts (has3_slot (g:=g29) (v:=u) (t:=38)) hs
 obtain⟨q0,q1,q2⟩:=Has3.facts (has3_tail (has3_slot (g:=g27) (v:=u) (t:=38))) hs
 go_wp2
 go_ret
 exact⟨rfl,na,ca,Ba,all,s',t',by omega,HNA,HP',(hs.pm (M:=blk g29 (YtiafdlofcjbllaaGreatDoor.c3 u).toArray 38::blk g27 (YtiafdlofcjbllaaGreatDoor.c3 u).toArray 38::blk g7 (c9o o).toArray 138::blk g9 (h2 hd).toArray 40::blk g10 (YtiafdlofcjbllaaGreatDoor.c3 v).toArray 38::WoB W E A R X Q n s'::DwB M t'::blk AP #[.slice Ba na ca] 36::own Ba na ca 40 2 (hsV all)::L)).drop.drop.drop.drop.drop⟩
set_option maxHeartbeats 8000000 in
theorem do_get (ok:o.k=5):
  DoArm w0 w L W E A R X Q n M AP m k na ca Ba all s t o g7 g9 g10 hd v u52 u53 u54 u55 u56 u57 u58 u59:=by
 intro hT hk9 hm8 HP hna HNA hs K K1 hK1 hK
 have d0:(o.k==0)=false:=by simp[ok]
 have d1:(o.k==1)=false:=by simp[ok]
 have d2:(o.k==2)=false:=by simp[ok]
 have d3:(o.k==3)=false:=by simp[ok]
 have d4:(o.k==4)=false:=by simp[ok]
 have d5:(o.k==5)=true:=by simp[ok]
 clear ok
 unfold frDo
 have f0:World.cell? _ ⟨g7,0,none⟩=some (.int .i64 o.k):=Rd.blk (by rfl) _ hs
 conv=>arg 2;whnf
 go_wp2
 conv=>arg 2;whnf
 obtain⟨⟨u,e⟩,HI⟩:∃ z,Hid (s.get hd o.c=z):=⟨_,rfl⟩
 have HT':=Lib.hid (HP.out.get HI.out)
 have HP':=Lib.hid HP.out.more
 replace hs:St w0 (WoB W E A R X Q n s::blk g7 (c9o o).toArray 138::blk g9 (h2 hd).toArray 40::blk g10 (YtiafdlofcjbllaaGreatDoor.c3 v).toArray 38::DwB M t::blk AP #[.slice Ba na ca] 36::own Ba na ca 40 2 (hsV all)::L) _:=hs.pm
 have f2:World.cell? _ ⟨g7,2,none⟩=some (.int .i64 o.c):=Rd.blk (by rfl) _ hs.drop
 go_upto_region 28 with (first
  | (refine wpl_load_agg (cs:=h2 hd) (b:=g9) (o:=0) rfl aggH (sizeHd _) hs ?hh ?_;case hh=>exact fun j x hx=>(((Rd.blk (by simpa using hx))).tail).tail)
  | (go_at_call 55;refine (wo_get (h:=hd) hs HI).mono ?_;clear hs f0 f2;rintro r w ⟨rfl,hs⟩)
  | (refine wpl_alloc zero3 hs ?_;clear hs;intro g31 w hs)
  | (refine wpl_store_agg (v:=val3 u) rfl rfl (size3 _) hs WrA.slot3 ?_;clear hs;intro w hs))
 replace hs:St w0 (DwB M t::blk g7 (c9o o).toArray 138::blk g9 (h2 hd).toArray 40::blk g10 (YtiafdlofcjbllaaGreatDoor.c3 v).toArray 38::blk g31 (YtiafdlofcjbllaaGreatDoor.c3 u).toArray 38::WoB W E A R X Q n s::blk AP #[.slice Ba na ca] 36::own Ba na ca 40 2 (hsV all)::L) _:=hs.pm
 have f2:World.cell? _ ⟨g7,2,none⟩=some (.int .i64 o.c):=Rd.blk (by rfl) _ hs.drop
 go_upto_region 29 with (first
  | (refine wpl_load_agg (cs:=h2 hd) (b:=g9) (o:=0) rfl aggH (sizeHd _) hs ?hh ?_;case hh=>exact fun j x hx=>(((Rd.blk (by simpa using hx))).tail).tail)
  | (go_at_call 30;refine (dw_get (h:=hd) hs HT').mono ?_;clear hs f2;rintro r w ⟨rfl,hs⟩)
  | (refine wpl_alloc zero3 hs ?_;clear hs;intro g33 w hs)
  | (refine wpl_store_agg (v:=val3 u) rfl rfl (size3 _) hs WrA.slot3 ?_;clear hs;intro w hs))
 replace hs:St w0 (blk g33 (YtiafdlofcjbllaaGreatDoor.c3 u).toArray 38::blk g31 (YtiafdlofcjbllaaGreatDoor.c3 u).toArray 38::blk g7 (c9o o).toArray 138::blk g9 (h2 hd).toArray 40::blk g10 (YtiafdlofcjbllaaGreatDoor.c3 v).toArray 38::WoB W E A R X Q n s::DwB M t::blk AP #[.slice Ba na ca] 36::own Ba na ca 40 2 (hsV all)::L) _:=hs.pm
 obtain⟨p0,p1,p2⟩:=Has3.facts (has3_slot (g:=g33) (v:=u) (t:=38)) hs
 obtain⟨q0,q1,q2⟩:=Has3.facts (has3_tail (has3_slot (g:=g31) (v:=u) (t:=38))) hs
 go_wp2
 go_ret
 exact⟨rfl,na,ca,Ba,all,s,t,by omega,HNA,HP',(hs.pm (M:=blk g33 (YtiafdlofcjbllaaGreatDoor.c3 u).toArray 38::blk g31 (YtiafdlofcjbllaaGreatDoor.c3 u).toArray 38::blk g7 (c9o o).toArray 138::blk g9 (h2 hd).toArray 40::blk g10 (YtiafdlofcjbllaaGreatDoor.c3 v).toArray 38::WoB W E A R X Q n s::DwB M t::blk AP #[.slice Ba na ca] 36::own Ba na ca 40 2 (hsV all)::L)).drop.drop.drop.drop.drop⟩
set_option maxHeartbeats 8000000 in
theorem do_set (ok:o.k=6):
  DoArm w0 w L W E A R X Q n M AP m k na ca Ba all s t o g7 g9 g10 hd v u52 u53 u54 u55 u56 u57 u58 u59:=by
 intro hT hk9 hm8 HP hna HNA hs K K1 hK1 hK
 have d0:(o.k==0)=false:=by simp[ok]
 have d1:(o.k==1)=false:=by simp[ok]
 have d2:(o.k==2)=false:=by simp[ok]
 have d3:(o.k==3)=false:=by simp[ok]
 have d4:(o.k==4)=false:=by simp[ok]
 have d5:(o.k==5)=false:=by simp[ok]
 have d6:(o.k==6)=true:=by simp[ok]
 clear ok
 unfold frDo
 have f0:World.cell? _ ⟨g7,0,none⟩=some (.int .i64 o.k):=Rd.blk (by rfl) _ hs
 conv=>arg 2;whnf
 go_wp2
 conv=>arg 2;whnf
 obtain⟨⟨e,s'⟩,HI⟩:∃ z,Hid (s.set hd o.c v=z):=⟨_,rfl⟩
 obtain⟨t',ht,hp'⟩:=HP.out.set HI.out
 have HT':=Lib.hid ht
 have HP':=Lib.hid hp'
 clear ht hp'
 go_upto_region 31 with (fail)
 clear f0
 refine wp_region_plain [false,false,false,false,false,true,false,false,false,false,false,true,true,true] hs.only3 (by kernel_rfl) (by kernel_rfl) fun hne=>?_
 have r0:=(show Rd w0 [blk g7 (c9o o).toArray 138,blk g9 (h2 hd).toArray 40,blk g10 (YtiafdlofcjbllaaGreatDoor.c3 v).toArray 38] ⟨g7,2,none⟩ (.int .i64 o.c) from Rd.blk rfl).alln
 have r1:=(show Rd w0 [blk g7 (c9o o).toArray 138,blk g9 (h2 hd).toArray 40,blk g10 (YtiafdlofcjbllaaGreatDoor.c3 v).toArray 38] ⟨g9,0,none⟩ (.int .i64 hd.1) from (Rd.blk rfl).tail).alln
 have r2:=(show Rd w0 [blk g7 (c9o o).toArray 138,blk g9 (h2 hd).toArray 40,blk g10 (YtiafdlofcjbllaaGreatDoor.c3 v).toArray 38] ⟨g9,1,none⟩ (.int .i64 hd.2) from (Rd.blk rfl).tail).alln
 have r3:=(show Rd w0 [blk g7 (c9o o).toArray 138,blk g9 (h2 hd).toArray 40,blk g10 (YtiafdlofcjbllaaGreatDoor.c3 v).toArray 38] ⟨g10,0,none⟩ (.int .i64 v.k) from (Rd.blk rfl).tail.tail).alln
 have r4:=(show Rd w0 [blk g7 (c9o o).toArray 138,blk g9 (h2 hd).toArray 40,blk g10 (YtiafdlofcjbllaaGreatDoor.c3 v).toArray 38] ⟨g10,1,none⟩ (.int .i64 v.a) from (Rd.blk rfl).tail.tail).alln
 have r5:=(show Rd w0 [blk g7 (c9o o).toArray 138,blk g9 (h2 hd).toArray 40,blk g10 (YtiafdlofcjbllaaGreatDoor.c3 v).toArray 38] ⟨g10,2,none⟩ (.int .i64 v.b) from (Rd.blk rfl).tail.tail).alln
 simp only[pickOps]
 repeat (go_big_quiet_step (fail))
 refine wpQuiet_nil ?_
 clear hne r0 r1 r2 r3 r4 r5
 simp only[chainIx]
 replace hs:=hs.drew
 refine wpChainP_next rfl ?_
 (go_wp2_with (first
  | (go_at_call 65;refine (wo_set (h:=hd) hs.up3 (fun x hx=>by have:=HP.out.ev x hx;omega) HI).mono ?_;clear hs;rintro r w ⟨rfl,hs⟩;replace hs:=hs.dn3)))
 refine⟨hs.only3,?_⟩
 refine wpChainP_next rfl ?_
 (go_wp2_with (first
  | (go_at_call 32;refine (dw_set (h:=hd) hs.up4 (fun x hx=>by have:=HP.out.evt x hx;omega) HT').mono ?_;clear hs;rintro r w ⟨rfl,hs⟩;replace hs:=hs.dn4)))
 refine⟨hs.only3,?_⟩
 refine wpChainP_next rfl ?_
 go_wp2
 refine⟨hs.only3,?_⟩
 refine wpChain_last rfl ?_
 go_wp2
 go_ret
 exact⟨rfl,na,ca,Ba,all,s',t',by omega,HNA,HP',(hs.pm (M:=blk g7 (c9o o).toArray 138::blk g9 (h2 hd).toArray 40::blk g10 (YtiafdlofcjbllaaGreatDoor.c3 v).toArray 38::WoB W E A R X Q n s'::DwB M t'::blk AP #[.slice Ba na ca] 36::own Ba na ca 40 2 (hsV all)::L)).drop.drop.drop⟩
end
end
end Go.Proofs.YtiafdlofcjbllaaGreatDoor
