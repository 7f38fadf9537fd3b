/-
  WorldPlays: the statements' do, the rest. (Printed by gen_wp4.py.)
-/
import Derived.Test.YtiafdlofcjbllaaGreatDoorZP4
set_option maxRecDepth 100000
namespace Go.Proofs.YtiafdlofcjbllaaGreatDoor
section
open Go Go.RowKit
attribute [local irreducible] wpList Calls Code.wp stV EnS.live EnS.slot WoS.cmpD WoS.mayD mayR rgP padA okI okN pS tS memS getG pG insS delS getV pV tV okVal newSl SlS.put SlS.err SlS.putU SlS.putB descE SlS.take SlS.set SlS.errSet SlS.get SlS.has EnS.ins EnS.set EnS.rem EnS.get EnS.parts EnS.del WoS.ins WoS.rem WoS.get WoS.set WoS.del WoS.create WoS.give WoS.defer WoS.maint WoS.reader WoS.read ofN strL delA newA giveV allH idxS hsV nsV mergeA newE lagE
section
variable {w0 w:World} {L:List As} {W E A R X Q n M AP m k na ca:Nat} {Ba:Option Addr} {all:List Hdl} {s t:WoS} {o:OpV} {g7 g9 g10:Nat} {hd:Hdl} {v:V3} {u52 u53 u54 u55 u56 u57 u58 u59:Value}
set_option maxHeartbeats 8000000 in
theorem do_defer (ok:o.k=7):
  DoArm w0 w L W E A R X Q n M AP m k na ca Ba all s t o g7 g9 g10 hd v u52 u53 u54 u55 u56 u57 u58 u59:=by
 intro hT hk9 hm8 HP hna HNA hs K K1 hK1 hK
 have d0:(o.k==0)=false:=by simp[ok]
 have d1:(o.k==1)=false:=by simp[ok]
 have d2:(o.k==2)=false:=by simp[ok]
 have d3:(o.k==3)=false:=by simp[ok]
 have d4:(o.k==4)=false:=by simp[ok]
 have d5:(o.k==5)=false:=by simp[ok]
 have d6:(o.k==6)=false:=by simp[ok]
 have d7:(o.k==7)=true:=by simp[ok]
 clear ok
 unfold frDo
 have f0:World.cell? _ ⟨g7,0,none⟩=some (.int .i64 o.k):=Rd.blk (by rfl) _ hs
 conv=>arg 2;whnf
 go_wp2
 conv=>arg 2;whnf
 go_upto_region 33 with (fail)
 clear f0
 replace hs:St w0 (blk AP #[.slice Ba na ca] 36::blk g7 (c9o o).toArray 138::own Ba na ca 40 2 (hsV all)::DwB M t::blk g9 (h2 hd).toArray 40::blk g10 (YtiafdlofcjbllaaGreatDoor.c3 v).toArray 38::WoB W E A R X Q n s::L) _:=hs.pm
 refine wp_region_plain [false,false,false,false,false,true,true] hs.only2 (by kernel_rfl) (by kernel_rfl) fun hne=>?_
 have r9:=(show Rd w0 [blk AP #[.slice Ba na ca] 36,blk g7 (c9o o).toArray 138] ⟨AP,0,none⟩ (.slice Ba na ca) from Rd.blk rfl).alln
 have r0:=(show Rd w0 [blk AP #[.slice Ba na ca] 36,blk g7 (c9o o).toArray 138] ⟨g7,0,none⟩ (.int .i64 o.k) from (Rd.blk rfl).tail).alln
 have r1:=(show Rd w0 [blk AP #[.slice Ba na ca] 36,blk g7 (c9o o).toArray 138] ⟨g7,1,none⟩ (.int .i64 o.h) from (Rd.blk rfl).tail).alln
 have r2:=(show Rd w0 [blk AP #[.slice Ba na ca] 36,blk g7 (c9o o).toArray 138] ⟨g7,2,none⟩ (.int .i64 o.c) from (Rd.blk rfl).tail).alln
 have r3:=(show Rd w0 [blk AP #[.slice Ba na ca] 36,blk g7 (c9o o).toArray 138] ⟨g7,3,none⟩ (.int .i64 o.n) from (Rd.blk rfl).tail).alln
 have r4:=(show Rd w0 [blk AP #[.slice Ba na ca] 36,blk g7 (c9o o).toArray 138] ⟨g7,4,none⟩ (.int .i64 o.v.k) from (Rd.blk rfl).tail).alln
 have r5:=(show Rd w0 [blk AP #[.slice Ba na ca] 36,blk g7 (c9o o).toArray 138] ⟨g7,5,none⟩ (.int .i64 o.v.a) from (Rd.blk rfl).tail).alln
 have r6:=(show Rd w0 [blk AP #[.slice Ba na ca] 36,blk g7 (c9o o).toArray 138] ⟨g7,6,none⟩ (.int .i64 o.v.b) from (Rd.blk rfl).tail).alln
 have r7:=(show Rd w0 [blk AP #[.slice Ba na ca] 36,blk g7 (c9o o).toArray 138] ⟨g7,7,none⟩ (.int .i64 o.r.1) from (Rd.blk rfl).tail).alln
 have r8:=(show Rd w0 [blk AP #[.slice Ba na ca] 36,blk g7 (c9o o).toArray 138] ⟨g7,8,none⟩ (.int .i64 o.r.2) from (Rd.blk rfl).tail).alln
 simp only[pickOps]
 repeat (go_big_quiet_step (fail))
 refine wpQuiet_nil ?_
 clear hne r0 r1 r2 r3 r4 r5 r6 r7 r8 r9
 simp only[chainIx]
 replace hs:=hs.drew
 refine wpChainP_next rfl ?_
 (go_wp2_with (first
  | (go_at_call 117;refine (ops_c (L:=blk AP #[.slice Ba na ca] 36::blk g7 (c9o o).toArray 138::blk g9 (h2 hd).toArray 40::blk g10 (YtiafdlofcjbllaaGreatDoor.c3 v).toArray 38::WoB W E A R X Q n s::L) (hs.pm) HNA o).mono ?_;clear hs;rintro r w ⟨lq,BL,ql,cL,HQL,hq3,rfl,hs⟩)))
 replace hs:St w0 (blk AP #[.slice Ba na ca] 36::blk g7 (c9o o).toArray 138::own BL ql cL 99 7 (lq.flatMap c7w)::WoB W E A R X Q n s::DwB M t::own Ba na ca 40 2 (hsV all)::blk g9 (h2 hd).toArray 40::blk g10 (YtiafdlofcjbllaaGreatDoor.c3 v).toArray 38::L) _:=hs.pm
 refine⟨hs.only2,?_⟩
 refine wpChain_last rfl ?_
 go_upto_region 34 with (fail)
 have hq3':lq.length≤3:=by rw[HQL.out];exact hq3
 obtain⟨⟨e,s'⟩,HI⟩:∃ z,Hid (s.defer lq=z):=⟨_,rfl⟩
 obtain⟨t',ht,hp'⟩:=HP.out.defer hq3' HI.out
 have HT':=Lib.hid ht
 have HP':=Lib.hid hp'
 clear ht hp'
 have HQS:Hid (s.q.length≤10000):=by have:=HP.out.q;rw[Hid];omega
 have HQT:Hid (t.q.length≤10000):=by rw[Hid,← HP.out.al.q];exact HQS.out
 replace hs:St w0 (WoB W E A R X Q n s::own BL ql cL 99 7 (lq.flatMap c7w)::DwB M t::blk AP #[.slice Ba na ca] 36::own Ba na ca 40 2 (hsV all)::blk g7 (c9o o).toArray 138::blk g9 (h2 hd).toArray 40::blk g10 (YtiafdlofcjbllaaGreatDoor.c3 v).toArray 38::L) _:=hs.pm
 (go_wp2_with (first
  | (go_at_call 53;refine (wo_defer_v HQS.out HQL (by omega) hs (RdS.own hs.drop) HI).mono ?_;clear hs;rintro r w ⟨rfl,hs⟩;replace hs:St w0 (DwB M t::own BL ql cL 99 7 (lq.flatMap c7w)::WoB W E A R X Q n s'::blk AP #[.slice Ba na ca] 36::own Ba na ca 40 2 (hsV all)::blk g7 (c9o o).toArray 138::blk g9 (h2 hd).toArray 40::blk g10 (YtiafdlofcjbllaaGreatDoor.c3 v).toArray 38::L) _:=hs.pm)
  | (go_at_call 118;refine (dw_defer hs HQL (by omega) HQT (RdS.own hs.drop) HT').mono ?_;clear hs;rintro r w ⟨rfl,hs⟩)))
 go_ret
 exact⟨rfl,na,ca,Ba,all,s',t',by omega,HNA,HP',(hs.pm (M:=own BL ql cL 99 7 (lq.flatMap c7w)::blk g7 (c9o o).toArray 138::blk g9 (h2 hd).toArray 40::blk g10 (YtiafdlofcjbllaaGreatDoor.c3 v).toArray 38::WoB W E A R X Q n s'::DwB M t'::blk AP #[.slice Ba na ca] 36::own Ba na ca 40 2 (hsV all)::L)).drop.drop.drop.drop⟩
set_option maxHeartbeats 8000000 in
theorem do_maint (ok:o.k=8):
  DoArm w0 w L W E A R X Q n M AP m k na ca Ba all s t o g7 g9 g10 hd v u52 u53 u54 u55 u56 u57 u58 u59:=by
 intro hT hk9 hm8 HP hna HNA hs K K1 hK1 hK
 have d0:(o.k==0)=false:=by simp[ok]
 have d1:(o.k==1)=false:=by simp[ok]
 have d2:(o.k==2)=false:=by simp[ok]
 have d3:(o.k==3)=false:=by simp[ok]
 have d4:(o.k==4)=false:=by simp[ok]
 have d5:(o.k==5)=false:=by simp[ok]
 have d6:(o.k==6)=false:=by simp[ok]
 have d7:(o.k==7)=false:=by simp[ok]
 have d8:(o.k==8)=true:=by simp[ok]
 clear ok
 unfold frDo
 have f0:World.cell? _ ⟨g7,0,none⟩=some (.int .i64 o.k):=Rd.blk (by rfl) _ hs
 conv=>arg 2;whnf
 go_wp2
 conv=>arg 2;whnf
 obtain⟨⟨u,e,s'⟩,HI⟩:∃ z,Hid (s.maint=z):=⟨_,rfl⟩
 obtain⟨t',ht,hp'⟩:=HP.out.maint (by omega) HI.out
 have HT':=Lib.hid ht
 have HP':=Lib.hid hp'
 clear ht hp'
 have HQS:Hid (s.q.length≤10000):=by have:=HP.out.q;rw[Hid];omega
 have HQT:Hid (t.q.length≤10000):=by rw[Hid,← HP.out.al.q];exact HQS.out
 have HLN:Hid (t.e.l.length≤1000):=by rw[Hid,HP.out.lent];omega
 replace hs:St w0 (WoB W E A R X Q n s::DwB M t::blk AP #[.slice Ba na ca] 36::own Ba na ca 40 2 (hsV all)::blk g7 (c9o o).toArray 138::blk g9 (h2 hd).toArray 40::blk g10 (YtiafdlofcjbllaaGreatDoor.c3 v).toArray 38::L) _:=hs.pm
 go_upto_region 37 with (first
  | (go_at_call 54;refine (wo_maint hT hs HP.out.ev (by omega) HQS.out HI).mono ?_;clear hs f0;rintro r w ⟨rfl,hs⟩)
  | (refine wpl_alloc zeroRp hs ?_;clear hs;intro g36 w hs)
  | (refine wpl_store_agg (v:=val3 u) rfl rfl (sizeRp _) hs WrA.slot3 ?_;clear hs;intro w hs))
 replace hs:St w0 (DwB M t::blk g36 (YtiafdlofcjbllaaGreatDoor.c3 u).toArray 102::WoB W E A R X Q n s'::blk AP #[.slice Ba na ca] 36::own Ba na ca 40 2 (hsV all)::blk g7 (c9o o).toArray 138::blk g9 (h2 hd).toArray 40::blk g10 (YtiafdlofcjbllaaGreatDoor.c3 v).toArray 38::L) _:=hs.pm
 go_upto_region 38 with (first
  | (go_at_call 119;refine (dw_maint hs HP.out.evt (by omega) HQT.out HLN.out HT').mono ?_;clear hs;rintro r w ⟨rfl,hs⟩)
  | (refine wpl_alloc zeroRp hs ?_;clear hs;intro g38 w hs)
  | (refine wpl_store_agg (v:=val3 u) rfl rfl (sizeRp _) hs WrA.slot3 ?_;clear hs;intro w hs))
 replace hs:St w0 (blk g38 (YtiafdlofcjbllaaGreatDoor.c3 u).toArray 102::blk g36 (YtiafdlofcjbllaaGreatDoor.c3 u).toArray 102::blk g7 (c9o o).toArray 138::blk g9 (h2 hd).toArray 40::blk g10 (YtiafdlofcjbllaaGreatDoor.c3 v).toArray 38::WoB W E A R X Q n s'::DwB M t'::blk AP #[.slice Ba na ca] 36::own Ba na ca 40 2 (hsV all)::L) _:=hs.pm
 obtain⟨p0,p1,p2⟩:=Has3.facts (has3_slot (g:=g38) (v:=u) (t:=102)) hs
 obtain⟨q0,q1,q2⟩:=Has3.facts (has3_tail (has3_slot (g:=g36) (v:=u) (t:=102))) hs
 have eR:=eqR_bin
 go_wp2
 go_ret
 exact⟨rfl,na,ca,Ba,all,s',t',by omega,HNA,HP',(hs.pm (M:=blk g38 (YtiafdlofcjbllaaGreatDoor.c3 u).toArray 102::blk g36 (YtiafdlofcjbllaaGreatDoor.c3 u).toArray 102::blk g7 (c9o o).toArray 138::blk g9 (h2 hd).toArray 40::blk g10 (YtiafdlofcjbllaaGreatDoor.c3 v).toArray 38::WoB W E A R X Q n s'::DwB M t'::blk AP #[.slice Ba na ca] 36::own Ba na ca 40 2 (hsV all)::L)).drop.drop.drop.drop.drop⟩
set_option maxHeartbeats 8000000 in
theorem do_reader (ok:o.k=9):
  DoArm w0 w L W E A R X Q n M AP m k na ca Ba all s t o g7 g9 g10 hd v u52 u53 u54 u55 u56 u57 u58 u59:=by
 intro hT hk9 hm8 HP hna HNA hs K K1 hK1 hK
 have d0:(o.k==0)=false:=by simp[ok]
 have d1:(o.k==1)=false:=by simp[ok]
 have d2:(o.k==2)=false:=by simp[ok]
 have d3:(o.k==3)=false:=by simp[ok]
 have d4:(o.k==4)=false:=by simp[ok]
 have d5:(o.k==5)=false:=by simp[ok]
 have d6:(o.k==6)=false:=by simp[ok]
 have d7:(o.k==7)=false:=by simp[ok]
 have d8:(o.k==8)=false:=by simp[ok]
 have d9:(o.k==9)=true:=by simp[ok]
 clear ok
 unfold frDo
 have f0:World.cell? _ ⟨g7,0,none⟩=some (.int .i64 o.k):=Rd.blk (by rfl) _ hs
 conv=>arg 2;whnf
 go_wp2
 conv=>arg 2;whnf
 obtain⟨⟨x,e,s'⟩,HI⟩:∃ z,Hid (s.reader o.c=z):=⟨_,rfl⟩
 obtain⟨t',ht,hp'⟩:=HP.out.reader HI.out
 have HT':=Lib.hid ht
 have HP':=Lib.hid hp'
 clear ht hp'
 have HRD:Hid (∀ x∈t.e.l,x.2.rds.length < 100):=fun x hx=>by have:=(HP.out.rdt x hx).1;omega
 replace hs:St w0 (WoB W E A R X Q n s::blk g7 (c9o o).toArray 138::DwB M t::blk AP #[.slice Ba na ca] 36::own Ba na ca 40 2 (hsV all)::blk g9 (h2 hd).toArray 40::blk g10 (YtiafdlofcjbllaaGreatDoor.c3 v).toArray 38::L) _:=hs.pm
 have f2:World.cell? _ ⟨g7,2,none⟩=some (.int .i64 o.c):=Rd.blk (by rfl) _ hs.drop
 go_upto_region 41 with (first
  | (go_at_call 59;refine (wo_reader hs HI).mono ?_;clear hs f0 f2;rintro r w ⟨rfl,hs⟩))
 replace hs:St w0 (DwB M t::blk g7 (c9o o).toArray 138::WoB W E A R X Q n s'::blk AP #[.slice Ba na ca] 36::own Ba na ca 40 2 (hsV all)::blk g9 (h2 hd).toArray 40::blk g10 (YtiafdlofcjbllaaGreatDoor.c3 v).toArray 38::L) _:=hs.pm
 have f2:World.cell? _ ⟨g7,2,none⟩=some (.int .i64 o.c):=Rd.blk (by rfl) _ hs.drop
 go_upto_region 42 with (first
  | (go_at_call 120;refine (dw_reader hs HRD.out HT').mono ?_;clear hs f2;rintro r w ⟨rfl,hs⟩))
 go_wp2
 go_ret
 exact⟨rfl,na,ca,Ba,all,s',t',by omega,HNA,HP',(hs.pm (M:=blk g7 (c9o o).toArray 138::blk g9 (h2 hd).toArray 40::blk g10 (YtiafdlofcjbllaaGreatDoor.c3 v).toArray 38::WoB W E A R X Q n s'::DwB M t'::blk AP #[.slice Ba na ca] 36::own Ba na ca 40 2 (hsV all)::L)).drop.drop.drop⟩
set_option maxHeartbeats 8000000 in
theorem do_read (ok:o.k=10):
  DoArm w0 w L W E A R X Q n M AP m k na ca Ba all s t o g7 g9 g10 hd v u52 u53 u54 u55 u56 u57 u58 u59:=by
 intro hT hk9 hm8 HP hna HNA hs K K1 hK1 hK
 have d0:(o.k==0)=false:=by simp[ok]
 have d1:(o.k==1)=false:=by simp[ok]
 have d2:(o.k==2)=false:=by simp[ok]
 have d3:(o.k==3)=false:=by simp[ok]
 have d4:(o.k==4)=false:=by simp[ok]
 have d5:(o.k==5)=false:=by simp[ok]
 have d6:(o.k==6)=false:=by simp[ok]
 have d7:(o.k==7)=false:=by simp[ok]
 have d8:(o.k==8)=false:=by simp[ok]
 have d9:(o.k==9)=false:=by simp[ok]
 have d10:(o.k==10)=true:=by simp[ok]
 clear ok
 unfold frDo
 have f0:World.cell? _ ⟨g7,0,none⟩=some (.int .i64 o.k):=Rd.blk (by rfl) _ hs
 conv=>arg 2;whnf
 go_wp2
 conv=>arg 2;whnf
 obtain⟨⟨ev,bb,e,s'⟩,HI⟩:∃ z,Hid (s.read o.c o.n=z):=⟨_,rfl⟩
 obtain⟨t',ht,hp'⟩:=HP.out.read HI.out
 have HT':=Lib.hid ht
 have HP':=Lib.hid hp'
 clear ht hp'
 have HRD:Hid (∀ x∈t.e.l,∀ k∈x.2.rds,k≤x.2.evs.length):=fun x hx=>(HP.out.rdt x hx).2
 have HEL:Hid (ev.length≤1000000000):=by
  have h9:=WoS.read_len (s:=s) (c:=o.c) (r:=o.n) (K:=k*300) HP.out.ev
  rw[HI.out] at h9
  show ev.length≤_
  have h8:ev.length≤k*300:=h9
  omega
 replace hs:St w0 (WoB W E A R X Q n s::blk g7 (c9o o).toArray 138::DwB M t::blk AP #[.slice Ba na ca] 36::own Ba na ca 40 2 (hsV all)::blk g9 (h2 hd).toArray 40::blk g10 (YtiafdlofcjbllaaGreatDoor.c3 v).toArray 38::L) _:=hs.pm
 have f2:World.cell? _ ⟨g7,2,none⟩=some (.int .i64 o.c):=Rd.blk (by rfl) _ hs.drop
 have f3:World.cell? _ ⟨g7,3,none⟩=some (.int .i64 o.n):=Rd.blk (by rfl) _ hs.drop
 go_upto_region 45 with (first
  | (go_at_call 60;refine (wo_read hs (fun x hx=>by have:=HP.out.ev x hx;omega) HI).mono ?_;clear hs f0 f2 f3;rintro r w ⟨B5,n5,c5,hn5,rfl,hs⟩))
 replace hs:St w0 (DwB M t::blk g7 (c9o o).toArray 138::own B5 n5 c5 121 2 (es2 ev)::WoB W E A R X Q n s'::blk AP #[.slice Ba na ca] 36::own Ba na ca 40 2 (hsV all)::blk g9 (h2 hd).toArray 40::blk g10 (YtiafdlofcjbllaaGreatDoor.c3 v).toArray 38::L) _:=hs.pm
 have f2:World.cell? _ ⟨g7,2,none⟩=some (.int .i64 o.c):=Rd.blk (by rfl) _ hs.drop
 have f3:World.cell? _ ⟨g7,3,none⟩=some (.int .i64 o.n):=Rd.blk (by rfl) _ hs.drop
 have hn9:n5≤1000000000:=by rw[← hn5.out];exact HEL.out
 go_upto_region 46 with (first
  | (go_at_call 121;refine (dw_read hs (fun x hx=>by have:=HP.out.evt x hx;omega) HRD.out HT').mono ?_;clear hs f2 f3;rintro r w ⟨B6,c6,n6,hn6,rfl,hs⟩;obtain rfl:n5=n6:=(by rw[← hn5.out,← hn6.out])))
 replace hs:St w0 (own B5 n5 c5 121 2 (es2 ev)::own B6 n5 c6 121 2 (es2 ev)::blk g7 (c9o o).toArray 138::blk g9 (h2 hd).toArray 40::blk g10 (YtiafdlofcjbllaaGreatDoor.c3 v).toArray 38::WoB W E A R X Q n s'::DwB M t'::blk AP #[.slice Ba na ca] 36::own Ba na ca 40 2 (hsV all)::L) _:=hs.pm
 (go_wp2_with (first
  | (go_at_call 122;refine (samee_c hs hn5 (by omega) (RdS.own hs) (RdS.own hs.drop).tail).mono ?_;rintro r w ⟨rfl,hg⟩;replace hs:=hs.grew hg;clear hg)))
 go_ret
 exact⟨rfl,na,ca,Ba,all,s',t',by omega,HNA,HP',hs.drop.drop.drop.drop.drop⟩
set_option maxHeartbeats 8000000 in
theorem do_hold (ok:o.k=11):
  DoArm w0 w L W E A R X Q n M AP m k na ca Ba all s t o g7 g9 g10 hd v u52 u53 u54 u55 u56 u57 u58 u59:=by
 intro hT hk9 hm8 HP hna HNA hs K K1 hK1 hK
 have d0:(o.k==0)=false:=by simp[ok]
 have d1:(o.k==1)=false:=by simp[ok]
 have d2:(o.k==2)=false:=by simp[ok]
 have d3:(o.k==3)=false:=by simp[ok]
 have d4:(o.k==4)=false:=by simp[ok]
 have d5:(o.k==5)=false:=by simp[ok]
 have d6:(o.k==6)=false:=by simp[ok]
 have d7:(o.k==7)=false:=by simp[ok]
 have d8:(o.k==8)=false:=by simp[ok]
 have d9:(o.k==9)=false:=by simp[ok]
 have d10:(o.k==10)=false:=by simp[ok]
 have d11:(o.k==11)=true:=by simp[ok]
 clear ok
 unfold frDo
 have f0:World.cell? _ ⟨g7,0,none⟩=some (.int .i64 o.k):=Rd.blk (by rfl) _ hs
 conv=>arg 2;whnf
 go_wp2
 conv=>arg 2;whnf
 have HP':=Lib.hid (HP.out.hold true)
 obtain⟨s',HS'⟩:∃ z,Hid (({ s with held:=true }:WoS)=z):=⟨_,rfl⟩
 obtain⟨t',HT'⟩:∃ z,Hid (({ t with held:=true }:WoS)=z):=⟨_,rfl⟩
 rw[HS'.out,HT'.out] at HP'
 obtain⟨bh,HBH⟩:∃ z,Hid (s.held=z):=⟨_,rfl⟩
 have HBT:Hid (t.held=bh):=by rw[Hid,← HP.out.al.held];exact HBH.out
 have HF:Hid (s.free=if bh then 13 else 0):=by rw[Hid];unfold WoS.free;rw[HBH.out]
 cases bh
 ·replace hs:St w0 (WoB W E A R X Q n s::blk g7 (c9o o).toArray 138::DwB M t::blk AP #[.slice Ba na ca] 36::own Ba na ca 40 2 (hsV all)::blk g9 (h2 hd).toArray 40::blk g10 (YtiafdlofcjbllaaGreatDoor.c3 v).toArray 38::L) _:=hs.pm
  go_upto_region 49 with (first
   | (go_at_call 62;refine (wohold_v hs HF HS').mono ?_;clear hs f0;rintro r w ⟨rfl,hs⟩))
  replace hs:St w0 (DwB M t::blk g7 (c9o o).toArray 138::WoB W E A R X Q n s'::blk AP #[.slice Ba na ca] 36::own Ba na ca 40 2 (hsV all)::blk g9 (h2 hd).toArray 40::blk g10 (YtiafdlofcjbllaaGreatDoor.c3 v).toArray 38::L) _:=hs.pm
  obtain⟨A4,n4,c4,B4,cB4,C4,cC4,D4,cD4,hp4,hs⟩:=hs.dwopen
  have HPD:=Lib.hid hp4
  clear hp4
  rw[HBT.out] at hs
  have k4:=Rd.blk (k:=4) (v:= .bool false) (by rfl) _ hs
  go_upto_region 50 with (fail)
  clear k4
  go_upto_region 51 with (first
   | (refine wpl_store (v:= .bool true) rfl rfl rfl size_bo hs (Wr.dw4 (b:=true)) ?_;clear hs;intro w hs))
  have hs5:=St.dwshut (s:={ t with held:=true }) HPD.out rfl rfl rfl hs
  rw[HT'.out] at hs5
  clear hs
  have hs:=hs5
  clear hs5
  go_wp2
  go_ret
  exact⟨rfl,na,ca,Ba,all,s',t',by omega,HNA,HP',(hs.pm (M:=blk g7 (c9o o).toArray 138::blk g9 (h2 hd).toArray 40::blk g10 (YtiafdlofcjbllaaGreatDoor.c3 v).toArray 38::WoB W E A R X Q n s'::DwB M t'::blk AP #[.slice Ba na ca] 36::own Ba na ca 40 2 (hsV all)::L)).drop.drop.drop⟩
 ·replace hs:St w0 (WoB W E A R X Q n s::blk g7 (c9o o).toArray 138::DwB M t::blk AP #[.slice Ba na ca] 36::own Ba na ca 40 2 (hsV all)::blk g9 (h2 hd).toArray 40::blk g10 (YtiafdlofcjbllaaGreatDoor.c3 v).toArray 38::L) _:=hs.pm
  go_upto_region 49 with (first
   | (go_at_call 62;refine (wohold_v hs HF HS').mono ?_;clear hs f0;rintro r w ⟨rfl,hs⟩))
  replace hs:St w0 (DwB M t::blk g7 (c9o o).toArray 138::WoB W E A R X Q n s'::blk AP #[.slice Ba na ca] 36::own Ba na ca 40 2 (hsV all)::blk g9 (h2 hd).toArray 40::blk g10 (YtiafdlofcjbllaaGreatDoor.c3 v).toArray 38::L) _:=hs.pm
  obtain⟨A4,n4,c4,B4,cB4,C4,cC4,D4,cD4,hp4,hs⟩:=hs.dwopen
  have HPD:=Lib.hid hp4
  clear hp4
  rw[HBT.out] at hs
  have k4:=Rd.blk (k:=4) (v:= .bool true) (by rfl) _ hs
  go_upto_region 50 with (fail)
  clear k4
  go_upto_region 51 with (first
   | (refine wpl_store (v:= .bool true) rfl rfl rfl size_bo hs (Wr.dw4 (b:=true)) ?_;clear hs;intro w hs))
  have hs5:=St.dwshut (s:={ t with held:=true }) HPD.out rfl rfl rfl hs
  rw[HT'.out] at hs5
  clear hs
  have hs:=hs5
  clear hs5
  go_wp2
  go_ret
  exact⟨rfl,na,ca,Ba,all,s',t',by omega,HNA,HP',(hs.pm (M:=blk g7 (c9o o).toArray 138::blk g9 (h2 hd).toArray 40::blk g10 (YtiafdlofcjbllaaGreatDoor.c3 v).toArray 38::WoB W E A R X Q n s'::DwB M t'::blk AP #[.slice Ba na ca] 36::own Ba na ca 40 2 (hsV all)::L)).drop.drop.drop⟩
set_option maxHeartbeats 8000000 in
theorem do_free (ok:∀ j:Nat,j < 12→o.k ≠ (j:Int)):
  DoArm w0 w L W E A R X Q n M AP m k na ca Ba all s t o g7 g9 g10 hd v u52 u53 u54 u55 u56 u57 u58 u59:=by
 intro hT hk9 hm8 HP hna HNA hs K K1 hK1 hK
 have d0:(o.k==0)=false:=by simpa using ok 0 (by decide)
 have d1:(o.k==1)=false:=by simpa using ok 1 (by decide)
 have d2:(o.k==2)=false:=by simpa using ok 2 (by decide)
 have d3:(o.k==3)=false:=by simpa using ok 3 (by decide)
 have d4:(o.k==4)=false:=by simpa using ok 4 (by decide)
 have d5:(o.k==5)=false:=by simpa using ok 5 (by decide)
 have d6:(o.k==6)=false:=by simpa using ok 6 (by decide)
 have d7:(o.k==7)=false:=by simpa using ok 7 (by decide)
 have d8:(o.k==8)=false:=by simpa using ok 8 (by decide)
 have d9:(o.k==9)=false:=by simpa using ok 9 (by decide)
 have d10:(o.k==10)=false:=by simpa using ok 10 (by decide)
 have d11:(o.k==11)=false:=by simpa using ok 11 (by decide)
 clear ok
 unfold frDo
 have f0:World.cell? _ ⟨g7,0,none⟩=some (.int .i64 o.k):=Rd.blk (by rfl) _ hs
 conv=>arg 2;whnf
 go_wp2
 conv=>arg 2;whnf
 have HP':=Lib.hid (HP.out.hold false)
 obtain⟨s',HS'⟩:∃ z,Hid (({ s with held:=false }:WoS)=z):=⟨_,rfl⟩
 obtain⟨t',HT'⟩:∃ z,Hid (({ t with held:=false }:WoS)=z):=⟨_,rfl⟩
 rw[HS'.out,HT'.out] at HP'
 replace hs:St w0 (WoB W E A R X Q n s::blk g7 (c9o o).toArray 138::DwB M t::blk AP #[.slice Ba na ca] 36::own Ba na ca 40 2 (hsV all)::blk g9 (h2 hd).toArray 40::blk g10 (YtiafdlofcjbllaaGreatDoor.c3 v).toArray 38::L) _:=hs.pm
 go_wp2
 conv=>arg 2;whnf
 go_wp2_with (first
  | (go_at_call 68;refine (wofreeW_v hs HS').mono ?_;clear hs f0;rintro r w ⟨rfl,hs⟩))
 conv=>arg 2;whnf
 replace hs:St w0 (DwB M t::blk g7 (c9o o).toArray 138::WoB W E A R X Q n s'::blk AP #[.slice Ba na ca] 36::own Ba na ca 40 2 (hsV all)::blk g9 (h2 hd).toArray 40::blk g10 (YtiafdlofcjbllaaGreatDoor.c3 v).toArray 38::L) _:=hs.pm
 obtain⟨A4,n4,c4,B4,cB4,C4,cC4,D4,cD4,hp4,hs⟩:=hs.dwopen
 have HPD:=Lib.hid hp4
 clear hp4
 go_upto_region 54 with (first
  | (refine wpl_store (v:= .bool false) rfl rfl rfl size_bo hs (Wr.dw4 (b:=false)) ?_;clear hs;intro w hs))
 have hs5:=St.dwshut (s:={ t with held:=false }) HPD.out rfl rfl rfl hs
 rw[HT'.out] at hs5
 clear hs
 have hs:=hs5
 clear hs5
 go_wp2
 go_ret
 exact⟨rfl,na,ca,Ba,all,s',t',by omega,HNA,HP',(hs.pm (M:=blk g7 (c9o o).toArray 138::blk g9 (h2 hd).toArray 40::blk g10 (YtiafdlofcjbllaaGreatDoor.c3 v).toArray 38::WoB W E A R X Q n s'::DwB M t'::blk AP #[.slice Ba na ca] 36::own Ba na ca 40 2 (hsV all)::L)).drop.drop.drop⟩
end
end
end Go.Proofs.YtiafdlofcjbllaaGreatDoor
