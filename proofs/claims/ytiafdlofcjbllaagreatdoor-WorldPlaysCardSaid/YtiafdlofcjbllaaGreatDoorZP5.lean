/-
  WorldPlays: the walk of the statement.
-/
import Derived.Test.YtiafdlofcjbllaaGreatDoorZP2
import Derived.Test.YtiafdlofcjbllaaGreatDoorZQ1
import Derived.Test.YtiafdlofcjbllaaGreatDoorZQ2
import Derived.Test.YtiafdlofcjbllaaGreatDoorZQ3
import Derived.Test.YtiafdlofcjbllaaGreatDoorZA
set_option maxRecDepth 100000
namespace Go.Proofs.YtiafdlofcjbllaaGreatDoor
section
open Go Go.RowKit
theorem zeroSh:(Tryz.prog.info? 36).bind (·.zero)=some (.slice none 0 0):=by kernel_rfl
theorem agg9o:aggB Tryz.prog 138=true:=by kernel_rfl
theorem size9o (o:OpV):(Tryz.prog.info? 138).map (·.size)=some (c9o o).length:=by kernel_rfl
theorem RdL0 {w0:World} {L:List As} {a:Addr} {v:Value} (h:Rd w0 [] a v):Rd w0 L a v:=fun w hs=>h w (St.front (L:=[]) (M:=L) hs)
theorem NewL.rdl {ds:List V3} {l:List Cmp} (h:NewL ds l):RdL 0 l:=fun x hx=>by
 obtain⟨c,hc⟩:=mem_at hx
 obtain⟨d,v,F,_,e⟩:=h.at_ c x hc
 rw[e]
 exact⟨Nat.le_refl _,fun p hp=>by cases hp⟩
attribute [local irreducible] wpList Calls Code.wp stV EnS.live EnS.slot rgP padA newSl descE newA cs3 hsV errDs descsL
set_option maxHeartbeats 8000000 in
theorem do_c {w0 w:World} {L:List As} {W E A R X Q n M AP m k na ca:Nat} {Ba:Option Addr} {all:List Hdl} {s t:WoS} (hT:Tab w0) (hk9:k < 100) (hm8:m≤8) (HP:Hid (WpI s t m k)) (hna:na≤k) (HNA:Hid (all.length=na)) (hs:St w0 (WoB W E A R X Q n s::DwB M t::blk AP #[.slice Ba na ca] 36::own Ba na ca 40 2 (hsV all)::L) w) (o:OpV):
  Calls Tryz.prog 69 #[.pointer (some ⟨W,0,none⟩), .pointer (some ⟨M,0,none⟩), .pointer (some ⟨AP,0,none⟩), .agg (c9o o).toArray] w (DoP w0 L W E A R X Q n M AP m k):=by
 go_enter Tryz.func69,Tryz.ntmps69
 go_upto_region 1 with (first
  | (refine wpl_box_v (v:= .agg (c9o o).toArray) rfl hs ?_;clear hs;intro g7 w hs;replace hs:St w0 (blk g7 (c9o o).toArray 138::WoB W E A R X Q n s::DwB M t::blk AP #[.slice Ba na ca] 36::own Ba na ca 40 2 (hsV all)::L) w:=hs))
 replace hs:St w0 (blk AP #[.slice Ba na ca] 36::blk g7 (c9o o).toArray 138::own Ba na ca 40 2 (hsV all)::WoB W E A R X Q n s::DwB M t::L) _:=hs.pm
 go_cut [9] from 52 to 59 (fun pv wx=>∃ (g9:Nat) (hd:Hdl),pv= .pointer (some ⟨g9,0,none⟩)∧St w0 (DwB M t::blk g7 (c9o o).toArray 138::blk g9 (h2 hd).toArray 40::WoB W E A R X Q n s::blk AP #[.slice Ba na ca] 36::own Ba na ca 40 2 (hsV all)::L) wx)
 case first=>
  refine wp_mix 3 [0,1,2,3,4,5,6] [7,8,9] hs.only2 (by kernel_rfl) (by kernel_rfl) fun hne=>?_
  have r0:=(show Rd w0 [blk AP #[.slice Ba na ca] 36,blk g7 (c9o o).toArray 138] ⟨AP,0,none⟩ (.slice Ba na ca) from Rd.blk rfl).alln
  have r1:=(show Rd w0 [blk AP #[.slice Ba na ca] 36,blk g7 (c9o o).toArray 138] ⟨g7,1,none⟩ (.int .i64 o.h) from (Rd.blk rfl).tail).alln
  have r2:=(show Rd w0 [blk AP #[.slice Ba na ca] 36,blk g7 (c9o o).toArray 138] ⟨g7,7,none⟩ (.int .i64 o.r.1) from (Rd.blk rfl).tail).alln
  have r3:=(show Rd w0 [blk AP #[.slice Ba na ca] 36,blk g7 (c9o o).toArray 138] ⟨g7,8,none⟩ (.int .i64 o.r.2) from (Rd.blk rfl).tail).alln
  simp only[opsAt,List.getElem?_toArray,List.getElem?_cons_succ,List.getElem?_cons_zero]
  repeat (go_big_quiet_step (fail))
  refine wpQuiet_nil ?_
  clear hne r0 r1 r2 r3
  replace hs:=hs.drew
  refine wpMix_next [7,8] (by kernel_rfl) (by simp) (fun c hc=>?_)
  simp only[List.mem_cons,List.not_mem_nil,or_false] at hc
  rcases hc with rfl | rfl
  ·skip
   refine⟨_,rfl,?_⟩
   have hs2:St w0 (own Ba na ca 40 2 (hsV all)::blk AP #[.slice Ba na ca] 36::blk g7 (c9o o).toArray 138::WoB W E A R X Q n s::DwB M t::L) _:=hs.pm
   go_wp2_with (first
    | (go_at_call 17;refine (pick_c hs2 HNA (RdS.own hs2) _ o.r).mono ?_;clear hs hs2;rintro r w ⟨hd,rfl,hs⟩;replace hs:St w0 (blk AP #[.slice Ba na ca] 36::blk g7 (c9o o).toArray 138::own Ba na ca 40 2 (hsV all)::WoB W E A R X Q n s::DwB M t::L) w:=hs.pm))
   refine mix_quiet [] [8,9] hs.only2 (by kernel_rfl) (by kernel_rfl) fun hne=>?_
   simp only[opsAt]
   refine wpQuiet_nil ?_
   clear hne
   refine wpMix_next [8] (by kernel_rfl) (by simp) (fun c hc=>?_)
   simp only[List.mem_singleton] at hc
   subst hc
   refine⟨_,rfl,?_⟩
   refine wpl_alloc zeroH hs ?_
   clear hs
   intro g9 w hs
   replace hs:St w0 (blk g9 (h2 (0,0)).toArray 40::_) w:=hs
   replace hs:St w0 (blk AP #[.slice Ba na ca] 36::blk g7 (c9o o).toArray 138::own Ba na ca 40 2 (hsV all)::WoB W E A R X Q n s::DwB M t::blk g9 (h2 (0,0)).toArray 40::L) w:=hs.pm
   refine wpList_nil ⟨rfl,?_⟩
   refine mix_quiet [] [9] hs.only2 (by kernel_rfl) (by kernel_rfl) fun hne=>?_
   simp only[opsAt]
   refine wpQuiet_nil ?_
   clear hne
   refine wpMix_next [9] (by kernel_rfl) (by simp) (fun c hc=>?_)
   simp only[List.mem_singleton] at hc
   subst hc
   refine⟨_,rfl,?_⟩
   refine wpl_store_agg (v:=hv hd) rfl rfl (sizeHd _) (hs.pm (M:=blk g9 (h2 (0,0)).toArray 40::blk AP #[.slice Ba na ca] 36::blk g7 (c9o o).toArray 138::own Ba na ca 40 2 (hsV all)::WoB W E A R X Q n s::DwB M t::L)) WrA.slotH ?_
   clear hs
   intro w hs
   replace hs:St w0 (blk AP #[.slice Ba na ca] 36::blk g7 (c9o o).toArray 138::own Ba na ca 40 2 (hsV all)::WoB W E A R X Q n s::DwB M t::blk g9 (h2 hd).toArray 40::L) w:=hs.pm
   refine wpList_nil ⟨rfl,?_⟩
   refine mix_quiet [] [] hs.only2 (by kernel_rfl) (by kernel_rfl) fun hne=>?_
   simp only[opsAt]
   refine wpQuiet_nil ?_
   clear hne
   refine wpMix_end ?_
   go_wp2
   go_meet
   exact⟨g9,hd,rfl,hs.pm⟩
  ·skip
   refine⟨_,rfl,?_⟩
   refine wpl_alloc zeroH hs ?_
   clear hs
   intro g9 w hs
   replace hs:St w0 (blk g9 (h2 (0,0)).toArray 40::_) w:=hs
   replace hs:St w0 (blk AP #[.slice Ba na ca] 36::blk g7 (c9o o).toArray 138::own Ba na ca 40 2 (hsV all)::WoB W E A R X Q n s::DwB M t::blk g9 (h2 (0,0)).toArray 40::L) w:=hs.pm
   refine wpList_nil ⟨rfl,?_⟩
   refine mix_quiet [] [7,9] hs.only2 (by kernel_rfl) (by kernel_rfl) fun hne=>?_
   simp only[opsAt]
   refine wpQuiet_nil ?_
   clear hne
   refine wpMix_next [7] (by kernel_rfl) (by simp) (fun c hc=>?_)
   simp only[List.mem_singleton] at hc
   subst hc
   refine⟨_,rfl,?_⟩
   have hs2:St w0 (own Ba na ca 40 2 (hsV all)::blk AP #[.slice Ba na ca] 36::blk g7 (c9o o).toArray 138::WoB W E A R X Q n s::DwB M t::blk g9 (h2 (0,0)).toArray 40::L) _:=hs.pm
   go_wp2_with (first
    | (go_at_call 17;refine (pick_c hs2 HNA (RdS.own hs2) _ o.r).mono ?_;clear hs hs2;rintro r w ⟨hd,rfl,hs⟩;replace hs:St w0 (blk AP #[.slice Ba na ca] 36::blk g7 (c9o o).toArray 138::own Ba na ca 40 2 (hsV all)::WoB W E A R X Q n s::DwB M t::blk g9 (h2 (0,0)).toArray 40::L) w:=hs.pm))
   refine mix_quiet [] [9] hs.only2 (by kernel_rfl) (by kernel_rfl) fun hne=>?_
   simp only[opsAt]
   refine wpQuiet_nil ?_
   clear hne
   refine wpMix_next [9] (by kernel_rfl) (by simp) (fun c hc=>?_)
   simp only[List.mem_singleton] at hc
   subst hc
   refine⟨_,rfl,?_⟩
   refine wpl_store_agg (v:=hv hd) rfl rfl (sizeHd _) (hs.pm (M:=blk g9 (h2 (0,0)).toArray 40::blk AP #[.slice Ba na ca] 36::blk g7 (c9o o).toArray 138::own Ba na ca 40 2 (hsV all)::WoB W E A R X Q n s::DwB M t::L)) WrA.slotH ?_
   clear hs
   intro w hs
   replace hs:St w0 (blk AP #[.slice Ba na ca] 36::blk g7 (c9o o).toArray 138::own Ba na ca 40 2 (hsV all)::WoB W E A R X Q n s::DwB M t::blk g9 (h2 hd).toArray 40::L) w:=hs.pm
   refine wpList_nil ⟨rfl,?_⟩
   refine mix_quiet [] [] hs.only2 (by kernel_rfl) (by kernel_rfl) fun hne=>?_
   simp only[opsAt]
   refine wpQuiet_nil ?_
   clear hne
   refine wpMix_end ?_
   go_wp2
   go_meet
   exact⟨g9,hd,rfl,hs.pm⟩
 case rest=>
 clear hs
 obtain⟨g9,hd,rfl,hs⟩:=hcut
 have f2:World.cell? _ ⟨g7,2,none⟩=some (.int .i64 o.c):=Rd.blk (by rfl) _ hs.drop
 go_upto_region 3 with (first
  | (refine wpl_load_agg (cs:=YtiafdlofcjbllaaGreatDoor.c3 o.v) (b:=g7) (o:=4) rfl agg3 size3n hs ?hh ?_;case hh=>exact fun j x hx=>(Rd.blk (c9o_v hx)).tail)
  | (go_at_call 18;refine (fit_c hs o.c o.v).mono ?_;clear hs f2;rintro r w ⟨v,rfl,hs⟩)
  | (refine wpl_alloc zero3 hs ?_;clear hs;intro g10 w hs)
  | (refine wpl_store_agg (v:=val3 v) rfl rfl (size3 _) hs WrA.slot3 ?_;clear hs;intro w hs))
 replace hs:St w0 (blk g7 (c9o o).toArray 138::blk g9 (h2 hd).toArray 40::blk g10 (YtiafdlofcjbllaaGreatDoor.c3 v).toArray 38::WoB W E A R X Q n s::DwB M t::blk AP #[.slice Ba na ca] 36::own Ba na ca 40 2 (hsV all)::L) _:=hs.pm
 go_upto_region 3 with (fail)
 by_cases h0:o.k=0
 ·exact do_create h0 hT hk9 hm8 HP hna HNA hs _ _ (by assumption) (by assumption)
 by_cases h1:o.k=1
 ·exact do_raise h1 hT hk9 hm8 HP hna HNA hs _ _ (by assumption) (by assumption)
 by_cases h2:o.k=2
 ·exact do_del h2 hT hk9 hm8 HP hna HNA hs _ _ (by assumption) (by assumption)
 by_cases h3:o.k=3
 ·exact do_ins h3 hT hk9 hm8 HP hna HNA hs _ _ (by assumption) (by assumption)
 by_cases h4:o.k=4
 ·exact do_rem h4 hT hk9 hm8 HP hna HNA hs _ _ (by assumption) (by assumption)
 by_cases h5:o.k=5
 ·exact do_get h5 hT hk9 hm8 HP hna HNA hs _ _ (by assumption) (by assumption)
 by_cases h6:o.k=6
 ·exact do_set h6 hT hk9 hm8 HP hna HNA hs _ _ (by assumption) (by assumption)
 by_cases h7:o.k=7
 ·exact do_defer h7 hT hk9 hm8 HP hna HNA hs _ _ (by assumption) (by assumption)
 by_cases h8:o.k=8
 ·exact do_maint h8 hT hk9 hm8 HP hna HNA hs _ _ (by assumption) (by assumption)
 by_cases h9:o.k=9
 ·exact do_reader h9 hT hk9 hm8 HP hna HNA hs _ _ (by assumption) (by assumption)
 by_cases h10:o.k=10
 ·exact do_read h10 hT hk9 hm8 HP hna HNA hs _ _ (by assumption) (by assumption)
 by_cases h11:o.k=11
 ·exact do_hold h11 hT hk9 hm8 HP hna HNA hs _ _ (by assumption) (by assumption)
 exact do_free (fun j hj h=>by omega) hT hk9 hm8 HP hna HNA hs _ _ (by assumption) (by assumption)
set_option maxHeartbeats 8000000 in
theorem woplays_c {w0:World} (hT:Tab w0) (z0 z1:Int) {va:Value} {za:List Int} (hva:IntArg w0 va za) {vb:Value} {xs:List OpV} (hvb:RowsArg c9o (fun _=>True) w0 vb xs):
  Calls Tryz.prog 12 #[.int .i64 z0, .int .i64 z1,va,vb] w0 (LawPost w0):=by
 obtain⟨A0,na0,ca0,rfl,hna,hnc,hcm,hra, -⟩:=hva
 obtain⟨A2,ca2,rfl,hnc2,hcm2,hrb, -⟩:=hvb
 unfold maxLen at hcm hcm2
 have HNA0:=Lib.hid hna
 have hnb:na0≤9223372036854775807:=by omega
 clear hna hnc hcm
 obtain⟨nb,hxn⟩:∃ n,Hid (xs.length=n):=⟨_,rfl⟩
 rw[hxn.out] at hnc2
 have hnb2:nb≤9223372036854775807:=by omega
 rw[hxn.out]
 clear hnc2 hcm2
 have hs:=St.start w0
 obtain⟨ds,hds⟩:∃ z,Hid (descsL za=z):=⟨_,rfl⟩
 have HOK:Hid (∀ d∈ds,descE d=0):=by rw[Hid,← hds.out];exact descsL_ok za
 have hl8:ds.length≤8:=by rw[← hds.out];exact descsL_len za
 have HER:Hid (errDs 0 ds=0):=errDs_ok HOK.out (by omega)
 obtain⟨N,HN⟩:∃ N,Hid (lo8 z0 % 14+1=N):=⟨_,rfl⟩
 obtain⟨q3,HQ3⟩:∃ q,Hid ((z1 % 4).toNat=q):=⟨_,rfl⟩
 have hN1:1≤N:=by have:=HN.out;omega
 have hN2:N≤65536:=by have:=HN.out;omega
 have hq4:q3 < 4:=by have:=HQ3.out;omega
 go_enter Tryz.func12,Tryz.ntmps12
 go_upto_region 2 with (first
  | (go_at_call 58;refine (config_c hs HNA0 hnb hra hds HN HQ3).mono ?_;clear hs;rintro r w ⟨B,m,cB,G,hm,rfl,hs⟩)
  | (refine wpl_alloc zeroCf hs ?_;clear hs;intro g9 w hs;replace hs:St w0 (blk g9 (cfC 0 0 none 0 0 none 0 0).toArray 28::_) w:=hs)
  | (refine wpl_store_agg (v:= .agg (cfC (N:Nat) ((q3:Nat)+1) B m cB (some ⟨G,0,none⟩) 2 2).toArray) rfl rfl (sizeCfv _ _ _ _ _ _ _ _) hs WrA.slotCf ?_;clear hs;intro w hs))
 have hm8:m≤8:=by rw[← hm.out];exact hl8
 clear hl8 hra hnb HNA0 hds HN HQ3
 go_upto_region 5 with (first
  | (refine wpl_load_agg (cs:=cfC (N:Nat) ((q3:Nat)+1) B m cB (some ⟨G,0,none⟩) 2 2) (b:=g9) (o:=0) rfl aggCf (sizeCf _ _ _ _ _ _ _ _) hs ?hh ?_;case hh=>exact fun j x hx=>Rd.blk (by simpa using hx))
  | (go_at_call 47;refine (wo_new (n:=N) (top:=(q3:Nat)+1) hs hN1 hN2 (by omega) (by omega) hm (by omega) (RdS.own hs.drop).tail HER (B:=some ⟨G,0,none⟩) (fun h=>nomatch h) (k:=2) (rs:=[3, -7]) rfl (by decide) (by decide) RdS.blk.tail.tail).mono ?_;clear hs;rintro r w ⟨W,E,A,R,X,Q,l,HNL,rfl,hs⟩)
  | (go_at_call 46;refine (awake16 (hT.grew hs.below)).mono ?_;rintro r w ⟨rfl,hg⟩;replace hs:=hs.grew hg;clear hg))
 have HOK1:=Lib.hid (en_oks (wo_en hs))
 clear HER
 go_upto_region 7 with (first
  | (refine wpl_load_agg (cs:=cfC (N:Nat) ((q3:Nat)+1) B m cB (some ⟨G,0,none⟩) 2 2) (b:=g9) (o:=0) rfl aggCf (sizeCf _ _ _ _ _ _ _ _) hs ?hh ?_;case hh=>exact fun j x hx=>(Rd.blk (by simpa using hx)).tail)
  | (go_at_call 16;refine (dw_new (n:=N) (top:=(q3:Nat)+1) (rs:=[3, -7]) (k:=2) hs hN2 (by omega) (by omega) hm (by omega) (RdS.own hs.drop.drop).tail.tail HOK rfl (by decide) (by decide) RdS.blk.tail.tail.tail).mono ?_;clear hs;rintro r w ⟨M,l2,rfl,HNL2,hs⟩)
  | (refine wpl_alloc zeroSh hs ?_;clear hs;intro AP w hs;replace hs:St w0 (blk AP #[.slice none 0 0] 36::_) w:=hs))
 have HP0:Hid (WpI ⟨⟨(q3:Nat)+1,newA N,l⟩,[],[3, -7],false⟩ ⟨⟨(q3:Nat)+1,newA N,l2⟩,[],[3, -7],false⟩ m 0):={
  al:=⟨NewL.al HNL.out HNL2.out HOK1.out (dw_oks hs.drop),rfl,rfl,rfl⟩
  len:=by show l.length=m;rw[HNL.out.len];exact hm.out
  ev:=by rw[Nat.zero_mul];exact HNL.out.pt.ev
  q:=Nat.zero_le _
  r:=by show 2≤32;decide
  rd:=HNL.out.rdl }
 clear HNL HNL2 HOK1 HOK
 generalize (⟨⟨(q3:Nat)+1,newA N,l⟩,[],[3, -7],false⟩:WoS)=s0 at hs HP0
 generalize (⟨⟨(q3:Nat)+1,newA N,l2⟩,[],[3, -7],false⟩:WoS)=t0 at hs HP0
 replace hs:St w0 (WoB W E A R X Q N s0::DwB M t0::blk AP #[.slice none 0 0] 36::own none 0 0 40 2 (hsV [])::[blk g9 (cfC (N:Nat) ((q3:Nat)+1) B m cB (some ⟨G,0,none⟩) 2 2).toArray 28,own B m cB 97 3 (cs3 ds),blk G (i8v [3, -7]).toArray 2]) w:=by
  rw[show hsV []=[] by unfold hsV;rfl]
  exact (St.own_nil hs 40 2).pm
 generalize [blk g9 (cfC (N:Nat) ((q3:Nat)+1) B m cB (some ⟨G,0,none⟩) 2 2).toArray 28,own B m cB 97 3 (cs3 ds),blk G (i8v [3, -7]).toArray 2]=L at hs
 go_upto_region 8 with (fail)
 go_loopw [14] (fun iv wr=>∃ (i na ca:Nat) (Ba:Option Addr) (all:List Hdl) (s t:WoS),(i≤nb∧i≤100∧na≤i)∧iv= .int .i64 (i:Nat)∧Hid (all.length=na)∧Hid (WpI s t m i)∧St w0 (WoB W E A R X Q N s::DwB M t::blk AP #[.slice Ba na ca] 36::own Ba na ca 40 2 (hsV all)::L) wr) (fun iv _=>nb - (intOf iv).toNat)
 case atStart=>exact⟨0,0,0,none,[],s0,t0,by omega,rfl,rfl,HP0,hs⟩
 case round=>
  clear hs HP0 s0 t0
  obtain⟨i,na,ca,Ba,all,s,t,⟨hi,hi1,hna⟩,rfl,HNA,HP,hs⟩:=hrel
  by_cases hl1:i < nb
  ·by_cases hl2:i < 100
   ·have hl3:(i:Int) < 100:=by omega
    obtain⟨o,ho⟩:∃ o,xs[i]? =some o:=⟨_,List.getElem?_eq_getElem (by rw[hxn.out];exact hl1)⟩
    have hcell:=fun k x hx=>hrb.get (rows_get (C:=9) (encX:=c9o) (fun _=>rfl) ho k x hx)
    obtain⟨b9,off,hA2,_⟩:=hcell 0 _ rfl
    have hld:∀ k x,(c9o o)[k]? =some x→Rd w0 [] ⟨b9,off+i*9+k,none⟩ x:=fun k x hx=>by
     obtain⟨b',o',he,hr⟩:=hcell k x hx
     rw[hA2] at he
     injection he with he
     injection he with e1 e2
     subst e1;subst e2
     rw[Nat.add_assoc];exact hr
    subst hA2
    clear hcell ho
    go_upto_region 9 with (first
     | (refine wpl_load_agg (cs:=c9o o) (b:=b9) (o:=off+i*9) rfl agg9o (size9o o) hs ?hh ?_;case hh=>exact fun j x hx=>RdL0 (hld j x hx))
     | (go_at_call 69;refine (do_c hT hl2 hm8 HP hna HNA hs o).mono ?_;clear hs HP HNA hna;rintro r w ⟨rfl,na,ca,Ba,all,s,t,hna,HNA,HP,hs⟩)
     | (go_at_call 70;refine (same_w hT (by omega) hm8 HP hs).mono ?_;clear hs;rintro r w ⟨rfl,hs⟩))
    clear hld
    go_wp2
    go_roundw
    case rel=>exact⟨i+1,na,ca,Ba,all,s,t,by omega,by first | rfl | go_num,HNA,HP,hs⟩
    case measure=>simp[intOf];omega
   ·have hl3:¬ (i:Int) < 100:=by omega
    go_wp2
    go_ret
    exact⟨rfl,hs.grew0⟩
  ·skip
   go_wp2
   go_ret
   exact⟨rfl,hs.grew0⟩
end
end Go.Proofs.YtiafdlofcjbllaaGreatDoor
