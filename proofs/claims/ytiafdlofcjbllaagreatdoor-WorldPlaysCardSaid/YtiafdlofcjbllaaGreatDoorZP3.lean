/-
  WorldPlays: the statements' Ops.
-/
import Derived.Test.YtiafdlofcjbllaaGreatDoorZP1
import Derived.Test.YtiafdlofcjbllaaGreatDoorZG
import Derived.Test.YtiafdlofcjbllaaGreatDoorZW8
import Derived.Deep.DeepCutAuto
import Derived.Deep.CutRange
import Derived.Deep.CutBlock
set_option maxRecDepth 100000
namespace Go.Proofs.YtiafdlofcjbllaaGreatDoor
section
open Go Go.RowKit
theorem build_kh (k i g:Int) (w:World):(Instr.build 99 #[(0, .int .i64 k),(1,hv (i,g))]).run Tryz.prog w= .ok (valW ⟨k,(i,g),0,V3.z⟩) w:=by kernel_rfl
theorem build_kcv (k c:Int) (v:V3) (w:World):(Instr.build 99 #[(0, .int .i64 k),(2, .int .i64 c),(3,val3 v)]).run Tryz.prog w= .ok (valW ⟨k,(0,0),c,v⟩) w:=by kernel_rfl
theorem Wr.opk {w0:World} {g:Nat} {k k' c:Int} {h:Hdl} {v:V3} {t:TypeId} {L:List As}:Wr w0 (YtiafdlofcjbllaaGreatDoor.blk g (c7w ⟨k,h,c,v⟩).toArray t::L) ⟨g,0,none⟩ (.int .i64 k') (YtiafdlofcjbllaaGreatDoor.blk g (c7w ⟨k',h,c,v⟩).toArray t::L):=Wr.blk (by simp[c7w])
theorem Wr.opc {w0:World} {g:Nat} {k c c':Int} {h:Hdl} {v:V3} {t:TypeId} {L:List As}:Wr w0 (YtiafdlofcjbllaaGreatDoor.blk g (c7w ⟨k,h,c,v⟩).toArray t::L) ⟨g,3,none⟩ (.int .i64 c') (YtiafdlofcjbllaaGreatDoor.blk g (c7w ⟨k,h,c',v⟩).toArray t::L):=Wr.blk (by simp[c7w])
theorem WrA.opv {w0:World} {g:Nat} {k c:Int} {h:Hdl} {v v':V3} {t:TypeId} {L:List As}:WrA w0 (YtiafdlofcjbllaaGreatDoor.blk g (c7w ⟨k,h,c,v⟩).toArray t::L) ⟨g,4,none⟩ (val3 v').cells.toList (YtiafdlofcjbllaaGreatDoor.blk g (c7w ⟨k,h,c,v'⟩).toArray t::L):=by
 have:=WrA.blk (w0:=w0) (g:=g) (o:=4) (cs:=c7w ⟨k,h,c,v⟩) (t:=t) (vs:=YtiafdlofcjbllaaGreatDoor.c3 v') (L:=L) (by simp[c7w,YtiafdlofcjbllaaGreatDoor.c3]) (by simp[YtiafdlofcjbllaaGreatDoor.c3];exact⟨rfl,rfl,rfl⟩)
 rwa [show splice (c7w ⟨k,h,c,v⟩) 4 (YtiafdlofcjbllaaGreatDoor.c3 v')=c7w ⟨k,h,c,v'⟩ by (obtain⟨i,j⟩:=h;rfl)] at this
theorem own_blk1 {g:Nat} {o:OpW}:∀ h,blk g (c7w o).toArray 99 h→own (some ⟨g,0,none⟩) 1 1 99 7 ([o].flatMap c7w) h:=by
 rw[c7_single]
 exact own_of_blkN (n:=1) (C:=7) rfl (by decide)
theorem flat_snoc7 (l:List OpW) (o:OpW):l.flatMap c7w++c7w o=(l++[o]).flatMap c7w:=by simp
theorem c9o_v' {o:OpV} {j:Nat} {x:Value} (h:(YtiafdlofcjbllaaGreatDoor.c3 o.v)[j]? =some x):(c9o o).toArray[4+j]? =some x:=by
 rw[List.getElem?_toArray]
 match j,h with
 | 0,h=>exact h
 | 1,h=>exact h
 | 2,h=>exact h
 | k+3,h=>simp[YtiafdlofcjbllaaGreatDoor.c3] at h
attribute [local irreducible] wpList Calls Code.wp stV EnS.live EnS.slot rgP padA newSl descE newA cs3 hsV
set_option maxHeartbeats 8000000 in
theorem ops_c {w0 w:World} {L:List As} {M:Nat} {t:WoS} {A:Option Addr} {n cA:Nat} {all:List Hdl} (hs:St w0 (DwB M t::own A n cA 40 2 (hsV all)::L) w) (hn:Hid (all.length=n)) (o:OpV):
  Calls Tryz.prog 117 #[.pointer (some ⟨M,0,none⟩), .slice A n cA, .agg (c9o o).toArray] w fun r w'=>∃ (l:List OpW) (B:Option Addr) (q c:Nat),Hid (l.length=q)∧q≤3∧r= .returned (.slice B q c)∧St w0 (own B q c 99 7 (l.flatMap c7w)::DwB M t::own A n cA 40 2 (hsV all)::L) w':=by
 obtain⟨q8,hq8⟩:∃ q,lo8 o.n=q:=⟨_,rfl⟩
 have h255:bits .and .i64 o.n 255=(q8:Nat):=by rw[← hq8];exact and_255 o.n
 clear hq8
 obtain⟨x0,hx0⟩:∃ x:Int,(q8:Int) % 5 - 1=x:=⟨_,rfl⟩
 have hx1: -1≤x0:=by omega
 have hx2:x0≤3:=by omega
 go_enter Tryz.func117,Tryz.ntmps117
 go_upto_region 1 with (first
  | (refine wpl_box_v (v:= .agg (c9o o).toArray) rfl hs ?_;clear hs;intro g5 w hs;replace hs:St w0 (blk g5 (c9o o).toArray 138::DwB M t::own A n cA 40 2 (hsV all)::L) w:=hs))
 go_cut [7] from 9 to 20 (fun pv wx=>∃ (g7:Nat) (i1 g1:Int),pv= .pointer (some ⟨g7,0,none⟩)∧St w0 (blk g7 (c7w ⟨x0,(i1,g1),0,V3.z⟩).toArray 99::blk g5 (c9o o).toArray 138::DwB M t::own A n cA 40 2 (hsV all)::L) wx)
 case first=>
  refine wp_mix 4 [0,1,2,3,4,5,6,7,8,9] [10,11,12,13] hs.only (by kernel_rfl) (by kernel_rfl) fun hne=>?_
  have r0:=(show Rd w0 [blk g5 (c9o o).toArray 138] ⟨g5,3,none⟩ (.int .i64 o.n) from Rd.blk rfl).alln
  have r1:=(show Rd w0 [blk g5 (c9o o).toArray 138] ⟨g5,1,none⟩ (.int .i64 o.h) from Rd.blk rfl).alln
  have r2:=(show Rd w0 [blk g5 (c9o o).toArray 138] ⟨g5,7,none⟩ (.int .i64 o.r.1) from Rd.blk rfl).alln
  have r3:=(show Rd w0 [blk g5 (c9o o).toArray 138] ⟨g5,8,none⟩ (.int .i64 o.r.2) from Rd.blk rfl).alln
  simp only[opsAt,List.getElem?_toArray,List.getElem?_cons_succ,List.getElem?_cons_zero]
  repeat (go_big_quiet_step (fail))
  refine wpQuiet_nil ?_
  clear hne r0 r1 r2 r3
  replace hs:=hs.drew
  refine wpMix_next [10,12] (by kernel_rfl) (by simp) (fun c hc=>?_)
  simp only[List.mem_cons,List.not_mem_nil,or_false] at hc
  rcases hc with rfl | rfl
  ·skip
   refine⟨_,rfl,?_⟩
   have hs2:St w0 (own A n cA 40 2 (hsV all)::blk g5 (c9o o).toArray 138::DwB M t::L) _:=hs.pm
   go_wp2_with (first
    | (go_at_call 17;refine (pick_c hs2 hn (RdS.own hs2) _ o.r).mono ?_;clear hs hs2;rintro r w ⟨⟨i1,g1⟩,rfl,hs⟩;replace hs:St w0 (blk g5 (c9o o).toArray 138::DwB M t::own A n cA 40 2 (hsV all)::L) w:=hs.pm))
   refine mix_quiet [] [11,12,13] hs.only (by kernel_rfl) (by kernel_rfl) fun hne=>?_
   simp only[opsAt]
   refine wpQuiet_nil ?_
   clear hne
   refine wpMix_next [11,12] (by kernel_rfl) (by simp) (fun c hc=>?_)
   simp only[List.mem_cons,List.not_mem_nil,or_false] at hc
   rcases hc with rfl | rfl
   ·skip
    refine⟨_,rfl,?_⟩
    refine wpl_buildS (build_kh x0 i1 g1) rfl ?_
    refine wpList_nil ⟨rfl,?_⟩
    refine mix_quiet [] [12,13] hs.only (by kernel_rfl) (by kernel_rfl) fun hne=>?_
    simp only[opsAt]
    refine wpQuiet_nil ?_
    clear hne
    refine wpMix_next [12] (by kernel_rfl) (by simp) (fun c hc=>?_)
    simp only[List.mem_singleton] at hc
    subst hc
    refine⟨_,rfl,?_⟩
    refine wpl_alloc zeroWo hs ?_
    clear hs
    intro g7 w hs
    replace hs:St w0 (blk g7 (c7w ⟨0,(0,0),0,V3.z⟩).toArray 99::_) w:=hs
    replace hs:St w0 (blk g5 (c9o o).toArray 138::DwB M t::own A n cA 40 2 (hsV all)::blk g7 (c7w ⟨0,(0,0),0,V3.z⟩).toArray 99::L) w:=hs.pm
    refine wpList_nil ⟨rfl,?_⟩
    refine mix_quiet [] [13] hs.only (by kernel_rfl) (by kernel_rfl) fun hne=>?_
    simp only[opsAt]
    refine wpQuiet_nil ?_
    clear hne
    refine wpMix_next [13] (by kernel_rfl) (by simp) (fun c hc=>?_)
    simp only[List.mem_singleton] at hc
    subst hc
    refine⟨_,rfl,?_⟩
    refine wpl_store_agg (v:=valW ⟨x0,(i1,g1),0,V3.z⟩) rfl rfl (sizeWv _) (hs.pm (M:=blk g7 (c7w ⟨0,(0,0),0,V3.z⟩).toArray 99::blk g5 (c9o o).toArray 138::DwB M t::own A n cA 40 2 (hsV all)::L)) WrA.slotW ?_
    clear hs
    intro w hs
    replace hs:St w0 (blk g5 (c9o o).toArray 138::DwB M t::own A n cA 40 2 (hsV all)::blk g7 (c7w ⟨x0,(i1,g1),0,V3.z⟩).toArray 99::L) w:=hs.pm
    refine wpList_nil ⟨rfl,?_⟩
    refine mix_quiet [] [] hs.only (by kernel_rfl) (by kernel_rfl) fun hne=>?_
    simp only[opsAt]
    refine wpQuiet_nil ?_
    clear hne
    refine wpMix_end ?_
    go_wp2
    go_meet
    exact⟨g7,i1,g1,rfl,hs.pm⟩
   ·skip
    refine⟨_,rfl,?_⟩
    refine wpl_alloc zeroWo hs ?_
    clear hs
    intro g7 w hs
    replace hs:St w0 (blk g7 (c7w ⟨0,(0,0),0,V3.z⟩).toArray 99::_) w:=hs
    replace hs:St w0 (blk g5 (c9o o).toArray 138::DwB M t::own A n cA 40 2 (hsV all)::blk g7 (c7w ⟨0,(0,0),0,V3.z⟩).toArray 99::L) w:=hs.pm
    refine wpList_nil ⟨rfl,?_⟩
    refine mix_quiet [] [11,13] hs.only (by kernel_rfl) (by kernel_rfl) fun hne=>?_
    simp only[opsAt]
    refine wpQuiet_nil ?_
    clear hne
    refine wpMix_next [11] (by kernel_rfl) (by simp) (fun c hc=>?_)
    simp only[List.mem_singleton] at hc
    subst hc
    refine⟨_,rfl,?_⟩
    refine wpl_buildS (build_kh x0 i1 g1) rfl ?_
    refine wpList_nil ⟨rfl,?_⟩
    refine mix_quiet [] [13] hs.only (by kernel_rfl) (by kernel_rfl) fun hne=>?_
    simp only[opsAt]
    refine wpQuiet_nil ?_
    clear hne
    refine wpMix_next [13] (by kernel_rfl) (by simp) (fun c hc=>?_)
    simp only[List.mem_singleton] at hc
    subst hc
    refine⟨_,rfl,?_⟩
    refine wpl_store_agg (v:=valW ⟨x0,(i1,g1),0,V3.z⟩) rfl rfl (sizeWv _) (hs.pm (M:=blk g7 (c7w ⟨0,(0,0),0,V3.z⟩).toArray 99::blk g5 (c9o o).toArray 138::DwB M t::own A n cA 40 2 (hsV all)::L)) WrA.slotW ?_
    clear hs
    intro w hs
    replace hs:St w0 (blk g5 (c9o o).toArray 138::DwB M t::own A n cA 40 2 (hsV all)::blk g7 (c7w ⟨x0,(i1,g1),0,V3.z⟩).toArray 99::L) w:=hs.pm
    refine wpList_nil ⟨rfl,?_⟩
    refine mix_quiet [] [] hs.only (by kernel_rfl) (by kernel_rfl) fun hne=>?_
    simp only[opsAt]
    refine wpQuiet_nil ?_
    clear hne
    refine wpMix_end ?_
    go_wp2
    go_meet
    exact⟨g7,i1,g1,rfl,hs.pm⟩
  ·skip
   refine⟨_,rfl,?_⟩
   refine wpl_alloc zeroWo hs ?_
   clear hs
   intro g7 w hs
   replace hs:St w0 (blk g7 (c7w ⟨0,(0,0),0,V3.z⟩).toArray 99::_) w:=hs
   replace hs:St w0 (blk g5 (c9o o).toArray 138::DwB M t::own A n cA 40 2 (hsV all)::blk g7 (c7w ⟨0,(0,0),0,V3.z⟩).toArray 99::L) w:=hs.pm
   refine wpList_nil ⟨rfl,?_⟩
   refine mix_quiet [] [10,11,13] hs.only (by kernel_rfl) (by kernel_rfl) fun hne=>?_
   simp only[opsAt]
   refine wpQuiet_nil ?_
   clear hne
   refine wpMix_next [10] (by kernel_rfl) (by simp) (fun c hc=>?_)
   simp only[List.mem_singleton] at hc
   subst hc
   refine⟨_,rfl,?_⟩
   have hs2:St w0 (own A n cA 40 2 (hsV all)::blk g5 (c9o o).toArray 138::DwB M t::blk g7 (c7w ⟨0,(0,0),0,V3.z⟩).toArray 99::L) _:=hs.pm
   go_wp2_with (first
    | (go_at_call 17;refine (pick_c hs2 hn (RdS.own hs2) _ o.r).mono ?_;clear hs hs2;rintro r w ⟨⟨i1,g1⟩,rfl,hs⟩;replace hs:St w0 (blk g5 (c9o o).toArray 138::DwB M t::own A n cA 40 2 (hsV all)::blk g7 (c7w ⟨0,(0,0),0,V3.z⟩).toArray 99::L) w:=hs.pm))
   refine mix_quiet [] [11,13] hs.only (by kernel_rfl) (by kernel_rfl) fun hne=>?_
   simp only[opsAt]
   refine wpQuiet_nil ?_
   clear hne
   refine wpMix_next [11] (by kernel_rfl) (by simp) (fun c hc=>?_)
   simp only[List.mem_singleton] at hc
   subst hc
   refine⟨_,rfl,?_⟩
   refine wpl_buildS (build_kh x0 i1 g1) rfl ?_
   refine wpList_nil ⟨rfl,?_⟩
   refine mix_quiet [] [13] hs.only (by kernel_rfl) (by kernel_rfl) fun hne=>?_
   simp only[opsAt]
   refine wpQuiet_nil ?_
   clear hne
   refine wpMix_next [13] (by kernel_rfl) (by simp) (fun c hc=>?_)
   simp only[List.mem_singleton] at hc
   subst hc
   refine⟨_,rfl,?_⟩
   refine wpl_store_agg (v:=valW ⟨x0,(i1,g1),0,V3.z⟩) rfl rfl (sizeWv _) (hs.pm (M:=blk g7 (c7w ⟨0,(0,0),0,V3.z⟩).toArray 99::blk g5 (c9o o).toArray 138::DwB M t::own A n cA 40 2 (hsV all)::L)) WrA.slotW ?_
   clear hs
   intro w hs
   replace hs:St w0 (blk g5 (c9o o).toArray 138::DwB M t::own A n cA 40 2 (hsV all)::blk g7 (c7w ⟨x0,(i1,g1),0,V3.z⟩).toArray 99::L) w:=hs.pm
   refine wpList_nil ⟨rfl,?_⟩
   refine mix_quiet [] [] hs.only (by kernel_rfl) (by kernel_rfl) fun hne=>?_
   simp only[opsAt]
   refine wpQuiet_nil ?_
   clear hne
   refine wpMix_end ?_
   go_wp2
   go_meet
   exact⟨g7,i1,g1,rfl,hs.pm⟩
 case rest=>
 clear hs h255
 obtain⟨g7,i1,g1,rfl,hs⟩:=hcut
 obtain⟨L2,HL2⟩:∃ z,Hid ((own A n cA 40 2 (hsV all)::L)=z):=⟨_,rfl⟩
 rw[HL2.out] at hs
 have f0:World.cell? _ ⟨g7,0,none⟩=some (.int .i64 x0):=Rd.blk (by rfl) _ hs
 go_upto_region 2 with (fail)
 go_cut [28] from 21 to 28 (fun bv wx=>∃ b:Bool,bv= .bool b∧St w0 (blk g7 (c7w ⟨x0,(i1,g1),0,V3.z⟩).toArray 99::blk g5 (c9o o).toArray 138::DwB M t::L2) wx)
 case first=>
  by_cases k2:x0=2
  ·have d2:(x0==2)=true:=by simp[k2]
   go_wp2
   go_meet
   exact⟨_,rfl,hs⟩
  ·have d2:(x0==2)=false:=by simp[k2]
   go_wp2
   go_meet
   exact⟨_,rfl,hs⟩
 case rest=>
 clear hs f0
 obtain⟨b,rfl,hs⟩:=hcut
 have f2:World.cell? _ ⟨g5,2,none⟩=some (.int .i64 o.c):=Rd.blk (by rfl) _ hs.drop
 go_upto_if 28 with (fail)
 go_cut [] from 28 to 31 (fun wx=>∃ c:Int,St w0 (blk g7 (c7w ⟨x0,(i1,g1),c,V3.z⟩).toArray 99::blk g5 (c9o o).toArray 138::DwB M t::L2) wx)
 case first=>
  cases b
  ·go_wp2
   go_meet
   exact⟨_,hs⟩
  ·(go_wp2_with (first
    | (refine wpl_store (v:= .int .i64 o.c) rfl rfl rfl size_in hs Wr.opc ?_;clear hs f2;intro w hs)))
   go_meet
   exact⟨_,hs⟩
 case rest=>
 clear hs f2
 obtain⟨c,hs⟩:=hcut
 have f0:World.cell? _ ⟨g7,0,none⟩=some (.int .i64 x0):=Rd.blk (by rfl) _ hs
 have f2:World.cell? _ ⟨g5,2,none⟩=some (.int .i64 o.c):=Rd.blk (by rfl) _ hs.drop
 go_upto_if 34 with (fail)
 clear f0
 go_cut [] from 34 to 41 (fun wx=>∃ v:V3,St w0 (blk g7 (c7w ⟨x0,(i1,g1),c,v⟩).toArray 99::blk g5 (c9o o).toArray 138::DwB M t::L2) wx)
 case first=>
  by_cases k2:x0=2
  ·have d2:(x0==2)=true:=by simp[k2]
   clear k2
   (go_wp2_with (first
    | (refine wpl_load_agg (cs:=YtiafdlofcjbllaaGreatDoor.c3 o.v) (b:=g5) (o:=4) rfl agg3 size3n hs ?hh ?_;case hh=>exact fun j x hx=>(Rd.blk (c9o_v' hx)).tail)
    | (go_at_call 18;refine (fit_c hs.up2 o.c o.v).mono ?_;clear hs f2;rintro r w ⟨v,rfl,hs⟩;replace hs:St w0 (blk g7 (c7w ⟨x0,(i1,g1),c,V3.z⟩).toArray 99::blk g5 (c9o o).toArray 138::DwB M t::L2) w:=hs.pm)
    | (refine wpl_store_agg (v:=val3 v) rfl rfl (size3 _) hs WrA.opv ?_;clear hs;intro w hs)))
   go_meet
   exact⟨_,hs⟩
  ·have d2:(x0==2)=false:=by simp[k2]
   clear k2
   go_wp2
   go_meet
   exact⟨_,hs⟩
 case rest=>
 clear hs f2
 obtain⟨v,hs⟩:=hcut
 have f0:World.cell? _ ⟨g7,0,none⟩=some (.int .i64 x0):=Rd.blk (by rfl) _ hs
 go_upto_if 44 with (fail)
 clear f0
 go_cut [] from 44 to 45 (fun wx=>∃ k:Int,St w0 (blk g7 (c7w ⟨k,(i1,g1),c,v⟩).toArray 99::blk g5 (c9o o).toArray 138::DwB M t::L2) wx)
 case first=>
  by_cases k0:x0≤0
  ·have d0:decide (x0≤0)=true:=decide_eq_true k0
   (go_wp2_with (first
    | (refine wpl_store (v:= .int .i64 1) rfl rfl rfl size_in hs Wr.opk ?_;clear hs;intro w hs)))
   go_meet
   exact⟨_,hs⟩
  ·have d0:decide (x0≤0)=false:=decide_eq_false k0
   go_wp2
   go_meet
   exact⟨_,hs⟩
 case rest=>
 clear hs
 obtain⟨k,hs⟩:=hcut
 generalize (⟨k,(i1,g1),c,v⟩:OpW)=xo at hs
 go_upto_region 9 with (first
  | (refine wpl_load_agg (cs:=c7w xo) (b:=g7) (o:=0) rfl aggW (sizeW xo) hs ?hh ?_;case hh=>exact fun j x hx=>Rd.blk (by simpa using hx))
  | (refine wpl_build1 (v:=valW xo) elemW (by decide) rfl rfl hs ?_;clear hs;intro G8 w hs;replace hs:St w0 (blk G8 (c7w xo).toArray 99::_) w:=hs))
 replace hs:=hs.conv own_blk1
 have f3:World.cell? _ ⟨g5,3,none⟩=some (.int .i64 o.n):=Rd.blk (by rfl) _ hs.drop.drop
 go_upto_if 52 with (fail)
 clear f3
 go_cut [8] from 52 to 56 (fun bv wx=>∃ (l:List OpW) (B:Option Addr) (q c:Nat),bv= .slice B q c∧Hid (l.length=q)∧q≤2∧St w0 (own B q c 99 7 (l.flatMap c7w)::blk g7 (c7w xo).toArray 99::blk g5 (c9o o).toArray 138::DwB M t::L2) wx)
 case first=>
  by_cases b1:bits .and .i64 (o.n / 256) 3=1
  ·have d1:(bits .and .i64 (o.n / 256) 3==1)=true:=by simp[b1]
   clear b1
   (go_wp2_with (first
    | (refine wpl_load_agg (cs:=c7w xo) (b:=g7) (o:=0) rfl aggW (sizeW xo) hs ?hh ?_;case hh=>exact fun j x hx=>(Rd.blk (by simpa using hx)).tail)
    | (refine wpl_build1 (v:=valW xo) elemW (by decide) rfl rfl hs ?_;clear hs;intro G9 w hs;replace hs:St w0 (blk G9 (c7w xo).toArray 99::_) w:=hs)
    | (refine wpl_append (A:=some ⟨G8,0,none⟩) (n:=1) (cap:=1) (xs:=[xo].flatMap c7w) (m:=1) (news:=c7w xo) elemW rfl rfl hs (L':=blk G9 (c7w xo).toArray 99::blk g7 (c7w xo).toArray 99::blk g5 (c9o o).toArray 138::DwB M t::L2) (EP.ent (by repeat constructor)) RdS.blk rfl (c7w_one xo) (by unfold maxLen;omega) (by omega) ?_;clear hs;intro B8 c8 w hs)))
   go_meet
   exact⟨[xo]++[xo],B8,2,c8,rfl,rfl,by omega,by rw[← flat_snoc7];exact (hs.ent (EP.ent (by repeat constructor):Ent _ (blk G9 (c7w xo).toArray 99::own B8 2 c8 99 7 ([xo].flatMap c7w++c7w xo)::blk g7 (c7w xo).toArray 99::blk g5 (c9o o).toArray 138::DwB M t::L2))).drop⟩
  ·have d1:(bits .and .i64 (o.n / 256) 3==1)=false:=by simp[b1]
   clear b1
   go_wp2
   go_meet
   exact⟨[xo],some ⟨G8,0,none⟩,1,1,rfl,rfl,by omega,hs⟩
 case rest=>
 clear hs
 obtain⟨l,B8,q8,c8,rfl,hq8,hq2,hs⟩:=hcut
 have f3:World.cell? _ ⟨g5,3,none⟩=some (.int .i64 o.n):=Rd.blk (by rfl) _ hs.drop.drop
 have f2:World.cell? _ ⟨g5,2,none⟩=some (.int .i64 o.c):=Rd.blk (by rfl) _ hs.drop.drop
 by_cases b2:bits .and .i64 (o.n / 256) 15=2
 ·have d2:(bits .and .i64 (o.n / 256) 15==2)=true:=by simp[b2]
  clear b2
  have HL8:Hid ((l.flatMap c7w).length=q8*7):=by rw[Hid,c7_len,hq8.out]
  (go_wp2_with (first
   | (refine wpl_load_agg (cs:=YtiafdlofcjbllaaGreatDoor.c3 o.v) (b:=g5) (o:=4) rfl agg3 size3n hs ?hh ?_;case hh=>exact fun j x hx=>(Rd.blk (c9o_v' hx)).tail.tail)
   | (refine wpl_buildS (build_kcv o.n o.c o.v) rfl ?_)
   | (refine wpl_build1 (v:=valW ⟨o.n,(0,0),o.c,o.v⟩) elemW (by decide) rfl rfl hs ?_;clear hs f3 f2;intro G9 w hs;replace hs:St w0 (blk G9 (c7w ⟨o.n,(0,0),o.c,o.v⟩).toArray 99::_) w:=hs)
   | (refine wpl_append (A:=B8) (n:=q8) (cap:=c8) (xs:=l.flatMap c7w) (m:=1) (news:=c7w ⟨o.n,(0,0),o.c,o.v⟩) elemW rfl rfl hs (L':=blk G9 (c7w ⟨o.n,(0,0),o.c,o.v⟩).toArray 99::blk g7 (c7w xo).toArray 99::blk g5 (c9o o).toArray 138::DwB M t::L2) (EP.ent (by repeat constructor)) RdS.blk rfl (c7w_one _) (by unfold maxLen;omega) (by omega) ?_;clear hs;intro B9 c9 w hs)))
  go_ret
  exact⟨l++[⟨o.n,(0,0),o.c,o.v⟩],B9,q8+1,c9,by rw[Hid,List.length_append,hq8.out];rfl,by omega,rfl,by rw[← flat_snoc7,HL2.out];exact (hs.ent (EP.ent (by repeat constructor):Ent _ (blk G9 (c7w ⟨o.n,(0,0),o.c,o.v⟩).toArray 99::blk g7 (c7w xo).toArray 99::blk g5 (c9o o).toArray 138::own B9 (q8+1) c9 99 7 (l.flatMap c7w++c7w ⟨o.n,(0,0),o.c,o.v⟩)::DwB M t::L2))).drop.drop.drop⟩
 ·have d2:(bits .and .i64 (o.n / 256) 15==2)=false:=by simp[b2]
  clear b2
  go_wp2
  go_ret
  exact⟨l,B8,q8,c8,hq8,by omega,rfl,by rw[HL2.out];exact (hs.ent (EP.ent (by repeat constructor):Ent _ (blk g7 (c7w xo).toArray 99::blk g5 (c9o o).toArray 138::own B8 q8 c8 99 7 (l.flatMap c7w)::DwB M t::L2))).drop.drop⟩
end
end Go.Proofs.YtiafdlofcjbllaaGreatDoor
