/-
  The document's World (vivariumref15.World), 4: New; the statements' Fit, Pick. (Printed by gen_dw4.py.)
-/
import Derived.Test.YtiafdlofcjbllaaGreatDoorZD1
import Derived.Test.YtiafdlofcjbllaaGreatDoorZG
import Derived.Deep.DeepCutAuto
import Derived.Deep.CutRange
import Derived.Deep.CutBlock
set_option maxRecDepth 100000
namespace Go.Proofs.YtiafdlofcjbllaaGreatDoor
section
open Go Go.RowKit
theorem rgP_nil:rgP []=[]:=rfl
theorem build_dw (A:Nat) (G:Option Addr) (k c:Nat) (w:World):(Instr.build 59 #[(0, .pointer (some ⟨A,0,none⟩)),(2, .slice G k c)]).run Tryz.prog w= .ok (.agg (dwC A none 0 0 G k c none 0 0 false)) w:=by kernel_rfl
theorem elemSP:ElemOk Tryz.prog 56 146 1 8:=ElemOk.of Tryz.underlying56 (z:= .pointer none) (by kernel_rfl) rfl (by decide)
theorem size_SPs:(Tryz.prog.info? 56).map (·.size)=some 1:=by kernel_rfl
theorem Wr.dw1 {w0:World} {M A:Nat} {B B':Option Addr} {m cB m' cB':Nat} {C:Option Addr} {r cC:Nat} {D:Option Addr} {q cD:Nat} {held:Bool} {t:TypeId} {L:List As}:Wr w0 (YtiafdlofcjbllaaGreatDoor.blk M (dwC A B m cB C r cC D q cD held) t::L) ⟨M,1,none⟩ (.slice B' m' cB') (YtiafdlofcjbllaaGreatDoor.blk M (dwC A B' m' cB' C r cC D q cD held) t::L):=Wr.blk (by simp[dwC])
theorem descsE_at {ds:List V3} (h:∀ d∈ds,descE d=0) {k:Nat} {d:V3} (hd:ds[k]? =some d):descE d=0:=h d (List.mem_of_getElem? hd)
attribute [local irreducible] wpList Calls Code.wp stV EnS.live EnS.slot rgP padA newSl descE newA cs3
set_option maxHeartbeats 8000000 in
theorem dw_new {w0 w:World} {L:List As} (hs:St w0 L w) {n:Nat} {top:Int} (hn2:n≤65536) (ht1:1≤top) (ht2:top≤4294967295) {A B:Option Addr} {m cA k cB:Nat} {ds:List V3} {rs:List Int} (hm:Hid (ds.length=m)) (hm6:m≤64) (hr:RdS w0 L A (cs3 ds)) (hok:Hid (∀ d∈ds,descE d=0)) (hk:Hid (rs.length=k)) (hk2:k≤32) (hkc:k≤cB) (hrs:RdS w0 L B (i8v rs)):
  Calls Tryz.prog 16 #[.agg (cfC (n:Nat) top A m cA B k cB).toArray] w fun r w'=>∃ M l,r= .returned (.pointer (some ⟨M,0,none⟩))∧Hid (NewL ds l)∧St w0 (DwB M ⟨⟨top,newA n,l⟩,[],rs,false⟩::L) w':=by
 rw[cs3_rows] at hr
 have hmin:min (k:Int) 32=(k:Int):=by omega
 have hk3:(k:Int)≤32:=by omega
 go_enter Tryz.func16,Tryz.ntmps16
 go_upto_region 1 with (first
  | (refine wpl_box_v (v:= .agg (cfC (n:Nat) top A m cA B k cB).toArray) rfl hs ?_;clear hs;intro g1 w hs;replace hs:St w0 (blk g1 (cfC (n:Nat) top A m cA B k cB).toArray 28::L) w:=hs))
 go_cut [3] from 5 to 20 (fun pv wx=>∃ M A1 G9 c9,pv= .pointer (some ⟨M,0,none⟩)∧St w0 (blk M (dwC A1 none 0 0 G9 k c9 none 0 0 false) 59::blk g1 (cfC (n:Nat) top A m cA B k cB).toArray 28::RaB A1 n top []::own G9 k c9 2 1 (i8v rs)::L) wx)
 case first=>
  refine wp_mix 5 [0,1,2,3,6,7,8,9,10,11,12] [4,5,13,14,15,16] hs.only (by kernel_rfl) (by kernel_rfl) fun hne=>?_
  have r0:=(Rd.blk (w0:=w0) (g:=g1) (k:=0) (cs:=(cfC (n:Nat) top A m cA B k cB).toArray) (v:= .int .i64 (n:Nat)) (t:=28) (L:=[]) (by rfl)).alln
  have r1:=(Rd.blk (w0:=w0) (g:=g1) (k:=1) (cs:=(cfC (n:Nat) top A m cA B k cB).toArray) (v:= .int .i64 top) (t:=28) (L:=[]) (by rfl)).alln
  have r3:=(Rd.blk (w0:=w0) (g:=g1) (k:=3) (cs:=(cfC (n:Nat) top A m cA B k cB).toArray) (v:= .slice B k cB) (t:=28) (L:=[]) (by rfl)).alln
  simp only[opsAt,List.getElem?_toArray,List.getElem?_cons_succ,List.getElem?_cons_zero]
  repeat (go_big_quiet_step (fail))
  refine wpQuiet_nil ?_
  clear hne r0 r1 r3
  replace hs:=hs.drew
  refine wpMix_next [4,5] (by kernel_rfl) (by simp) (fun c hc=>?_)
  simp only[List.mem_cons,List.not_mem_nil,or_false] at hc
  rcases hc with rfl | rfl
  ·skip
   refine⟨_,rfl,?_⟩
   go_wp2_with (first
    | (go_at_call 75;refine (rnew_c hs hn2 ht1 ht2).mono ?_;clear hs;rintro r w ⟨A1,rfl,hs⟩;replace hs:St w0 (RaB A1 n top []::_) w:=hs))
   replace hs:St w0 (blk g1 (cfC (n:Nat) top A m cA B k cB).toArray 28::RaB A1 n top []::L) w:=hs.pm
   refine mix_quiet [] [5,13,14,15,16] hs.only (by kernel_rfl) (by kernel_rfl) fun hne=>?_
   simp only[opsAt]
   refine wpQuiet_nil ?_
   clear hne
   refine wpMix_next [5] (by kernel_rfl) (by simp) (fun c hc=>?_)
   simp only[List.mem_singleton] at hc
   subst hc
   refine⟨_,rfl,?_⟩
   refine wpl_build_none elem8 hs ?_
   clear hs
   intro G8 w hs
   replace hs:St w0 (own G8 0 0 2 1 []::_) w:=hs
   replace hs:St w0 (blk g1 (cfC (n:Nat) top A m cA B k cB).toArray 28::RaB A1 n top []::own G8 0 0 2 1 []::L) w:=hs.pm
   refine wpList_nil ⟨rfl,?_⟩
   refine mix_quiet [] [13,14,15,16] hs.only (by kernel_rfl) (by kernel_rfl) fun hne=>?_
   simp only[opsAt]
   refine wpQuiet_nil ?_
   clear hne
   refine wpMix_next [13] (by kernel_rfl) (by simp) (fun c hc=>?_)
   simp only[List.mem_singleton] at hc
   subst hc
   refine⟨_,rfl,?_⟩
   refine wpl_append (A:=G8) (n:=0) (cap:=0) (xs:=[]) (B:=B) (m:=k) (news:=i8v rs) elem8 rfl rfl hs (L':=blk g1 (cfC (n:Nat) top A m cA B k cB).toArray 28::RaB A1 n top []::L) (EP.ent (by repeat constructor)) (show RdS w0 (blk g1 (cfC (n:Nat) top A m cA B k cB).toArray 28::RaB A1 n top []::own G8 0 0 2 1 []::L) B (i8v rs) from hrs.tail.tail.tail) (by rw[i8v_len,hk.out,Nat.mul_one]) (i8v_one _) (by unfold maxLen;omega) (by omega) ?_
   clear hs
   intro G9 c9 w hs
   rw[Nat.zero_add,List.nil_append] at hs
   rw[Nat.zero_add]
   replace hs:St w0 (blk g1 (cfC (n:Nat) top A m cA B k cB).toArray 28::RaB A1 n top []::own G9 k c9 2 1 (i8v rs)::L) w:=hs.pm
   refine wpList_nil ⟨rfl,?_⟩
   refine mix_quiet [] [14,15,16] hs.only (by kernel_rfl) (by kernel_rfl) fun hne=>?_
   simp only[opsAt]
   refine wpQuiet_nil ?_
   clear hne
   refine wpMix_next [14] (by kernel_rfl) (by simp) (fun c hc=>?_)
   simp only[List.mem_singleton] at hc
   subst hc
   refine⟨_,rfl,?_⟩
   refine wpl_buildS (build_dw A1 G9 k c9) rfl ?_
   refine wpList_nil ⟨rfl,?_⟩
   refine mix_quiet [] [15,16] hs.only (by kernel_rfl) (by kernel_rfl) fun hne=>?_
   simp only[opsAt]
   refine wpQuiet_nil ?_
   clear hne
   refine wpMix_next [15] (by kernel_rfl) (by simp) (fun c hc=>?_)
   simp only[List.mem_singleton] at hc
   subst hc
   refine⟨_,rfl,?_⟩
   refine wpl_box_v (v:= .agg (dwC A1 none 0 0 G9 k c9 none 0 0 false)) rfl hs ?_
   clear hs
   intro M w hs
   replace hs:St w0 (blk M (dwC A1 none 0 0 G9 k c9 none 0 0 false) 59::_) w:=hs
   replace hs:St w0 (blk g1 (cfC (n:Nat) top A m cA B k cB).toArray 28::RaB A1 n top []::own G9 k c9 2 1 (i8v rs)::blk M (dwC A1 none 0 0 G9 k c9 none 0 0 false) 59::L) w:=hs.pm
   refine wpList_nil ⟨rfl,?_⟩
   refine mix_quiet [16] [] hs.only (by kernel_rfl) (by kernel_rfl) fun hne=>?_
   simp only[opsAt,List.getElem?_toArray,List.getElem?_cons_succ,List.getElem?_cons_zero]
   try simp only[Act.put,List.setIfInBounds_toArray,List.set_cons_succ,List.set_cons_zero]
   repeat (go_big_quiet_step (fail))
   refine wpQuiet_nil ?_
   clear hne
   refine wpMix_end ?_
   go_wp2
   go_meet
   exact⟨M,A1,G9,c9,rfl,hs.pm⟩
  ·skip
   refine⟨_,rfl,?_⟩
   refine wpl_build_none elem8 hs ?_
   clear hs
   intro G8 w hs
   replace hs:St w0 (own G8 0 0 2 1 []::_) w:=hs
   replace hs:St w0 (blk g1 (cfC (n:Nat) top A m cA B k cB).toArray 28::own G8 0 0 2 1 []::L) w:=hs.pm
   refine wpList_nil ⟨rfl,?_⟩
   refine mix_quiet [] [4,13,14,15,16] hs.only (by kernel_rfl) (by kernel_rfl) fun hne=>?_
   simp only[opsAt]
   refine wpQuiet_nil ?_
   clear hne
   refine wpMix_next [4] (by kernel_rfl) (by simp) (fun c hc=>?_)
   simp only[List.mem_singleton] at hc
   subst hc
   refine⟨_,rfl,?_⟩
   go_wp2_with (first
    | (go_at_call 75;refine (rnew_c hs hn2 ht1 ht2).mono ?_;clear hs;rintro r w ⟨A1,rfl,hs⟩;replace hs:St w0 (RaB A1 n top []::_) w:=hs))
   replace hs:St w0 (blk g1 (cfC (n:Nat) top A m cA B k cB).toArray 28::own G8 0 0 2 1 []::RaB A1 n top []::L) w:=hs.pm
   refine mix_quiet [] [13,14,15,16] hs.only (by kernel_rfl) (by kernel_rfl) fun hne=>?_
   simp only[opsAt]
   refine wpQuiet_nil ?_
   clear hne
   refine wpMix_next [13] (by kernel_rfl) (by simp) (fun c hc=>?_)
   simp only[List.mem_singleton] at hc
   subst hc
   refine⟨_,rfl,?_⟩
   refine wpl_append (A:=G8) (n:=0) (cap:=0) (xs:=[]) (B:=B) (m:=k) (news:=i8v rs) elem8 rfl rfl hs (L':=blk g1 (cfC (n:Nat) top A m cA B k cB).toArray 28::RaB A1 n top []::L) (EP.ent (by repeat constructor)) (show RdS w0 (blk g1 (cfC (n:Nat) top A m cA B k cB).toArray 28::own G8 0 0 2 1 []::RaB A1 n top []::L) B (i8v rs) from hrs.tail.tail.tail) (by rw[i8v_len,hk.out,Nat.mul_one]) (i8v_one _) (by unfold maxLen;omega) (by omega) ?_
   clear hs
   intro G9 c9 w hs
   rw[Nat.zero_add,List.nil_append] at hs
   rw[Nat.zero_add]
   replace hs:St w0 (blk g1 (cfC (n:Nat) top A m cA B k cB).toArray 28::own G9 k c9 2 1 (i8v rs)::RaB A1 n top []::L) w:=hs.pm
   refine wpList_nil ⟨rfl,?_⟩
   refine mix_quiet [] [14,15,16] hs.only (by kernel_rfl) (by kernel_rfl) fun hne=>?_
   simp only[opsAt]
   refine wpQuiet_nil ?_
   clear hne
   refine wpMix_next [14] (by kernel_rfl) (by simp) (fun c hc=>?_)
   simp only[List.mem_singleton] at hc
   subst hc
   refine⟨_,rfl,?_⟩
   refine wpl_buildS (build_dw A1 G9 k c9) rfl ?_
   refine wpList_nil ⟨rfl,?_⟩
   refine mix_quiet [] [15,16] hs.only (by kernel_rfl) (by kernel_rfl) fun hne=>?_
   simp only[opsAt]
   refine wpQuiet_nil ?_
   clear hne
   refine wpMix_next [15] (by kernel_rfl) (by simp) (fun c hc=>?_)
   simp only[List.mem_singleton] at hc
   subst hc
   refine⟨_,rfl,?_⟩
   refine wpl_box_v (v:= .agg (dwC A1 none 0 0 G9 k c9 none 0 0 false)) rfl hs ?_
   clear hs
   intro M w hs
   replace hs:St w0 (blk M (dwC A1 none 0 0 G9 k c9 none 0 0 false) 59::_) w:=hs
   replace hs:St w0 (blk g1 (cfC (n:Nat) top A m cA B k cB).toArray 28::own G9 k c9 2 1 (i8v rs)::RaB A1 n top []::blk M (dwC A1 none 0 0 G9 k c9 none 0 0 false) 59::L) w:=hs.pm
   refine wpList_nil ⟨rfl,?_⟩
   refine mix_quiet [16] [] hs.only (by kernel_rfl) (by kernel_rfl) fun hne=>?_
   simp only[opsAt,List.getElem?_toArray,List.getElem?_cons_succ,List.getElem?_cons_zero]
   try simp only[Act.put,List.setIfInBounds_toArray,List.set_cons_succ,List.set_cons_zero]
   repeat (go_big_quiet_step (fail))
   refine wpQuiet_nil ?_
   clear hne
   refine wpMix_end ?_
   go_wp2
   go_meet
   exact⟨M,A1,G9,c9,rfl,hs.pm⟩
 case rest=>
 clear hs hmin hk3 hrs hk2 hkc
 obtain⟨M,A1,G9,c9,rfl,hs⟩:=hcut
 obtain⟨R,HRE⟩:∃ R:As,Hid (R=big [RaB A1 n top [],own G9 k c9 2 1 (i8v rs)]):=⟨_,rfl⟩
 replace hs:St w0 (blk g1 (cfC (n:Nat) top A m cA B k cB).toArray 28::blk M (dwC A1 none 0 0 G9 k c9 none 0 0 false) 59::own none 0 0 146 1 (rgP [])::Dls []::R::L) wc:=by
  have h1:St w0 (RaB A1 n top []::own G9 k c9 2 1 (i8v rs)::blk g1 (cfC (n:Nat) top A m cA B k cB).toArray 28::blk M (dwC A1 none 0 0 G9 k c9 none 0 0 false) 59::L) _:=hs.pm
  have h2:=h1.ent (Ent.unflat [_,_] _)
  rw[HRE.out]
  have h3:=(St.dlsNil h2).own_nil 146 1
  rw[show ([]:List Value)=rgP [] from rgP_nil.symm] at h3
  exact h3.pm
 go_upto_region 3 with (fail)
 go_loopw [4] (fun iv wr=>∃ (j cP:Nat) (Bp:Option Addr) (l:List Cmp),j≤m∧iv= .int .i64 (j:Nat)∧Hid (NewL (ds.take j) l)∧St w0 (blk g1 (cfC (n:Nat) top A m cA B k cB).toArray 28::blk M (dwC A1 Bp j cP G9 k c9 none 0 0 false) 59::own Bp j cP 146 1 (rgP l)::Dls l::R::L) wr) (fun iv _=>m - (intOf iv).toNat)
 case atStart=>exact⟨0,0,none,[],Nat.zero_le _,rfl,NewL.nil,hs⟩
 case round=>
  clear hs
  obtain⟨j,cP,Bp,l,hj,rfl,HNL,hs⟩:=hrel
  have f2:World.cell? _ ⟨g1,2,none⟩=some (.slice A m cA):=Rd.blk (by rfl) _ hs
  by_cases hlt:j < m
  ·obtain⟨d,hd⟩:∃ d,ds[j]? =some d:=⟨_,List.getElem?_eq_getElem (by rw[hm.out];exact hlt)⟩
   have HDE:=Lib.hid (descsE_at hok.out hd)
   have hcell:=fun i x hx=>hr.get (rows_get (C:=3) (encX:=YtiafdlofcjbllaaGreatDoor.c3) (fun _=>rfl) hd i x hx)
   obtain⟨b9,off,hA,_⟩:=hcell 0 _ rfl
   have hld:∀ i x,(YtiafdlofcjbllaaGreatDoor.c3 d)[i]? =some x→Rd w0 L ⟨b9,off+j*3+i,none⟩ x:=fun i x hx=>by
    obtain⟨b',o',he,hr⟩:=hcell i x hx
    rw[hA] at he
    injection he with he
    injection he with e1 e2
    subst e1;subst e2
    rw[Nat.add_assoc];exact hr
   have htake:Hid (ds.take (j+1)=ds.take j++[d]):=by
    obtain⟨h5,h6⟩:=List.getElem?_eq_some_iff.1 hd
    rw[Hid,List.take_succ_eq_append_getElem h5,h6]
   have l0:=hld 0 _ rfl
   have l1:=hld 1 _ rfl
   have l2:=hld 2 _ rfl
   simp only[Nat.add_zero] at l0
   have HA9:=Lib.hid hA
   clear hcell hd hld hA
   go_upto_region 5 with (fail)
   clear f2
   replace hs:St w0 (own Bp j cP 146 1 (rgP l)::Dls l::R::blk g1 (cfC (n:Nat) top A m cA B k cB).toArray 28::blk M (dwC A1 Bp j cP G9 k c9 none 0 0 false) 59::L) _:=hs.pm
   refine wp_region_plain [false,false,false,false,false,false,false,false,false,false,true,true,true,true,true,true] hs.drop.drop.drop (by kernel_rfl) (by kernel_rfl) fun hne=>?_
   have r0:=(show Rd w0 (blk g1 (cfC (n:Nat) top A m cA B k cB).toArray 28::blk M (dwC A1 Bp j cP G9 k c9 none 0 0 false) 59::L) ⟨g1,2,none⟩ (.slice (some ⟨b9,off,none⟩) m cA) from by rw[← HA9.out];exact Rd.blk (by rfl)).alln
   have r1:=(show Rd w0 (blk g1 (cfC (n:Nat) top A m cA B k cB).toArray 28::blk M (dwC A1 Bp j cP G9 k c9 none 0 0 false) 59::L) ⟨M,1,none⟩ (.slice Bp j cP) from (Rd.blk (by rfl)).tail).alln
   have r2:=(show Rd w0 (blk g1 (cfC (n:Nat) top A m cA B k cB).toArray 28::blk M (dwC A1 Bp j cP G9 k c9 none 0 0 false) 59::L) _ _ from l0.tail.tail).alln
   have r3:=(show Rd w0 (blk g1 (cfC (n:Nat) top A m cA B k cB).toArray 28::blk M (dwC A1 Bp j cP G9 k c9 none 0 0 false) 59::L) _ _ from l1.tail.tail).alln
   have r4:=(show Rd w0 (blk g1 (cfC (n:Nat) top A m cA B k cB).toArray 28::blk M (dwC A1 Bp j cP G9 k c9 none 0 0 false) 59::L) _ _ from l2.tail.tail).alln
   simp only[pickOps]
   repeat (go_big_quiet_step (fail))
   refine wpQuiet_nil ?_
   clear hne r0 r1 r2 r3 r4 l0 l1 l2
   simp only[chainIx]
   replace hs:=hs.drew
   refine wpChainP_next rfl ?_
   (go_wp2_with (first
    | (go_at_call 76;refine (ds_new hs d HDE).mono ?_;clear hs;rintro r w ⟨X,F,rfl,hs⟩)))
   refine⟨hs.drop.drop.drop.drop,?_⟩
   refine wpChainP_next rfl ?_
   refine wpl_build1 (v:= .pointer (some ⟨X,0,none⟩)) elemSP (by decide) rfl rfl hs ?_
   clear hs
   intro G w hs
   refine wpList_nil ⟨rfl,hs.drop.drop.drop.drop.drop,?_⟩
   refine wpChainP_next rfl ?_
   replace hs:St w0 (blk G #[.pointer (some ⟨X,0,none⟩)] 146::DsB X (newSl d (.pointer none) F)::own Bp j cP 146 1 (rgP l)::Dls l::R::blk g1 (cfC (n:Nat) top A m cA B k cB).toArray 28::blk M (dwC A1 Bp j cP G9 k c9 none 0 0 false) 59::L) _:=hs
   refine wpl_append (A:=Bp) (n:=j) (cap:=cP) (xs:=rgP l) (m:=1) (news:=[.pointer (some ⟨X,0,none⟩)]) elemSP rfl rfl hs (L':=blk G #[.pointer (some ⟨X,0,none⟩)] 146::DsB X (newSl d (.pointer none) F)::Dls l::R::blk g1 (cfC (n:Nat) top A m cA B k cB).toArray 28::blk M (dwC A1 Bp j cP G9 k c9 none 0 0 false) 59::L) (EP.ent (by repeat constructor)) RdS.blk rfl (by intro u hu;simp at hu;subst hu;rfl) (by unfold maxLen;omega) (by omega) ?_
   clear hs
   intro B3 cap3 w hs
   have HE:Hid (rgP l++[Value.pointer (some ⟨X,0,none⟩)]=rgP (l++[(X,newSl d (.pointer none) F)])):=by rw[Hid,rgP_append];unfold rgP;rfl
   rw[HE.out] at hs
   refine wpList_nil ⟨rfl,hs.drop.drop.drop.drop.drop,?_⟩
   refine wpChainP_next rfl ?_
   go_wp2
   refine⟨hs.drop.drop.drop.drop.drop,?_⟩
   refine wpChainP_next rfl ?_
   go_wp2
   refine⟨hs.drop.drop.drop.drop.drop,?_⟩
   refine wpChain_last rfl ?_
   replace hs:St w0 (blk M (dwC A1 Bp j cP G9 k c9 none 0 0 false) 59::own B3 (j+1) cap3 146 1 (rgP (l++[(X,newSl d (.pointer none) F)]))::blk G #[.pointer (some ⟨X,0,none⟩)] 146::DsB X (newSl d (.pointer none) F)::Dls l::R::blk g1 (cfC (n:Nat) top A m cA B k cB).toArray 28::L) _:=hs.pm
   (go_wp2_with (first
    | (refine wpl_store (v:= .slice B3 (j+1) cap3) rfl rfl rfl size_SPs hs (Wr.dw1 (B':=B3) (m':=j+1) (cB':=cap3)) ?_;clear hs;intro w hs)))
   have HNL':Hid (NewL (ds.take (j+1)) (l++[(X,newSl d (.pointer none) F)])):=by rw[htake.out];exact HNL.out.add d X _ F
   go_roundw
   case rel=>exact⟨j+1,cap3,B3,_,by omega,by first | rfl | go_num,HNL',by
    have h1:St w0 (DsB X (newSl d (.pointer none) F)::Dls l::blk G #[.pointer (some ⟨X,0,none⟩)] 146::blk M (dwC A1 B3 (j+1) cap3 G9 k c9 none 0 0 false) 59::own B3 (j+1) cap3 146 1 (rgP (l++[(X,newSl d (.pointer none) F)]))::R::blk g1 (cfC (n:Nat) top A m cA B k cB).toArray 28::L) _:=hs.pm
    have h2:=(h1.ent Ent.dlsAdd).rot.drop
    exact h2.pm⟩
   case measure=>simp[intOf] <;> omega
  ·obtain rfl:j=m:=by omega
   have HN:Hid (NewL ds l):=by
    have:=HNL.out
    rwa [List.take_of_length_le (by rw[hm.out];exact Nat.le_refl _)] at this
   have hll:Hid (l.length=j):=by rw[Hid,HN.out.len,hm.out]
   go_wp2
   go_ret
   first | refine⟨M,rfl,l,HN,?_⟩ | refine⟨M,l,rfl,HN,?_⟩
   rw[HRE.out] at hs
   have h1:St w0 (RaB A1 n top []::own G9 k c9 2 1 (i8v rs)::blk g1 (cfC (n:Nat) top A j cA B k cB).toArray 28::blk M (dwC A1 Bp j cP G9 k c9 none 0 0 false) 59::own Bp j cP 146 1 (rgP l)::Dls l::L) _:=hs.up4.ent (Ent.flat _ _)
   have h2:=(St.own_nil h1 99 7)
   refine St.dwshut (s:=⟨⟨top,newA n,l⟩,[],rs,false⟩) (A:=A1) (n:=n) (c:=[]) (B:=Bp) (cB:=cP) (C:=G9) (cC:=c9) (D:=none) (cD:=0) (padA_nil n) hll.out hk.out rfl ?_
   have h3:=(h2.pm (M:=blk g1 (cfC (n:Nat) top A j cA B k cB).toArray 28::blk M (dwC A1 Bp j cP G9 k c9 none 0 0 false) 59::own Bp j cP 146 1 (rgP l)::RaB A1 n top []::Dls l::own G9 k c9 2 1 (i8v rs)::own none 0 0 99 7 []::L)).drop
   exact h3
end
section
open Go Go.RowKit
theorem Rd.dsk {w0:World} {L:List As} {D:Nat} {s:SlS}:Rd w0 (DsB D s::L) ⟨D,0,none⟩ (.int .i64 s.d.k):=fun w hs=>by
 obtain⟨hok,rs,hag,hs⟩:=hs.dsopen
 obtain⟨hlen,A,cap,hs⟩:=hs.tbopen
 exact Rd.ds0 _ hs
attribute [local irreducible] wpList Calls Code.wp stV EnS.live EnS.slot rgP padA newSl descE newA cs3 hsV
set_option maxHeartbeats 2000000 in
theorem fit_c {w0 w:World} {L:List As} {M:Nat} {s:WoS} (hs:St w0 (DwB M s::L) w) (c:Int) (v:V3):
  Calls Tryz.prog 18 #[.pointer (some ⟨M,0,none⟩), .int .i64 c,val3 v] w fun r w'=>∃ u:V3,r= .returned (val3 u)∧St w0 (DwB M s::L) w':=by
 obtain⟨m,hm⟩:∃ m,Hid (s.e.l.length=m):=⟨_,rfl⟩
 by_cases h0:c < 0
 ·go_enter Tryz.func18,Tryz.ntmps18
  go_upto_region 1 with (first
   | (refine wpl_box_v (v:=val3 v) rfl hs ?_;clear hs;intro g5 w hs;replace hs:St w0 (blk g5 (YtiafdlofcjbllaaGreatDoor.c3 v).toArray 38::_) w:=hs)
   | (refine wpl_alloc zero3 hs ?_;clear hs;intro g6 w hs;replace hs:St w0 (blk g6 (YtiafdlofcjbllaaGreatDoor.c3 V3.z).toArray 38::_) w:=hs))
  (go_wp2_with (first
   | (refine wpl_load3 (v:=v) (g:=g5) rfl (has3_tail (has3_slot (t:=38))) agg3 size3n hs ?_)
   | (refine wpl_store_agg (v:=val3 v) rfl rfl (size3 _) hs WrA.slot3 ?_;clear hs;intro w hs)))
  refine bodyPost_at (results_cell1 Tryz.results18 rfl (hs.slot_run agg3 (size3 _))) rfl ?_
  first | exact⟨v,rfl,hs.drop.drop⟩ | exact⟨⟨v,rfl⟩,hs.drop.drop⟩
 ·obtain⟨j,rfl⟩:=Int.eq_ofNat_of_zero_le (show 0≤c by omega)
  clear h0
  by_cases h1:j < m
  ·by_cases h7:bits .and .i64 v.a 7=3
   ·have d7:(bits .and .i64 v.a 7 !=3)=false:=by simp[h7]
    go_enter Tryz.func18,Tryz.ntmps18
    go_upto_region 1 with (first
     | (refine wpl_box_v (v:=val3 v) rfl hs ?_;clear hs;intro g5 w hs;replace hs:St w0 (blk g5 (YtiafdlofcjbllaaGreatDoor.c3 v).toArray 38::_) w:=hs)
     | (refine wpl_alloc zero3 hs ?_;clear hs;intro g6 w hs;replace hs:St w0 (blk g6 (YtiafdlofcjbllaaGreatDoor.c3 V3.z).toArray 38::_) w:=hs))
    obtain⟨B,cB,k1⟩:=St.dwlen hm.out hs.drop.drop
    obtain⟨p0,p1,p2⟩:=Has3.facts (has3_tail (has3_slot (g:=g5) (v:=v) (t:=38))) hs
    go_upto_region 3 with (fail)
    clear k1 p0 p1 p2
    (go_wp2_with (first
     | (refine wpl_load3 (v:=v) (g:=g5) rfl (has3_tail (has3_slot (t:=38))) agg3 size3n hs ?_)
     | (refine wpl_store_agg (v:=val3 v) rfl rfl (size3 _) hs WrA.slot3 ?_;clear hs;intro w hs)))
    refine bodyPost_at (results_cell1 Tryz.results18 rfl (hs.slot_run agg3 (size3 _))) rfl ?_
    first | exact⟨v,rfl,hs.drop.drop⟩ | exact⟨⟨v,rfl⟩,hs.drop.drop⟩
   ·have d7:(bits .and .i64 v.a 7 !=3)=true:=by simp[h7]
    obtain⟨⟨X,t⟩,hx⟩:∃ x,s.e.l[j]? =some x:=⟨_,List.getElem?_eq_getElem (by rw[hm.out];exact h1)⟩
    obtain⟨u,HU⟩:∃ z,Hid (mkV t.d.k v.a v.b=z):=⟨_,rfl⟩
    have HX:=Lib.hid hx
    clear hx h7
    go_enter Tryz.func18,Tryz.ntmps18
    go_upto_region 1 with (first
     | (refine wpl_box_v (v:=val3 v) rfl hs ?_;clear hs;intro g5 w hs;replace hs:St w0 (blk g5 (YtiafdlofcjbllaaGreatDoor.c3 v).toArray 38::_) w:=hs)
     | (refine wpl_alloc zero3 hs ?_;clear hs;intro g6 w hs;replace hs:St w0 (blk g6 (YtiafdlofcjbllaaGreatDoor.c3 V3.z).toArray 38::_) w:=hs))
    obtain⟨K,gB,cB,P,R,hK,_,hP,hs,hback⟩:=St.dwslotL hm.out HX.out hs.up2
    have HB:=Lib.hid hback
    have k1:=Rd.blk hK _ hs
    replace hs:St w0 (blk g5 (YtiafdlofcjbllaaGreatDoor.c3 v).toArray 38::blk M K 59::own (some ⟨gB,0,none⟩) m cB 146 1 P::DsB X t::blk g6 (YtiafdlofcjbllaaGreatDoor.c3 V3.z).toArray 38::R::L) _:=hs.pm
    obtain⟨p0,p1,p2⟩:=Has3.facts (has3_slot (g:=g5) (v:=v) (t:=38)) hs
    clear hback
    go_upto_region 2 with (fail)
    clear k1 p0 p1 p2
    refine wp_region_plain [false,false,false,false,false,false,false,false,false,false,false,false,false,false,false,true,true] hs.only4 (by kernel_rfl) (by kernel_rfl) fun hne=>?_
    have r0:=(show Rd w0 [blk g5 (YtiafdlofcjbllaaGreatDoor.c3 v).toArray 38,blk M K 59,own (some ⟨gB,0,none⟩) m cB 146 1 P,DsB X t] ⟨M,1,none⟩ _ from (Rd.blk hK).tail).alln
    have r1:=(show Rd w0 [blk g5 (YtiafdlofcjbllaaGreatDoor.c3 v).toArray 38,blk M K 59,own (some ⟨gB,0,none⟩) m cB 146 1 P,DsB X t] _ _ from (Rd.own (size:=1) hP).tail.tail).alln
    have r2:=(show Rd w0 [blk g5 (YtiafdlofcjbllaaGreatDoor.c3 v).toArray 38,blk M K 59,own (some ⟨gB,0,none⟩) m cB 146 1 P,DsB X t] ⟨X,0,none⟩ (.int .i64 t.d.k) from Rd.dsk.tail.tail.tail).alln
    have r3:=(show Rd w0 [blk g5 (YtiafdlofcjbllaaGreatDoor.c3 v).toArray 38,blk M K 59,own (some ⟨gB,0,none⟩) m cB 146 1 P,DsB X t] ⟨g5,1,none⟩ (.int .i64 v.a) from Rd.blk rfl).alln
    have r4:=(show Rd w0 [blk g5 (YtiafdlofcjbllaaGreatDoor.c3 v).toArray 38,blk M K 59,own (some ⟨gB,0,none⟩) m cB 146 1 P,DsB X t] ⟨g5,2,none⟩ (.int .i64 v.b) from Rd.blk rfl).alln
    simp only[pickOps]
    repeat (go_big_quiet_step (fail))
    refine wpQuiet_nil ?_
    clear hne r0 r1 r2 r3 r4
    simp only[chainIx]
    replace hs:=hs.drew
    refine wpChainP_next rfl ?_
    (go_wp2_with (first
     | (go_at_call 67;refine (lvalue_c _ _ _ HU).mono ?_;rintro r w ⟨rfl,hg⟩;replace hs:=hs.grew hg;clear hg)))
    refine⟨hs.only4,?_⟩
    refine wpChain_last rfl ?_
    replace hs:St w0 (blk g6 (YtiafdlofcjbllaaGreatDoor.c3 V3.z).toArray 38::blk g5 (YtiafdlofcjbllaaGreatDoor.c3 v).toArray 38::blk M K 59::own (some ⟨gB,0,none⟩) m cB 146 1 P::DsB X t::R::L) _:=hs.pm
    (go_wp2_with (first
     | (refine wpl_store_agg (v:=val3 u) rfl rfl (size3 _) hs WrA.slot3 ?_;clear hs;intro w hs)))
    refine bodyPost_at (results_cell1 Tryz.results18 rfl (hs.slot_run agg3 (size3 _))) rfl ?_
    have h5:=HB.out _ _ _ hs.drop.drop
    rw[WoS.set_same HX.out] at h5
    first | exact⟨u,rfl,h5⟩ | exact⟨⟨u,rfl⟩,h5⟩
  ·have h2:¬ (j:Int) < (m:Int):=by omega
   go_enter Tryz.func18,Tryz.ntmps18
   go_upto_region 1 with (first
    | (refine wpl_box_v (v:=val3 v) rfl hs ?_;clear hs;intro g5 w hs;replace hs:St w0 (blk g5 (YtiafdlofcjbllaaGreatDoor.c3 v).toArray 38::_) w:=hs)
    | (refine wpl_alloc zero3 hs ?_;clear hs;intro g6 w hs;replace hs:St w0 (blk g6 (YtiafdlofcjbllaaGreatDoor.c3 V3.z).toArray 38::_) w:=hs))
   obtain⟨B,cB,k1⟩:=St.dwlen hm.out hs.drop.drop
   go_upto_region 3 with (fail)
   clear k1
   (go_wp2_with (first
    | (refine wpl_load3 (v:=v) (g:=g5) rfl (has3_tail (has3_slot (t:=38))) agg3 size3n hs ?_)
    | (refine wpl_store_agg (v:=val3 v) rfl rfl (size3 _) hs WrA.slot3 ?_;clear hs;intro w hs)))
   refine bodyPost_at (results_cell1 Tryz.results18 rfl (hs.slot_run agg3 (size3 _))) rfl ?_
   first | exact⟨v,rfl,hs.drop.drop⟩ | exact⟨⟨v,rfl⟩,hs.drop.drop⟩
set_option maxHeartbeats 2000000 in
theorem pick_c {w0 w:World} {L:List As} (hs:St w0 L w) {A:Option Addr} {n cA:Nat} {all:List Hdl} (hn:Hid (all.length=n)) (hr:RdS w0 L A (hsV all)) (z:Int) (h:Hdl):
  Calls Tryz.prog 17 #[.slice A n cA, .int .i64 z,hv h] w fun r w'=>∃ v:Hdl,r= .returned (hv v)∧St w0 L w':=by
 obtain⟨i,g⟩:=h
 by_cases h0:0 < n
 ·have h0':(0:Int) < (n:Int):=by omega
  by_cases h1:bits .and .i64 z 15=0
  ·have d1:(bits .and .i64 z 15 !=0)=false:=by simp[h1]
   clear h1
   go_enter Tryz.func17,Tryz.ntmps17
   go_upto_region 1 with (first
    | (refine wpl_box_v (v:=hv (i,g)) rfl hs ?_;clear hs;intro g5 w hs;replace hs:St w0 (blk g5 (h2 (i,g)).toArray 40::_) w:=hs)
    | (refine wpl_alloc zeroH hs ?_;clear hs;intro g6 w hs;replace hs:St w0 (blk g6 (h2 (0,0)).toArray 40::_) w:=hs))
   (go_wp2_with (first
    | (refine wpl_load_agg (cs:=h2 (i,g)) (b:=g5) (o:=0) rfl aggH (sizeHd _) hs ?hh ?_;case hh=>exact fun j x hx=>(Rd.blk (by simpa using hx)).tail)
    | (refine wpl_store_agg (v:=hv (i,g)) rfl rfl (sizeHd _) hs WrA.slotH ?_;clear hs;intro w hs)))
   refine bodyPost_at (results_cell1 Tryz.results17 rfl (hs.slot_run aggH (sizeHd _))) rfl ?_
   first | exact⟨(i,g),rfl,hs.drop.drop⟩ | exact⟨⟨i,g,rfl⟩,hs.drop.drop⟩
  ·have d1:(bits .and .i64 z 15 !=0)=true:=by simp[h1]
   clear h1
   go_enter Tryz.func17,Tryz.ntmps17
   go_upto_region 1 with (first
    | (refine wpl_box_v (v:=hv (i,g)) rfl hs ?_;clear hs;intro g5 w hs;replace hs:St w0 (blk g5 (h2 (i,g)).toArray 40::_) w:=hs)
    | (refine wpl_alloc zeroH hs ?_;clear hs;intro g6 w hs;replace hs:St w0 (blk g6 (h2 (0,0)).toArray 40::_) w:=hs))
   have HW:∀ x,bits .and .i64 x 65535=((x % 65536).toNat:Nat):=fun x=>land_65535 x
   obtain⟨q,hq⟩:=Int.eq_ofNat_of_zero_le (show 0≤max (z / 16 % 65536) 0 % (n:Int) from Int.emod_nonneg _ (by omega))
   have hqn:q < n:=by have:=Int.emod_lt_of_pos (max (z / 16 % 65536) 0) h0';omega
   obtain⟨⟨i2,g2⟩,hx⟩:∃ x,all[q]? =some x:=⟨_,List.getElem?_eq_getElem (by rw[hn.out];exact hqn)⟩
   have hcell:=fun j x hj=>hr.get (hsV_get hx j x hj)
   obtain⟨b9,off,rfl,_⟩:=hcell 0 _ rfl
   have hld:∀ j x,(h2 (i2,g2))[j]? =some x→Rd w0 L ⟨b9,off+q*2+j,none⟩ x:=fun j x hj=>by
    obtain⟨b',o',he,hr⟩:=hcell j x hj
    injection he with he
    injection he with e1 e2
    subst e1;subst e2
    rw[Nat.add_assoc];exact hr
   clear hcell hx hr
   (go_wp2_with (first
    | (refine wpl_load_agg (cs:=h2 (i2,g2)) (b:=b9) (o:=off+q*2) rfl aggH (sizeHd _) hs ?hh ?_;case hh=>exact fun j x hj=>(hld j x hj).tail.tail)
    | (refine wpl_store_agg (v:=hv (i2,g2)) rfl rfl (sizeHd _) hs WrA.slotH ?_;clear hs;intro w hs)))
   refine bodyPost_at (results_cell1 Tryz.results17 rfl (hs.slot_run aggH (sizeHd _))) rfl ?_
   first | exact⟨(i2,g2),rfl,hs.drop.drop⟩ | exact⟨⟨i2,g2,rfl⟩,hs.drop.drop⟩
 ·obtain rfl:n=0:=by omega
  go_enter Tryz.func17,Tryz.ntmps17
  go_upto_region 1 with (first
   | (refine wpl_box_v (v:=hv (i,g)) rfl hs ?_;clear hs;intro g5 w hs;replace hs:St w0 (blk g5 (h2 (i,g)).toArray 40::_) w:=hs)
   | (refine wpl_alloc zeroH hs ?_;clear hs;intro g6 w hs;replace hs:St w0 (blk g6 (h2 (0,0)).toArray 40::_) w:=hs))
  (go_wp2_with (first
   | (refine wpl_load_agg (cs:=h2 (i,g)) (b:=g5) (o:=0) rfl aggH (sizeHd _) hs ?hh ?_;case hh=>exact fun j x hx=>(Rd.blk (by simpa using hx)).tail)
   | (refine wpl_store_agg (v:=hv (i,g)) rfl rfl (sizeHd _) hs WrA.slotH ?_;clear hs;intro w hs)))
  refine bodyPost_at (results_cell1 Tryz.results17 rfl (hs.slot_run aggH (sizeHd _))) rfl ?_
  first | exact⟨(i,g),rfl,hs.drop.drop⟩ | exact⟨⟨i,g,rfl⟩,hs.drop.drop⟩
end
end Go.Proofs.YtiafdlofcjbllaaGreatDoor
