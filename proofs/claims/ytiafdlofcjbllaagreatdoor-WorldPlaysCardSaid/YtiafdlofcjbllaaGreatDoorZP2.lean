/-
  WorldPlays: the statements' Same: a world stands as the document's. (Printed by gen_wp2.py.)
-/
import Derived.Test.YtiafdlofcjbllaaGreatDoorZP1
import Derived.Test.YtiafdlofcjbllaaGreatDoorZW2
import Derived.Test.YtiafdlofcjbllaaGreatDoorZW7
import Derived.Test.YtiafdlofcjbllaaGreatDoorZD2
import Derived.Test.YtiafdlofcjbllaaGreatDoorZD3
import Derived.Test.YtiafdlofcjbllaaGreatDoorZW8
import Derived.Deep.DeepCutAuto
import Derived.Deep.CutRange
set_option maxRecDepth 100000
namespace Go.Proofs.YtiafdlofcjbllaaGreatDoor
section
open Go Go.RowKit
theorem nsV_intv9 (l:List Nat):nsV l=intv l:=rfl
theorem parts_live {s:EnS} {h:Hdl} (h0:s.live h=0):s.parts h=(ofN s.l h.1 s.l.length,0):=by unfold EnS.parts;rw[if_pos h0]
attribute [local irreducible] wpList Calls Code.wp stV EnS.live EnS.slot WoS.cmpD WoS.mayD mayR rgP padA okI okN pS tS memS getG pG insS delS getV pV tV okVal newSl SlS.put SlS.err SlS.putU SlS.putB descE SlS.take SlS.set SlS.errSet SlS.get SlS.has EnS.ins EnS.set EnS.rem EnS.get EnS.parts EnS.del WoS.ins WoS.rem WoS.get WoS.set WoS.del WoS.create ofN strL delA newA giveV allH idxS hsV nsV
set_option maxHeartbeats 8000000 in
theorem same_w {w0 w:World} {L:List As} {W E A R X Q n M m k:Nat} {s t:WoS} (hT:Tab w0) (hk9:k≤100) (hm8:m≤8) (HP:Hid (WpI s t m k)) (hs:St w0 (WoB W E A R X Q n s::DwB M t::L) w):
  Calls Tryz.prog 70 #[.pointer (some ⟨W,0,none⟩), .pointer (some ⟨M,0,none⟩)] w fun r w'=>r= .returned (.bool true)∧St w0 (WoB W E A R X Q n s::DwB M t::L) w':=by
 obtain⟨hb,HB⟩:∃ z,Hid (s.held=z):=⟨_,rfl⟩
 have HBT:Hid (t.held=hb):=by rw[Hid,← HP.out.al.held];exact HB.out
 obtain⟨nq,HQ⟩:∃ z,Hid (s.q.length=z):=⟨_,rfl⟩
 have HQT:Hid (t.q.length=nq):=by rw[Hid,← HP.out.al.q];exact HQ.out
 have hq9:nq≤10000:=by have:=HP.out.q;rw[HQ.out] at this;omega
 have HQ9:Hid (s.q.length≤10000):=by rw[Hid,HQ.out];exact hq9
 have HLT:Hid (t.e.l.length≤1000):=by rw[Hid,HP.out.lent];omega
 obtain⟨nl,HN⟩:∃ z,Hid ((idxS 1 s.e.cs).length=z):=⟨_,rfl⟩
 obtain⟨hl,HH⟩:∃ z,Hid (allH s.e.cs (idxS 1 s.e.cs)=z):=⟨_,rfl⟩
 have HNT:Hid ((idxS 1 t.e.cs).length=nl):=by rw[Hid,← HP.out.al.e.cs];exact HN.out
 have HHT:Hid (allH t.e.cs (idxS 1 t.e.cs)=hl):=by rw[Hid,← HP.out.al.e.cs];exact HH.out
 have HHL:Hid (hl.length=nl):=by rw[Hid,← HH.out,allH_len];exact HN.out
 have hnl:nl≤65536:=by have h1:=idx_len 1 s.e.cs;rw[HN.out] at h1;have:=en_few (wo_en hs);omega
 have HLV:Hid (∀ h∈hl,s.e.live h=0):=fun h hh=>EnS.live_zero.2 (all_live (by rw[HH.out];exact hh))
 obtain⟨nr,HR⟩:∃ z,Hid (s.r.length=z):=⟨_,rfl⟩
 have hr9:nr≤32:=HR.out ▸ HP.out.r
 have HR9:Hid (s.r.length≤32):=HP.out.r
 go_enter Tryz.func70,Tryz.ntmps70
 go_upto_region 1 with (fail)
 have kM:World.cell? w ⟨M,4,none⟩=some (.bool hb):=by
  obtain⟨_,_,_,_,_,_,h4,_⟩:=hs.rot.dwA
  rw[HBT.out] at h4;exact h4
 obtain⟨D,cD,kQ,_⟩:∃ D cD,w.cell? ⟨M,3,none⟩=some (.slice D nq cD)∧True:=by
  obtain⟨A,n,c,B',cB,C,cC,D,cD,hp,ho⟩:=hs.rot.dwopen
  rw[HQT.out] at ho
  exact⟨D,cD,Rd.blk (by rfl) _ ho,trivial⟩
 refine wp_region_chain [false,false,false,false,false,false,false,false,false,false,false,false,false,false,false,false,false,false,false,false,false,false,false,false,false,true,false,false,false,false,true,true,true] (by kernel_rfl) (by kernel_rfl) ?_
 intro wb hwb
 replace hs:=hs.grew hwb
 replace kM:=Grew.cell hwb kM
 replace kQ:=Grew.cell hwb kQ
 clear hwb
 have hne:Nonempty (GW wb):=⟨⟨wb,Grew.refl _⟩⟩
 have f0:=fun p:GW wb=>p.grew.cell kM
 have f1:=fun p:GW wb=>p.grew.cell kQ
 simp only[pickOps]
 repeat (go_big_quiet_step (first
  | (go_at_call 51;exact in_grew (woheld_v (hs.grew (GW.grew _)) HB))
  | (go_at_call 66;exact in_gsame (wo_ents (hs.grew (GW.grew _))))
  | (go_at_call 49;exact in_gsame (wo_res (hs.grew (GW.grew _))))
  | (go_at_call 56;exact in_gsame (wo_queue (hs.grew (GW.grew _))))))
 refine wpQuiet_nil ?_
 clear hne f0 f1 kM
 intro u0 hu0
 simp only[chainIx]
 replace hs:=hs.grew hu0
 replace kQ:=Grew.cell hu0 kQ
 clear hu0
 refine wpChain_next rfl ?_
 (go_wp2_with (first
  | (go_at_call 124;refine (wo_qall HQ9.out hs HQ).mono ?_;rintro r w2 ⟨BQ,cQ,rfl,hm2⟩)))
 refine⟨hm2.made_grew,?_⟩
 intro u1 hu1
 replace kQ:=Grew.cell hu1 (Grew.cell hm2.made_grew kQ)
 replace hs:=(hs.made hm2).grew hu1
 clear hm2 hu1
 rw[HP.out.al.q] at hs
 refine wpChain_next rfl ?_
 obtain⟨D2,cD2,kQ2,hso⟩:=dw_sameq (M:=M) (t:=t) (hs.pm) HQT (by omega)
 rw[kQ2] at kQ
 injection kQ with kQ
 injection kQ with e1 e2 e3
 subst e1;subst e3
 (go_wp2_with (first
  | (go_at_call 123;refine (hso _ (Grew.refl _)).mono ?_;rintro r w3 ⟨rfl,hg⟩)))
 try refine⟨hg,?_⟩
 intro u2 hu2
 replace hs:=((hs.grew hg).grew hu2).drop
 clear hg hu2 kQ2 hso
 refine wpChain_next rfl ?_
 go_wp2
 try refine⟨Grew.refl _,?_⟩
 intro u3 hu3
 replace hs:=hs.grew hu3
 clear hu3
 refine wpChain_last rfl ?_
 go_upto_region 3 with (fail)
 obtain⟨A3,k0,hin⟩:=dw_in (hs.rot) HNT HHT
 go_upto_region 4 with (first
  | (go_at_call 45;refine (hin _ (Grew.refl _)).mono ?_;clear k0;rintro r w ⟨B8,c8,rfl,hm9⟩;replace hs:=hs.made hm9;clear hm9))
 clear hin
 go_upto_region 6 with (first
  | (go_at_call 66;refine (wo_ents hs.drop).mono ?_;rintro r w9 ⟨rfl,rfl⟩)
  | (go_at_call 39;refine (wo_alloc hs.drop).mono ?_;rintro r w9 ⟨rfl,rfl⟩)
  | (go_at_call 44;refine (wo_live (hT.grew hs.below) hs.drop HN HH).mono ?_;rintro r w ⟨B7,c7,rfl,hm9⟩;replace hs:=hs.made hm9;clear hm9)
  | (go_at_call 36;refine (sameH_c HHL.out (by omega) hs (RdS.own hs) (RdS.own hs.drop).tail).mono ?_;rintro r w ⟨rfl,hg⟩;replace hs:=hs.grew hg;clear hg))
 replace hs:=hs.drop
 go_upto_region 7 with (fail)
 go_loopw [6] (fun iv wr=>∃ i:Nat,i≤nl∧iv= .int .i64 (i:Nat)∧St w0 (own B8 nl c8 40 2 (hsV hl)::WoB W E A R X Q n s::DwB M t::L) wr) (fun iv _=>nl - (intOf iv).toNat)
 case atStart=>exact⟨0,Nat.zero_le _,rfl,hs⟩
 case round=>
  clear hs
  obtain⟨i,hi,rfl,hs⟩:=hrel
  by_cases hlt:i < nl
  ·obtain⟨⟨a,g⟩,hx0⟩:∃ x,hl[i]? =some x:=⟨_,List.getElem?_eq_getElem (by rw[HHL.out];exact hlt)⟩
   obtain⟨gH,rfl⟩:=hs.own_at (by omega)
   have h0:(hsV hl)[i*2]? =some (.int .i64 a):=by have:=hsV_get hx0 0 _ rfl;simpa using this
   have h1:(hsV hl)[i*2+1]? =some (.int .i64 g):=hsV_get hx0 1 _ rfl
   have hlv:=HLV.out _ (List.mem_of_getElem? hx0)
   obtain⟨ps,HPP⟩:∃ z,Hid (ofN s.e.l a s.e.l.length=z):=⟨_,rfl⟩
   have HPS:Hid (s.e.parts (a,g)=(ps,0)):=by rw[Hid,parts_live hlv,HPP.out]
   have HPT:Hid (t.e.parts (a,g)=(ps,0)):=by rw[Hid,← HP.out.al.e.parts];exact HPS.out
   have hlb:ps.length≤1000:=by rw[← HPP.out];exact Nat.le_trans (ofN_le _ _ _) (by rw[HP.out.len];omega)
   have HGP:Hid (∀ q∈ps,∃ u,s.get (a,g) (q:Nat)=(u,0)):=fun q hq=>by unfold WoS.get;exact get_part hlv (by rw[HPP.out];exact hq)
   clear hlv
   go_upto_region 9 with (fail)
   refine wp_mix 2 [0,2,3,4,5] [1,6,7,8,9,10,11] hs.only (by kernel_rfl) (by kernel_rfl) fun hne=>?_
   have r0:=(show Rd w0 [own (some ⟨gH,0,none⟩) nl c8 40 2 (hsV hl)] ⟨gH,i*2,none⟩ (.int .i64 a) from Rd.own h0).alln
   have r1:=(show Rd w0 [own (some ⟨gH,0,none⟩) nl c8 40 2 (hsV hl)] ⟨gH,i*2+1,none⟩ (.int .i64 g) from Rd.own h1).alln
   simp only[opsAt,List.getElem?_toArray,List.getElem?_cons_succ,List.getElem?_cons_zero]
   repeat (go_big_quiet_step (fail))
   refine wpQuiet_nil ?_
   clear hne r0 r1
   replace hs:=hs.drew
   refine wpMix_next [1] (by kernel_rfl) (by simp) (fun c hc=>?_)
   simp only[List.mem_singleton] at hc
   subst hc
   refine⟨_,rfl,?_⟩
   go_wp2_with (first
    | (go_at_call 66;refine (wo_ents hs.drop).mono ?_;rintro r w9 ⟨rfl,rfl⟩))
   refine mix_quiet [] [6,7,8,9,10,11] hs.only (by kernel_rfl) (by kernel_rfl) fun hne=>?_
   simp only[opsAt]
   refine wpQuiet_nil ?_
   clear hne
   refine wpMix_next [6] (by kernel_rfl) (by simp) (fun c hc=>?_)
   simp only[List.mem_singleton] at hc
   subst hc
   refine⟨_,rfl,?_⟩
   go_wp2_with (first
    | (go_at_call 33;refine (wo_parts (h:=(a,g)) hs.rot HPS).mono ?_;clear hs;rintro r w ⟨B5,m5,c5,hm5,rfl,hs⟩))
   replace hs:St w0 (own (some ⟨gH,0,none⟩) nl c8 40 2 (hsV hl)::WoB W E A R X Q n s::DwB M t::own B5 m5 c5 3 1 (nsV ps)::L) w:=hs.pm
   refine mix_quiet [7,8,9,10,11] [] hs.only (by kernel_rfl) (by kernel_rfl) fun hne=>?_
   simp only[opsAt,List.getElem?_toArray,List.getElem?_cons_succ,List.getElem?_cons_zero]
   repeat (go_big_quiet_step (fail))
   refine wpQuiet_nil ?_
   clear hne
   refine wpMix_end ?_
   replace hs:St w0 (DwB M t::own B5 m5 c5 3 1 (nsV ps)::WoB W E A R X Q n s::own (some ⟨gH,0,none⟩) nl c8 40 2 (hsV hl)::L) _:=hs.pm
   have hb5:m5≤1000:=by rw[← hm5.out];exact hlb
   go_upto_region 11 with (first
    | (refine wpl_load_agg (cs:=h2 (a,g)) (b:=gH) (o:=i*2) rfl aggH (sizeHd _) hs ?hh ?_;case hh=>exact fun j x hx=>(Rd.own (hsV_get hx0 j x hx)).tail.tail.tail)
    | (go_at_call 34;refine (dw_parts (h:=(a,g)) hs HLT.out HPT).mono ?_;clear hs;rintro r w ⟨B6,m6,c6,hm6,rfl,hs⟩;obtain rfl:m5=m6:=(by rw[← hm5.out,← hm6.out])))
   replace hs:St w0 (own B5 m5 c5 3 1 (nsV ps)::own B6 m5 c6 3 1 (nsV ps)::WoB W E A R X Q n s::DwB M t::own (some ⟨gH,0,none⟩) nl c8 40 2 (hsV hl)::L) _:=hs.pm
   rw[nsV_intv9] at hs
   go_upto_region 13 with (first
    | (go_at_call 35;refine (rsame_c (b:=true) hm5.out hm5.out (by omega) hs (RdS.own hs) (RdS.own hs.drop).tail ⟨fun _=>rfl,fun _=>rfl⟩).mono ?_;rintro r w ⟨rfl,hg⟩;replace hs:=hs.grew hg;clear hg))
   rw[← nsV_intv9] at hs
   replace hs:St w0 (own (some ⟨gH,0,none⟩) nl c8 40 2 (hsV hl)::own B6 m5 c6 3 1 (nsV ps)::WoB W E A R X Q n s::DwB M t::L) _:=(hs.pm (M:=own B5 m5 c5 3 1 (nsV ps)::own (some ⟨gH,0,none⟩) nl c8 40 2 (hsV hl)::own B6 m5 c6 3 1 (nsV ps)::WoB W E A R X Q n s::DwB M t::L)).drop
   clear HPS HPT
   go_upto_region 14 with (fail)
   go_loopw [11] (fun jv wr=>∃ j:Nat,j≤m5∧jv= .int .i64 (j:Nat)∧St w0 (own (some ⟨gH,0,none⟩) nl c8 40 2 (hsV hl)::own B6 m5 c6 3 1 (nsV ps)::WoB W E A R X Q n s::DwB M t::L) wr) (fun jv _=>m5 - (intOf jv).toNat)
   case atStart=>exact⟨0,Nat.zero_le _,rfl,hs⟩
   case round=>
    clear hs
    obtain⟨j,hj,rfl,hs⟩:=hrel
    by_cases hlj:j < m5
    ·obtain⟨q,hq⟩:∃ q,ps[j]? =some q:=⟨_,List.getElem?_eq_getElem (by rw[hm5.out];exact hlj)⟩
     obtain⟨gP,rfl⟩:=hs.rot.own_at (by omega)
     have h2'':(nsV ps)[j]? =some (.int .i64 (q:Nat)):=by unfold nsV;rw[List.getElem?_map,hq];rfl
     obtain⟨u,hu⟩:=HGP.out q (List.mem_of_getElem? hq)
     have HG1:=Lib.hid hu
     have HG2:Hid (t.get (a,g) (q:Int)=(u,0)):=by rw[Hid,← HP.out.al.get];exact hu
     clear hu hq
     go_upto_region 16 with (fail)
     go_cut [12,13] from 102 to 140 (fun pv ev wx=>∃ g12,pv= .pointer (some ⟨g12,0,none⟩)∧ev= .int .i64 0∧St w0 (blk g12 (YtiafdlofcjbllaaGreatDoor.c3 u).toArray 38::own (some ⟨gH,0,none⟩) nl c8 40 2 (hsV hl)::own (some ⟨gP,0,none⟩) m5 c6 3 1 (nsV ps)::WoB W E A R X Q n s::DwB M t::L) wx)
     case first=>
      refine wp_mix 3 [0,1,2,3,4,5,6,7,8] [9,10,11,12,13,14,15] hs.only2 (by kernel_rfl) (by kernel_rfl) fun hne=>?_
      have r0:=(show Rd w0 [own (some ⟨gH,0,none⟩) nl c8 40 2 (hsV hl),own (some ⟨gP,0,none⟩) m5 c6 3 1 (nsV ps)] ⟨gH,i*2,none⟩ (.int .i64 a) from Rd.own h0).alln
      have r1:=(show Rd w0 [own (some ⟨gH,0,none⟩) nl c8 40 2 (hsV hl),own (some ⟨gP,0,none⟩) m5 c6 3 1 (nsV ps)] ⟨gH,i*2+1,none⟩ (.int .i64 g) from Rd.own h1).alln
      have r2:=(show Rd w0 [own (some ⟨gH,0,none⟩) nl c8 40 2 (hsV hl),own (some ⟨gP,0,none⟩) m5 c6 3 1 (nsV ps)] ⟨gP,j,none⟩ (.int .i64 (q:Nat)) from (Rd.own (size:=1) h2'').tail).alln
      simp only[opsAt,List.getElem?_toArray,List.getElem?_cons_succ,List.getElem?_cons_zero]
      repeat (go_big_quiet_step (fail))
      refine wpQuiet_nil ?_
      clear hne r0 r1 r2
      replace hs:=hs.drew
      refine wpMix_next [9,13] (by kernel_rfl) (by simp) (fun c hc=>?_)
      simp only[List.mem_cons,List.not_mem_nil,or_false] at hc
      rcases hc with rfl | rfl
      ·skip
       refine⟨_,rfl,?_⟩
       have hs2:St w0 (WoB W E A R X Q n s::own (some ⟨gH,0,none⟩) nl c8 40 2 (hsV hl)::own (some ⟨gP,0,none⟩) m5 c6 3 1 (nsV ps)::DwB M t::L) _:=hs.pm
       go_wp2_with (first
        | (go_at_call 55;refine (wo_get (h:=(a,g)) hs2 HG1).mono ?_;clear hs hs2;rintro r w ⟨rfl,hs⟩;replace hs:St w0 (own (some ⟨gH,0,none⟩) nl c8 40 2 (hsV hl)::own (some ⟨gP,0,none⟩) m5 c6 3 1 (nsV ps)::WoB W E A R X Q n s::DwB M t::L) w:=hs.pm))
       refine mix_quiet [10,11,12] [13,14,15] hs.only2 (by kernel_rfl) (by kernel_rfl) fun hne=>?_
       simp only[opsAt,List.getElem?_toArray,List.getElem?_cons_succ,List.getElem?_cons_zero]
       repeat (go_big_quiet_step (fail))
       refine wpQuiet_nil ?_
       clear hne
       refine wpMix_next [13] (by kernel_rfl) (by simp) (fun c hc=>?_)
       simp only[List.mem_singleton] at hc
       subst hc
       refine⟨_,rfl,?_⟩
       refine wpl_alloc zero3 hs ?_
       clear hs
       intro g12 w hs
       replace hs:St w0 (blk g12 (YtiafdlofcjbllaaGreatDoor.c3 V3.z).toArray 38::_) w:=hs
       replace hs:St w0 (own (some ⟨gH,0,none⟩) nl c8 40 2 (hsV hl)::own (some ⟨gP,0,none⟩) m5 c6 3 1 (nsV ps)::WoB W E A R X Q n s::DwB M t::blk g12 (YtiafdlofcjbllaaGreatDoor.c3 V3.z).toArray 38::L) w:=hs.pm
       refine wpList_nil ⟨rfl,?_⟩
       refine mix_quiet [] [14,15] hs.only2 (by kernel_rfl) (by kernel_rfl) fun hne=>?_
       simp only[opsAt]
       refine wpQuiet_nil ?_
       clear hne
       refine wpMix_next [14] (by kernel_rfl) (by simp) (fun c hc=>?_)
       simp only[List.mem_singleton] at hc
       subst hc
       refine⟨_,rfl,?_⟩
       refine wpl_store_agg (v:=val3 u) rfl rfl (size3 _) (hs.pm (M:=blk g12 (YtiafdlofcjbllaaGreatDoor.c3 V3.z).toArray 38::own (some ⟨gH,0,none⟩) nl c8 40 2 (hsV hl)::own (some ⟨gP,0,none⟩) m5 c6 3 1 (nsV ps)::WoB W E A R X Q n s::DwB M t::L)) WrA.slot3 ?_
       clear hs
       intro w hs
       replace hs:St w0 (own (some ⟨gH,0,none⟩) nl c8 40 2 (hsV hl)::own (some ⟨gP,0,none⟩) m5 c6 3 1 (nsV ps)::WoB W E A R X Q n s::DwB M t::blk g12 (YtiafdlofcjbllaaGreatDoor.c3 u).toArray 38::L) w:=hs.pm
       refine wpList_nil ⟨rfl,?_⟩
       refine mix_quiet [15] [] hs.only2 (by kernel_rfl) (by kernel_rfl) fun hne=>?_
       simp only[opsAt,List.getElem?_toArray,List.getElem?_cons_succ,List.getElem?_cons_zero]
       try simp only[Act.put,List.setIfInBounds_toArray,List.set_cons_succ,List.set_cons_zero]
       repeat (go_big_quiet_step (fail))
       refine wpQuiet_nil ?_
       clear hne
       refine wpMix_end ?_
       go_wp2
       go_meet
       exact⟨g12,rfl,rfl,hs.pm⟩
      ·skip
       refine⟨_,rfl,?_⟩
       refine wpl_alloc zero3 hs ?_
       clear hs
       intro g12 w hs
       replace hs:St w0 (blk g12 (YtiafdlofcjbllaaGreatDoor.c3 V3.z).toArray 38::_) w:=hs
       replace hs:St w0 (own (some ⟨gH,0,none⟩) nl c8 40 2 (hsV hl)::own (some ⟨gP,0,none⟩) m5 c6 3 1 (nsV ps)::WoB W E A R X Q n s::DwB M t::blk g12 (YtiafdlofcjbllaaGreatDoor.c3 V3.z).toArray 38::L) w:=hs.pm
       refine wpList_nil ⟨rfl,?_⟩
       refine mix_quiet [] [9,10,11,12,14,15] hs.only2 (by kernel_rfl) (by kernel_rfl) fun hne=>?_
       simp only[opsAt]
       refine wpQuiet_nil ?_
       clear hne
       refine wpMix_next [9] (by kernel_rfl) (by simp) (fun c hc=>?_)
       simp only[List.mem_singleton] at hc
       subst hc
       refine⟨_,rfl,?_⟩
       have hs2:St w0 (WoB W E A R X Q n s::own (some ⟨gH,0,none⟩) nl c8 40 2 (hsV hl)::own (some ⟨gP,0,none⟩) m5 c6 3 1 (nsV ps)::DwB M t::blk g12 (YtiafdlofcjbllaaGreatDoor.c3 V3.z).toArray 38::L) _:=hs.pm
       go_wp2_with (first
        | (go_at_call 55;refine (wo_get (h:=(a,g)) hs2 HG1).mono ?_;clear hs hs2;rintro r w ⟨rfl,hs⟩;replace hs:St w0 (own (some ⟨gH,0,none⟩) nl c8 40 2 (hsV hl)::own (some ⟨gP,0,none⟩) m5 c6 3 1 (nsV ps)::WoB W E A R X Q n s::DwB M t::blk g12 (YtiafdlofcjbllaaGreatDoor.c3 V3.z).toArray 38::L) w:=hs.pm))
       refine mix_quiet [10,11,12] [14,15] hs.only2 (by kernel_rfl) (by kernel_rfl) fun hne=>?_
       simp only[opsAt,List.getElem?_toArray,List.getElem?_cons_succ,List.getElem?_cons_zero]
       repeat (go_big_quiet_step (fail))
       refine wpQuiet_nil ?_
       clear hne
       refine wpMix_next [14] (by kernel_rfl) (by simp) (fun c hc=>?_)
       simp only[List.mem_singleton] at hc
       subst hc
       refine⟨_,rfl,?_⟩
       refine wpl_store_agg (v:=val3 u) rfl rfl (size3 _) (hs.pm (M:=blk g12 (YtiafdlofcjbllaaGreatDoor.c3 V3.z).toArray 38::own (some ⟨gH,0,none⟩) nl c8 40 2 (hsV hl)::own (some ⟨gP,0,none⟩) m5 c6 3 1 (nsV ps)::WoB W E A R X Q n s::DwB M t::L)) WrA.slot3 ?_
       clear hs
       intro w hs
       replace hs:St w0 (own (some ⟨gH,0,none⟩) nl c8 40 2 (hsV hl)::own (some ⟨gP,0,none⟩) m5 c6 3 1 (nsV ps)::WoB W E A R X Q n s::DwB M t::blk g12 (YtiafdlofcjbllaaGreatDoor.c3 u).toArray 38::L) w:=hs.pm
       refine wpList_nil ⟨rfl,?_⟩
       refine mix_quiet [15] [] hs.only2 (by kernel_rfl) (by kernel_rfl) fun hne=>?_
       simp only[opsAt,List.getElem?_toArray,List.getElem?_cons_succ,List.getElem?_cons_zero]
       try simp only[Act.put,List.setIfInBounds_toArray,List.set_cons_succ,List.set_cons_zero]
       repeat (go_big_quiet_step (fail))
       refine wpQuiet_nil ?_
       clear hne
       refine wpMix_end ?_
       go_wp2
       go_meet
       exact⟨g12,rfl,rfl,hs.pm⟩
     case rest=>
     clear hs
     obtain⟨g12,rfl,rfl,hs⟩:=hcut
     replace hs:St w0 (own (some ⟨gH,0,none⟩) nl c8 40 2 (hsV hl)::own (some ⟨gP,0,none⟩) m5 c6 3 1 (nsV ps)::WoB W E A R X Q n s::DwB M t::blk g12 (YtiafdlofcjbllaaGreatDoor.c3 u).toArray 38::L) _:=hs.pm
     go_upto_region 17 with (fail)
     go_cut [14,15] from 102 to 140 (fun pv ev wx=>∃ g14,pv= .pointer (some ⟨g14,0,none⟩)∧ev= .int .i64 0∧St w0 (blk g14 (YtiafdlofcjbllaaGreatDoor.c3 u).toArray 38::blk g12 (YtiafdlofcjbllaaGreatDoor.c3 u).toArray 38::own (some ⟨gH,0,none⟩) nl c8 40 2 (hsV hl)::own (some ⟨gP,0,none⟩) m5 c6 3 1 (nsV ps)::WoB W E A R X Q n s::DwB M t::L) wx)
     case first=>
      refine wp_mix 3 [0,1,2,3,4,5,6,7,8] [9,10,11,12,13,14,15] hs.only2 (by kernel_rfl) (by kernel_rfl) fun hne=>?_
      have r0:=(show Rd w0 [own (some ⟨gH,0,none⟩) nl c8 40 2 (hsV hl),own (some ⟨gP,0,none⟩) m5 c6 3 1 (nsV ps)] ⟨gH,i*2,none⟩ (.int .i64 a) from Rd.own h0).alln
      have r1:=(show Rd w0 [own (some ⟨gH,0,none⟩) nl c8 40 2 (hsV hl),own (some ⟨gP,0,none⟩) m5 c6 3 1 (nsV ps)] ⟨gH,i*2+1,none⟩ (.int .i64 g) from Rd.own h1).alln
      have r2:=(show Rd w0 [own (some ⟨gH,0,none⟩) nl c8 40 2 (hsV hl),own (some ⟨gP,0,none⟩) m5 c6 3 1 (nsV ps)] ⟨gP,j,none⟩ (.int .i64 (q:Nat)) from (Rd.own (size:=1) h2'').tail).alln
      simp only[opsAt,List.getElem?_toArray,List.getElem?_cons_succ,List.getElem?_cons_zero]
      repeat (go_big_quiet_step (fail))
      refine wpQuiet_nil ?_
      clear hne r0 r1 r2
      replace hs:=hs.drew
      refine wpMix_next [9,13] (by kernel_rfl) (by simp) (fun c hc=>?_)
      simp only[List.mem_cons,List.not_mem_nil,or_false] at hc
      rcases hc with rfl | rfl
      ·skip
       refine⟨_,rfl,?_⟩
       have hs2:St w0 (DwB M t::own (some ⟨gH,0,none⟩) nl c8 40 2 (hsV hl)::own (some ⟨gP,0,none⟩) m5 c6 3 1 (nsV ps)::WoB W E A R X Q n s::blk g12 (YtiafdlofcjbllaaGreatDoor.c3 u).toArray 38::L) _:=hs.pm
       go_wp2_with (first
        | (go_at_call 30;refine (dw_get (h:=(a,g)) hs2 HG2).mono ?_;clear hs hs2;rintro r w ⟨rfl,hs⟩;replace hs:St w0 (own (some ⟨gH,0,none⟩) nl c8 40 2 (hsV hl)::own (some ⟨gP,0,none⟩) m5 c6 3 1 (nsV ps)::WoB W E A R X Q n s::DwB M t::blk g12 (YtiafdlofcjbllaaGreatDoor.c3 u).toArray 38::L) w:=hs.pm))
       refine mix_quiet [10,11,12] [13,14,15] hs.only2 (by kernel_rfl) (by kernel_rfl) fun hne=>?_
       simp only[opsAt,List.getElem?_toArray,List.getElem?_cons_succ,List.getElem?_cons_zero]
       repeat (go_big_quiet_step (fail))
       refine wpQuiet_nil ?_
       clear hne
       refine wpMix_next [13] (by kernel_rfl) (by simp) (fun c hc=>?_)
       simp only[List.mem_singleton] at hc
       subst hc
       refine⟨_,rfl,?_⟩
       refine wpl_alloc zero3 hs ?_
       clear hs
       intro g14 w hs
       replace hs:St w0 (blk g14 (YtiafdlofcjbllaaGreatDoor.c3 V3.z).toArray 38::_) w:=hs
       replace hs:St w0 (own (some ⟨gH,0,none⟩) nl c8 40 2 (hsV hl)::own (some ⟨gP,0,none⟩) m5 c6 3 1 (nsV ps)::WoB W E A R X Q n s::DwB M t::blk g12 (YtiafdlofcjbllaaGreatDoor.c3 u).toArray 38::blk g14 (YtiafdlofcjbllaaGreatDoor.c3 V3.z).toArray 38::L) w:=hs.pm
       refine wpList_nil ⟨rfl,?_⟩
       refine mix_quiet [] [14,15] hs.only2 (by kernel_rfl) (by kernel_rfl) fun hne=>?_
       simp only[opsAt]
       refine wpQuiet_nil ?_
       clear hne
       refine wpMix_next [14] (by kernel_rfl) (by simp) (fun c hc=>?_)
       simp only[List.mem_singleton] at hc
       subst hc
       refine⟨_,rfl,?_⟩
       refine wpl_store_agg (v:=val3 u) rfl rfl (size3 _) (hs.pm (M:=blk g14 (YtiafdlofcjbllaaGreatDoor.c3 V3.z).toArray 38::own (some ⟨gH,0,none⟩) nl c8 40 2 (hsV hl)::own (some ⟨gP,0,none⟩) m5 c6 3 1 (nsV ps)::WoB W E A R X Q n s::DwB M t::blk g12 (YtiafdlofcjbllaaGreatDoor.c3 u).toArray 38::L)) WrA.slot3 ?_
       clear hs
       intro w hs
       replace hs:St w0 (own (some ⟨gH,0,none⟩) nl c8 40 2 (hsV hl)::own (some ⟨gP,0,none⟩) m5 c6 3 1 (nsV ps)::WoB W E A R X Q n s::DwB M t::blk g12 (YtiafdlofcjbllaaGreatDoor.c3 u).toArray 38::blk g14 (YtiafdlofcjbllaaGreatDoor.c3 u).toArray 38::L) w:=hs.pm
       refine wpList_nil ⟨rfl,?_⟩
       refine mix_quiet [15] [] hs.only2 (by kernel_rfl) (by kernel_rfl) fun hne=>?_
       simp only[opsAt,List.getElem?_toArray,List.getElem?_cons_succ,List.getElem?_cons_zero]
       try simp only[Act.put,List.setIfInBounds_toArray,List.set_cons_succ,List.set_cons_zero]
       repeat (go_big_quiet_step (fail))
       refine wpQuiet_nil ?_
       clear hne
       refine wpMix_end ?_
       go_wp2
       go_meet
       exact⟨g14,rfl,rfl,hs.pm⟩
      ·skip
       refine⟨_,rfl,?_⟩
       refine wpl_alloc zero3 hs ?_
       clear hs
       intro g14 w hs
       replace hs:St w0 (blk g14 (YtiafdlofcjbllaaGreatDoor.c3 V3.z).toArray 38::_) w:=hs
       replace hs:St w0 (own (some ⟨gH,0,none⟩) nl c8 40 2 (hsV hl)::own (some ⟨gP,0,none⟩) m5 c6 3 1 (nsV ps)::WoB W E A R X Q n s::DwB M t::blk g12 (YtiafdlofcjbllaaGreatDoor.c3 u).toArray 38::blk g14 (YtiafdlofcjbllaaGreatDoor.c3 V3.z).toArray 38::L) w:=hs.pm
       refine wpList_nil ⟨rfl,?_⟩
       refine mix_quiet [] [9,10,11,12,14,15] hs.only2 (by kernel_rfl) (by kernel_rfl) fun hne=>?_
       simp only[opsAt]
       refine wpQuiet_nil ?_
       clear hne
       refine wpMix_next [9] (by kernel_rfl) (by simp) (fun c hc=>?_)
       simp only[List.mem_singleton] at hc
       subst hc
       refine⟨_,rfl,?_⟩
       have hs2:St w0 (DwB M t::own (some ⟨gH,0,none⟩) nl c8 40 2 (hsV hl)::own (some ⟨gP,0,none⟩) m5 c6 3 1 (nsV ps)::WoB W E A R X Q n s::blk g12 (YtiafdlofcjbllaaGreatDoor.c3 u).toArray 38::blk g14 (YtiafdlofcjbllaaGreatDoor.c3 V3.z).toArray 38::L) _:=hs.pm
       go_wp2_with (first
        | (go_at_call 30;refine (dw_get (h:=(a,g)) hs2 HG2).mono ?_;clear hs hs2;rintro r w ⟨rfl,hs⟩;replace hs:St w0 (own (some ⟨gH,0,none⟩) nl c8 40 2 (hsV hl)::own (some ⟨gP,0,none⟩) m5 c6 3 1 (nsV ps)::WoB W E A R X Q n s::DwB M t::blk g12 (YtiafdlofcjbllaaGreatDoor.c3 u).toArray 38::blk g14 (YtiafdlofcjbllaaGreatDoor.c3 V3.z).toArray 38::L) w:=hs.pm))
       refine mix_quiet [10,11,12] [14,15] hs.only2 (by kernel_rfl) (by kernel_rfl) fun hne=>?_
       simp only[opsAt,List.getElem?_toArray,List.getElem?_cons_succ,List.getElem?_cons_zero]
       repeat (go_big_quiet_step (fail))
       refine wpQuiet_nil ?_
       clear hne
       refine wpMix_next [14] (by kernel_rfl) (by simp) (fun c hc=>?_)
       simp only[List.mem_singleton] at hc
       subst hc
       refine⟨_,rfl,?_⟩
       refine wpl_store_agg (v:=val3 u) rfl rfl (size3 _) (hs.pm (M:=blk g14 (YtiafdlofcjbllaaGreatDoor.c3 V3.z).toArray 38::own (some ⟨gH,0,none⟩) nl c8 40 2 (hsV hl)::own (some ⟨gP,0,none⟩) m5 c6 3 1 (nsV ps)::WoB W E A R X Q n s::DwB M t::blk g12 (YtiafdlofcjbllaaGreatDoor.c3 u).toArray 38::L)) WrA.slot3 ?_
       clear hs
       intro w hs
       replace hs:St w0 (own (some ⟨gH,0,none⟩) nl c8 40 2 (hsV hl)::own (some ⟨gP,0,none⟩) m5 c6 3 1 (nsV ps)::WoB W E A R X Q n s::DwB M t::blk g12 (YtiafdlofcjbllaaGreatDoor.c3 u).toArray 38::blk g14 (YtiafdlofcjbllaaGreatDoor.c3 u).toArray 38::L) w:=hs.pm
       refine wpList_nil ⟨rfl,?_⟩
       refine mix_quiet [15] [] hs.only2 (by kernel_rfl) (by kernel_rfl) fun hne=>?_
       simp only[opsAt,List.getElem?_toArray,List.getElem?_cons_succ,List.getElem?_cons_zero]
       try simp only[Act.put,List.setIfInBounds_toArray,List.set_cons_succ,List.set_cons_zero]
       repeat (go_big_quiet_step (fail))
       refine wpQuiet_nil ?_
       clear hne
       refine wpMix_end ?_
       go_wp2
       go_meet
       exact⟨g14,rfl,rfl,hs.pm⟩
     case rest=>
     clear hs
     obtain⟨g14,rfl,rfl,hs⟩:=hcut
     go_upto_region 18 with (fail)
     obtain⟨p0,p1,p2⟩:=Has3.facts (has3_slot (g:=g14) (v:=u) (t:=38)) hs
     obtain⟨q0,q1,q2⟩:=Has3.facts (has3_tail (has3_slot (g:=g12) (v:=u) (t:=38))) hs
     go_wp2
     clear p0 p1 p2 q0 q1 q2
     go_roundw
     case rel=>exact⟨j+1,by omega,by first | rfl | go_num,(hs.pm (M:=blk g14 (YtiafdlofcjbllaaGreatDoor.c3 u).toArray 38::blk g12 (YtiafdlofcjbllaaGreatDoor.c3 u).toArray 38::own (some ⟨gH,0,none⟩) nl c8 40 2 (hsV hl)::own (some ⟨gP,0,none⟩) m5 c6 3 1 (nsV ps)::WoB W E A R X Q n s::DwB M t::L)).drop.drop⟩
     case measure=>simp[intOf];omega
    ·obtain rfl:m5=j:=by omega
     clear hm5 hm6
     go_wp2
     go_roundw
     case rel=>exact⟨i+1,by omega,by first | rfl | go_num,(hs.pm (M:=own B6 m5 c6 3 1 (nsV ps)::own (some ⟨gH,0,none⟩) nl c8 40 2 (hsV hl)::WoB W E A R X Q n s::DwB M t::L)).drop⟩
     case measure=>simp[intOf];omega
  ·obtain rfl:i=nl:=by omega
   clear HLV HHL
   replace hs:=hs.drop
   go_upto_region 21 with (first
    | (go_at_call 49;refine (wo_res hs).mono ?_;rintro r w9 ⟨rfl,rfl⟩)
    | (go_at_call 125;refine (wo_rall HR9.out hs HR).mono ?_;clear hs;rintro r w ⟨BR,cR,rfl,hs⟩))
   obtain⟨C,cC,kR⟩:∃ C cC,World.cell? w ⟨M,2,none⟩=some (.slice C nr cC):=by
    obtain⟨A,n,c,B',cB,C,cC,D,cD,hp,ho⟩:=hs.drop.drop.dwopen
    rw[show t.r.length=nr by rw[← HP.out.al.r];exact HR.out] at ho
    exact⟨C,cC,Rd.blk (by rfl) _ ho⟩
   go_upto_region 24 with (fail)
   go_loopw [17] (fun iv wr=>∃ j:Nat,j≤nr∧iv= .int .i64 (j:Nat)∧Grew w wr) (fun iv _=>nr - (intOf iv).toNat)
   case atStart=>exact⟨0,Nat.zero_le _,rfl,Grew.refl w⟩
   case round=>
    obtain⟨j,hj,rfl,hg0⟩:=hrel
    by_cases hlj:j < nr
    ·obtain⟨z,hz⟩:∃ z,s.r[j]? =some z:=⟨_,List.getElem?_eq_getElem (by rw[HR.out];exact hlj)⟩
     obtain⟨gR,rfl⟩:=hs.own_at (by omega)
     have hs1:=hs.grew hg0
     obtain⟨A9,n9,c9,B9,cB9,C9,cC9,D9,cD9,hp9,ho⟩:=hs1.drop.drop.dwopen
     rw[show t.r.length=nr by rw[← HP.out.al.r];exact HR.out] at ho
     have kR2:=Grew.cell hg0 kR
     have kR3:=Rd.blk (k:=2) (v:= .slice C9 nr cC9) (by rfl) _ ho
     rw[kR3] at kR2
     injection kR2 with kR2
     injection kR2 with e1 e2 e3
     subst e1;subst e3
     obtain⟨gC,rfl⟩:=ho.drop.drop.drop.drop.own_at (by omega)
     have hz1:(i8v s.r)[j]? =some (.int .i64 z):=by unfold i8v;rw[List.getElem?_map,hz];rfl
     have hz2:(i8v t.r)[j]? =some (.int .i64 z):=by rw[← HP.out.al.r];exact hz1
     have a0:World.cell? wr ⟨gR,j,none⟩=some (.int .i64 z):=Rd.own (size:=1) hz1 _ hs1
     have a1:World.cell? wr ⟨gC,j,none⟩=some (.int .i64 z):=Rd.own (size:=1) hz2 _ ho.drop.drop.drop.drop
     clear ho hp9 hz hz1 hz2
     go_upto_region 26 with (fail)
     refine wp_region_grow (by kernel_rfl) (by kernel_rfl) fun hne=>?_
     have f0:=fun p:GW wr=>p.grew.cell a0
     have f1:=fun p:GW wr=>p.grew.cell a1
     have f2:=fun p:GW wr=>p.grew.cell kR3
     repeat (go_big_quiet_step (fail))
     refine wpQuiet_nil ?_
     clear hne f0 f1 f2 a0 a1 kR3
     intro u hu
     replace hg0:=hg0.trans hu
     go_wp2
     go_roundw
     case rel=>exact⟨j+1,by omega,by first | rfl | go_num,hg0⟩
     case measure=>simp[intOf];omega
    ·obtain rfl:j=nr:=by omega
     go_wp2
     go_ret
     exact⟨rfl,(hs.grew hg0).drop⟩
end
end Go.Proofs.YtiafdlofcjbllaaGreatDoor
