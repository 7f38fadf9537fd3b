/-
  The document's World (vivariumref15.World), 11: Defer, whole.
-/
import Derived.Test.YtiafdlofcjbllaaGreatDoorZD7
import Derived.Test.YtiafdlofcjbllaaGreatDoorZD4
set_option maxRecDepth 100000
namespace Go.Proofs.YtiafdlofcjbllaaGreatDoor
section
open Go Go.RowKit
attribute [local irreducible] wpList Calls Code.wp okI okN pS tS memS getG pG insS delS getV pV tV okVal newSl SlS.put SlS.err SlS.putU SlS.putB descE SlS.take SlS.set SlS.errSet SlS.get SlS.has stV EnS.live EnS.get EnS.ins EnS.set EnS.rem EnS.parts EnS.del ofN strL delA newA giveV newE lagE WoS.apply WoS.del WoS.ins WoS.rem mergeA idxS padA WoS.run OpW.ok WoS.defE WoS.kn WoS.cmpD
theorem WoS.kn1_cmp {s:WoS} {o:OpW} (h1:o.k ≠ 1):(s.kn o).1=true↔s.cmpD o.c=0:=by
 unfold WoS.kn WoS.cmpD
 rw[if_neg h1]
 cases s.e.slot o.c with
 | none=>simp
 | some x=>simp
theorem WoS.kn2_no {s:WoS} {o:OpW} (hok:o.ok=true) (h2:o.k ≠ 2):(s.kn o).2=true:=by
 by_cases h1:o.k=1
 ·unfold WoS.kn;rw[if_pos h1]
 ·have h3:o.k=3:=by
   unfold OpW.ok at hok
   rw[if_neg h1,if_neg h2] at hok
   by_cases h3:o.k=3
   ·exact h3
   ·rw[if_neg h3] at hok;cases hok
  unfold WoS.kn
  rw[if_neg h1]
  cases s.e.slot o.c with
  | none=>rfl
  | some x=>simp[h3]
theorem WoS.kn_2 {s:WoS} {o:OpW} (h2:o.k=2) (h:(s.kn o).1=true):∃ (j X:Nat) (t:SlS),o.c=(j:Int)∧s.e.l[j]? =some (X,t)∧(s.kn o).2=decide (o.v.k=t.d.k):=by
 have hc:=(WoS.kn1_cmp (s:=s) (o:=o) (by omega)).1 h
 obtain⟨⟨X,t⟩,hx⟩:=WoS.cmpD_zero hc
 obtain⟨j,hj,hl⟩:=WoS.slot_at hx
 refine⟨j,X,t,hj,hl,?_⟩
 unfold WoS.kn
 rw[if_neg (by omega),hx]
 simp[h2]
theorem Wr.dw3q {w0:World} {L:List As} {M A:Nat} {B:Option Addr} {m cB:Nat} {C:Option Addr} {r cC:Nat} {D D':Option Addr} {q cD q' cD':Nat} {held:Bool} {t:TypeId}:Wr w0 (YtiafdlofcjbllaaGreatDoor.blk M (dwC A B m cB C r cC D q cD held) t::L) ⟨M,3,none⟩ (.slice D' q' cD') (YtiafdlofcjbllaaGreatDoor.blk M (dwC A B m cB C r cC D' q' cD' held) t::L):=Wr.blk (by simp[dwC])
set_option maxHeartbeats 4000000 in
theorem dw_defer {w0 w:World} {L:List As} {M:Nat} {s:WoS} (hs:St w0 (DwB M s::L) w) {A2:Option Addr} {m cA:Nat} {l:List OpW} (hm:Hid (l.length=m)) (hmb:m≤1000000) (HQ8:Hid (s.q.length≤10000)) (hr:RdS w0 L A2 (l.flatMap c7w)) {e:Int} {s':WoS} (HV:Hid (s.defer l=(e,s'))):
  Calls Tryz.prog 118 #[.pointer (some ⟨M,0,none⟩), .slice A2 m cA] w fun r w'=>r= .returned (.int .i64 e)∧St w0 (DwB M s'::L) w':=by
 cases H1:(l.any fun o=>!o.ok) with
 | true=>
  have h1:=HV.out
  rw[WoS.defer_bad (WoS.defE_1 H1) (by decide)] at h1
  cases h1
  exact (dw_defer1 hs hm hmb hr H1).mono fun r w' ⟨h3,h4⟩=>⟨h3,hs.grew h4⟩
 | false=>
  have HO1:Hid (∀ o∈l,o.ok=true):=fun o ho=>by
   have:=List.any_eq_false.1 H1 o ho
   simpa using this
  have HH1:=Lib.hid H1
  clear H1
  obtain⟨A,n,c,B,cB,C,cC,D,cD,hp,ho'⟩:=hs.dwopen
  have hf:=ho'.up2.raopen.1.fits
  have HST:Hid (∀ h,stV c h=stV s.e.cs h):=fun h=>by rw[← hp,of_pad hf]
  have k0:=Lib.hid (Rd.blk (k:=0) (v:= .pointer (some ⟨A,0,none⟩)) (by rfl) _ ho')
  have hra:=Lib.hid ho'.up2
  clear hp hf ho'
  have hw:=Grew.refl w
  go_enter Tryz.func118,Tryz.ntmps118
  go_upto_region 2 with (fail)
  go_loopw [5] (fun iv wr=>∃ k:Nat,k≤m∧iv= .int .i64 (k:Nat)∧Grew w wr) (fun iv _=>m - (intOf iv).toNat)
  case atStart=>exact⟨0,Nat.zero_le _,rfl,hw⟩
  case round=>
   clear hw
   obtain⟨k,hk,rfl,hg0⟩:=hrel
   by_cases hlt:k < m
   ·obtain⟨o,ho⟩:∃ o,l[k]? =some o:=⟨_,List.getElem?_eq_getElem (by rw[hm.out];exact hlt)⟩
    obtain⟨b9,off,rfl,hld⟩:=wopR hr ho
    have hs2:=hs.drop.grew hg0
    have hb:=HO1.out o (List.mem_of_getElem? ho)
    (go_wp2_with (first
     | (refine wpl_load_agg (cs:=c7w o) (b:=b9) (o:=off+k*7) rfl aggW (sizeW o) hs2 ?hh ?_;case hh=>exact fun j x hx=>hld j x hx)
     | (go_at_call 153;refine (rop_c o).mono ?_;rw[hb];rintro r w' ⟨rfl,hg⟩;replace hg0:=hg0.trans hg;clear hg)))
    go_roundw
    case rel=>exact⟨k+1,by omega,by first | rfl | go_num,hg0⟩
    case measure=>simp[intOf];omega
   ·obtain rfl:k=m:=by omega
    go_upto_region 7 with (fail)
    go_loopw [6] (fun iv wr=>∃ q:Nat,q≤k∧iv= .int .i64 (q:Nat)∧Hid ((l.take q).all (fun o=>!decide (stV s.e.cs o.h=0))=true)∧Grew w wr) (fun iv _=>k - (intOf iv).toNat)
    case atStart=>exact⟨0,Nat.zero_le _,rfl,rfl,hg0⟩
    case round=>
     clear hg0 hlt hk
     obtain⟨q,hq,rfl,HO,hg0⟩:=hrel
     by_cases hlt:q < k
     ·obtain⟨o,ho⟩:∃ o,l[q]? =some o:=⟨_,List.getElem?_eq_getElem (by rw[hm.out];exact hlt)⟩
      obtain⟨b9,off,rfl,hld⟩:=wopR hr ho
      have hs2:=hs.drop.grew hg0
      have k0':=hg0.cell k0.out
      have k1:World.cell? _ ⟨b9,off+q*7+1,none⟩=some (.int .i64 o.h.1):=hld 1 _ rfl _ hs2
      have k2:World.cell? _ ⟨b9,off+q*7+2,none⟩=some (.int .i64 o.h.2):=hld 2 _ rfl _ hs2
      have hra2:=hra.out.grew hg0
      obtain⟨sv,HSV⟩:∃ z,Hid (stV c o.h=z):=⟨_,rfl⟩
      by_cases h0:sv=0
      ·subst h0
       have hz:decide (stV s.e.cs o.h=0)=true:=by rw[← HST.out,HSV.out];rfl
       have h1:=HV.out
       rw[WoS.defer_bad (WoS.defE_4 HH1.out (any_of ho hz)) (by decide)] at h1
       cases h1
       clear HV hz
       go_upto_region 9 with (fail)
       refine wp_region_grow (by kernel_rfl) (by kernel_rfl) fun hne=>?_
       have f0:=fun p:GW _=>p.grew.cell k0'
       have f1:=fun p:GW _=>p.grew.cell k1
       have f2:=fun p:GW _=>p.grew.cell k2
       repeat (go_big_quiet_step (first
        | (go_at_call 42;exact in_grew (of_r5 (hra2.grew (GW.grew _)) HSV))))
       refine wpQuiet_nil ?_
       clear hne f0 f1 f2
       intro u hu
       replace hg0:=hg0.trans hu
       go_wp2
       go_ret
       exact⟨rfl,hs.grew hg0⟩
      ·have hz:(!decide (stV s.e.cs o.h=0))=true:=by rw[← HST.out,HSV.out];simp[h0]
       have HO2:=Lib.hid (all_take_succ ho HO.out hz)
       have e5:(sv==0)=false:=by simpa using h0
       clear h0 hz
       go_upto_region 9 with (fail)
       refine wp_region_grow (by kernel_rfl) (by kernel_rfl) fun hne=>?_
       have f0:=fun p:GW _=>p.grew.cell k0'
       have f1:=fun p:GW _=>p.grew.cell k1
       have f2:=fun p:GW _=>p.grew.cell k2
       repeat (go_big_quiet_step (first
        | (go_at_call 42;exact in_grew (of_r5 (hra2.grew (GW.grew _)) HSV))))
       refine wpQuiet_nil ?_
       clear hne f0 f1 f2
       intro u hu
       replace hg0:=hg0.trans hu
       go_wp2
       go_roundw
       case rel=>exact⟨q+1,by omega,by first | rfl | go_num,HO2,hg0⟩
       case measure=>simp[intOf];omega
     ·obtain rfl:q=k:=by omega
      have h9:=HO.out
      rw[List.take_of_length_le (by rw[hm.out];exact Nat.le_refl _)] at h9
      have HH2:=Lib.hid (any_no h9)
      clear h9 HO
      go_upto_region 12 with (fail)
      go_loopw [7] (fun iv wr=>∃ i:Nat,i≤q∧iv= .int .i64 (i:Nat)∧Hid ((l.take i).all (fun o=>(s.kn o).1)=true)∧Grew w wr) (fun iv _=>q - (intOf iv).toNat)
      case atStart=>exact⟨0,Nat.zero_le _,rfl,rfl,hg0⟩
      case round=>
       clear hg0 hlt
       obtain⟨i,hi,rfl,HO,hg0⟩:=hrel
       by_cases hlt:i < q
       ·obtain⟨o,ho⟩:∃ o,l[i]? =some o:=⟨_,List.getElem?_eq_getElem (by rw[hm.out];exact hlt)⟩
        obtain⟨b9,off,rfl,hld⟩:=wopR hr ho
        have hs2:=hs.drop.grew hg0
        have hs3:=hs.grew hg0
        have k1:World.cell? _ ⟨b9,off+i*7,none⟩=some (.int .i64 o.k):=hld 0 _ rfl _ hs2
        have k2:World.cell? _ ⟨b9,off+i*7+3,none⟩=some (.int .i64 o.c):=hld 3 _ rfl _ hs2
        obtain⟨x,HC⟩:∃ z,Hid (s.cmpD o.c=z):=⟨_,rfl⟩
        by_cases h1k:o.k=1
        ·have d1:(o.k==1)=true:=by simp[h1k]
         have d2:(o.k !=1)=false:=by simp[h1k]
         have hz:(s.kn o).1=true:=by unfold WoS.kn;rw[if_pos h1k]
         have HO2:=Lib.hid (all_take_succ ho HO.out hz)
         clear h1k hz
         (go_wp2_with (first
          | (go_at_call 136;refine (dw_comp hs3 HC).mono ?_;rintro r w' ⟨rfl,rfl⟩)))
         go_roundw
         case rel=>exact⟨i+1,by omega,by first | rfl | go_num,HO2,hg0⟩
         case measure=>simp[intOf];omega
        ·have d1:(o.k==1)=false:=by simp[h1k]
         have d2:(o.k !=1)=true:=by simp[h1k]
         by_cases h0:x=0
         ·subst h0
          have hz:(s.kn o).1=true:=(WoS.kn1_cmp h1k).2 HC.out
          have HO2:=Lib.hid (all_take_succ ho HO.out hz)
          clear h1k hz
          (go_wp2_with (first
           | (go_at_call 136;refine (dw_comp hs3 HC).mono ?_;rintro r w' ⟨rfl,rfl⟩)))
          go_roundw
          case rel=>exact⟨i+1,by omega,by first | rfl | go_num,HO2,hg0⟩
          case measure=>simp[intOf];omega
         ·have hz:(s.kn o).1=false:=by
           cases hk:(s.kn o).1 with
           | false=>rfl
           | true=>exact absurd ((WoS.kn1_cmp h1k).1 hk) (by rw[HC.out];exact h0)
          have hall:(l.all fun o=>(s.kn o).1)=false:=by
           rw[List.all_eq_false]
           exact⟨o,List.mem_of_getElem? ho,by rw[hz];decide⟩
          have h1:=HV.out
          rw[WoS.defer_bad (WoS.defE_11 HH1.out HH2.out hall) (by decide)] at h1
          cases h1
          have e5:(x==0)=false:=by simpa using h0
          have e6:(x !=0)=true:=by simpa using h0
          clear HV hz hall h1k h0
          (go_wp2_with (first
           | (go_at_call 136;refine (dw_comp hs3 HC).mono ?_;rintro r w' ⟨rfl,rfl⟩)))
          go_ret
          exact⟨rfl,hs.grew hg0⟩
       ·obtain rfl:i=q:=by omega
        have h9:=HO.out
        rw[List.take_of_length_le (by rw[hm.out];exact Nat.le_refl _)] at h9
        have HH3:=Lib.hid h9
        clear h9 HO
        go_upto_region 17 with (fail)
        go_loopw [8] (fun iv wr=>∃ p:Nat,p≤i∧iv= .int .i64 (p:Nat)∧Hid ((l.take p).all (fun o=>(s.kn o).2)=true)∧Grew w wr) (fun iv _=>i - (intOf iv).toNat)
        case atStart=>exact⟨0,Nat.zero_le _,rfl,rfl,hg0⟩
        case round=>
         clear hg0 hlt
         obtain⟨p,hi,rfl,HO,hg0⟩:=hrel
         by_cases hlt:p < i
         ·obtain⟨o,ho⟩:∃ o,l[p]? =some o:=⟨_,List.getElem?_eq_getElem (by rw[hm.out];exact hlt)⟩
          obtain⟨b9,off,rfl,hld⟩:=wopR hr ho
          have hs2:=hs.drop.grew hg0
          have k1:World.cell? _ ⟨b9,off+p*7,none⟩=some (.int .i64 o.k):=hld 0 _ rfl _ hs2
          have k2:World.cell? _ ⟨b9,off+p*7+3,none⟩=some (.int .i64 o.c):=hld 3 _ rfl _ hs2
          have k3:World.cell? _ ⟨b9,off+p*7+4,none⟩=some (.int .i64 o.v.k):=hld 4 _ rfl _ hs2
          have hmem:=List.mem_of_getElem? ho
          have hok:=HO1.out o hmem
          have hkn:=List.all_eq_true.1 HH3.out o hmem
          by_cases h2k:o.k=2
          ·have d1:(o.k==2)=true:=by simp[h2k]
           obtain⟨j,X,t,hj,hl,hk2⟩:=WoS.kn_2 h2k hkn
           rw[hj] at k2
           obtain⟨K,gB,m2,cB2,P,R,hK,hjm,hP,hs4,hback⟩:=(hs.grew hg0).dwslot hl
           have k4:World.cell? wr ⟨M,1,none⟩=some (.slice (some ⟨gB,0,none⟩) m2 cB2):=Rd.blk hK _ hs4
           have k5:World.cell? wr ⟨gB,j,none⟩=some (.pointer (some ⟨X,0,none⟩)):=by
            have:=(Rd.own (w0:=w0) (g:=gB) (n:=m2) (cap:=cB2) (e:=146) (size:=1) (L:=DsB X t::R::L) hP).tail (p:=blk M K 59) _ hs4
            exact this
           have k6:World.cell? wr ⟨X,0,none⟩=some (.int .i64 t.d.k):=(Rd.dsk (w0:=w0) (L:=R::L)).tail.tail _ hs4
           have hjm2:(j:Int) < (m2:Int):=by omega
           clear hback hK hP hs4 hkn hok hl hmem
           by_cases h0:o.v.k=t.d.k
           ·have e5:(t.d.k !=o.v.k)=false:=by simp[h0]
            have e6:(t.d.k==o.v.k)=true:=by simp[h0]
            have hz:(s.kn o).2=true:=by rw[hk2];simpa using h0
            have HO2:=Lib.hid (all_take_succ ho HO.out hz)
            clear h0 hz hk2 h2k hj
            go_upto_region 19 with (fail)
            refine wp_region_grow (by kernel_rfl) (by kernel_rfl) fun hne=>?_
            have f1:=fun p:GW _=>p.grew.cell k1
            have f2:=fun p:GW _=>p.grew.cell k2
            have f3:=fun p:GW _=>p.grew.cell k3
            have f4:=fun p:GW _=>p.grew.cell k4
            have f5:=fun p:GW _=>p.grew.cell k5
            have f6:=fun p:GW _=>p.grew.cell k6
            repeat (go_big_quiet_step (fail))
            refine wpQuiet_nil ?_
            clear hne f1 f2 f3 f4 f5 f6
            intro u hu
            replace hg0:=hg0.trans hu
            go_wp2
            go_roundw
            case rel=>exact⟨p+1,by omega,by first | rfl | go_num,HO2,hg0⟩
            case measure=>simp[intOf];omega
           ·have e5:(t.d.k !=o.v.k)=true:=by simpa using fun q=>h0 q.symm
            have e6:(t.d.k==o.v.k)=false:=by simpa using fun q=>h0 q.symm
            have hz:(s.kn o).2=false:=by rw[hk2];simpa using h0
            have hall:(l.all fun o=>(s.kn o).2)=false:=by
             rw[List.all_eq_false]
             exact⟨o,List.mem_of_getElem? ho,by rw[hz];decide⟩
            have h1:=HV.out
            rw[WoS.defer_bad (WoS.defE_9 HH1.out HH2.out HH3.out hall) (by decide)] at h1
            cases h1
            clear HV h0 hz hk2 h2k hj hall
            go_upto_region 19 with (fail)
            refine wp_region_grow (by kernel_rfl) (by kernel_rfl) fun hne=>?_
            have f1:=fun p:GW _=>p.grew.cell k1
            have f2:=fun p:GW _=>p.grew.cell k2
            have f3:=fun p:GW _=>p.grew.cell k3
            have f4:=fun p:GW _=>p.grew.cell k4
            have f5:=fun p:GW _=>p.grew.cell k5
            have f6:=fun p:GW _=>p.grew.cell k6
            repeat (go_big_quiet_step (fail))
            refine wpQuiet_nil ?_
            clear hne f1 f2 f3 f4 f5 f6
            intro u hu
            replace hg0:=hg0.trans hu
            go_wp2
            go_ret
            exact⟨rfl,hs.grew hg0⟩
          ·have d1:(o.k==2)=false:=by simp[h2k]
           have hz:=WoS.kn2_no (s:=s) hok h2k
           have HO2:=Lib.hid (all_take_succ ho HO.out hz)
           clear hz h2k hkn hok hmem
           go_upto_region 19 with (fail)
           refine wp_region_grow (by kernel_rfl) (by kernel_rfl) fun hne=>?_
           have f1:=fun p:GW _=>p.grew.cell k1
           repeat (go_big_quiet_step (fail))
           refine wpQuiet_nil ?_
           clear hne f1
           intro u hu
           replace hg0:=hg0.trans hu
           go_wp2
           go_roundw
           case rel=>exact⟨p+1,by omega,by first | rfl | go_num,HO2,hg0⟩
           case measure=>simp[intOf];omega
         ·obtain rfl:p=i:=by omega
          have h9:=HO.out
          rw[List.take_of_length_le (by rw[hm.out];exact Nat.le_refl _)] at h9
          have HH4:=Lib.hid h9
          clear h9 HO
          have HE:=Lib.hid (WoS.defE_last HH1.out HH2.out HH3.out HH4.out)
          obtain⟨nq,hnq⟩:∃ z,Hid (s.q.length=z):=⟨_,rfl⟩
          have hq9:nq≤10000:=hnq.out ▸ HQ8.out
          replace hs:=hs.grew hg0
          clear hg0 hlt HH1 HH2 HH3 HH4 HO1 HST hra k0 HQ8
          obtain⟨A,n,c,B,cB,C,cC,D,cD,hp,ho⟩:=hs.dwopen
          rw[hnq.out] at ho
          have HPD:=Lib.hid hp
          have k3:=Rd.blk (k:=3) (v:= .slice D nq cD) (by rfl) _ ho
          by_cases h9:10000 < nq+p
          ·have h1:=HV.out
           rw[WoS.defer_bad (x:=2) (by rw[HE.out,hnq.out,hm.out,if_pos h9]) (by decide)] at h1
           cases h1
           have d9:decide ((nq:Int)+(p:Int) > 10000)=true:=decide_eq_true (by omega)
           clear HV HE ho h9 hp
           go_wp2
           go_ret
           exact⟨rfl,hs⟩
          ·have h1:=HV.out
           rw[WoS.defer_ok (by rw[HE.out,hnq.out,hm.out,if_neg h9])] at h1
           cases h1
           have d9:decide ((nq:Int)+(p:Int) > 10000)=false:=decide_eq_false (by omega)
           have HC1:=Lib.hid (c7_one l)
           have hln:(l.flatMap c7w).length=p*7:=by rw[c7_len,hm.out]
           clear HV HE hs h9 hp
           replace ho:St w0 (own D nq cD 99 7 (s.q.flatMap c7w)::blk M (dwC A B s.e.l.length cB C s.r.length cC D nq cD s.held) 59::own B s.e.l.length cB 146 1 (rgP s.e.l)::RaB A n s.e.top c::Dls s.e.l::own C s.r.length cC 2 1 (i8v s.r)::L) wr:=ho.pm
           have HR:=Lib.hid hr
           clear hr
           go_wp2_with (first
            | (refine wpl_append (n:=nq) (m:=p) (news:=l.flatMap c7w) (xs:=s.q.flatMap c7w) elemW rfl rfl ho (Ent.refl _) HR.out.tail.tail.tail.tail.tail.tail hln HC1.out (by unfold maxLen;omega) (by omega) ?_;clear ho k3;intro D2 cD2 w hs)
            | (refine wpl_store (v:= .slice D2 (nq+p) cD2) rfl rfl rfl size_qs hs.rot Wr.dw3q ?_;clear hs;intro w hs))
           go_ret
           have hs9:St w0 (blk M (dwC A B s.e.l.length cB C s.r.length cC D2 (nq+p) cD2 s.held) 59::own B s.e.l.length cB 146 1 (rgP s.e.l)::RaB A n s.e.top c::Dls s.e.l::own C s.r.length cC 2 1 (i8v s.r)::own D2 (nq+p) cD2 99 7 ((s.q++l).flatMap c7w)::L) w:=by
            rw[List.flatMap_append];exact hs.pm
           exact⟨rfl,St.dwshut (s:={ s with q:=s.q++l }) (q:=nq+p) HPD.out rfl rfl (by show (s.q++l).length=_;rw[List.length_append,hnq.out,hm.out]) hs9⟩
end
section
open Go Go.RowKit
theorem eqO_x (n:Nat) (k i g c a b d:Int) (w:World):(Op.equalIn (n+1+1+1) 99 (.agg #[.int .i64 k, .int .i64 i, .int .i64 g, .int .i64 c, .int .i64 a, .int .i64 b, .int .i64 d]) (.agg #[.int .i64 k, .int .i64 i, .int .i64 g, .int .i64 c, .int .i64 a, .int .i64 b, .int .i64 d])).run Tryz.prog w= .ok true w:=by
 have u3:=Tryz.underlying3
 have a3:=Tryz.isAgg3
 have z3:=Tryz.sizeOf3
 have u2:=Tryz.underlying2
 have a2:=Tryz.isAgg2
 have z2:=Tryz.sizeOf2
 have a40:=Tryz.isAgg40
 have z40:=Tryz.sizeOf40
 have a38:=Tryz.isAgg38
 have z38:=Tryz.sizeOf38
 have hS:Tryz.prog.underlying 99=some (.struct (Tryz.prog.fieldsOf 99)):=by kernel_rfl
 have hp:Tryz.prog.stoodInHeld 99=false:=by kernel_rfl
 have hp1:Tryz.prog.stoodInHeld 40=false:=by kernel_rfl
 have hp2:Tryz.prog.stoodInHeld 38=false:=by kernel_rfl
 rw[run_equalIn_agg w (n+1+1) 99 _ _ hS hp]
 simp only[Program.fieldsOf,Tryz.underlying99]
 go_simp
theorem eqO_self (k i g c a b d:Int) (w:World):(binOp .eql 99 (.agg #[.int .i64 k, .int .i64 i, .int .i64 g, .int .i64 c, .int .i64 a, .int .i64 b, .int .i64 d]) (.agg #[.int .i64 k, .int .i64 i, .int .i64 g, .int .i64 c, .int .i64 a, .int .i64 b, .int .i64 d])).run Tryz.prog w= .ok (.bool true) w:=by
 rw[run_eql_struct,show (10000:Nat)=9997+1+1+1 from rfl,eqO_x];rfl
theorem neqO_self (k i g c a b d:Int) (w:World):(binOp .neq 99 (.agg #[.int .i64 k, .int .i64 i, .int .i64 g, .int .i64 c, .int .i64 a, .int .i64 b, .int .i64 d]) (.agg #[.int .i64 k, .int .i64 i, .int .i64 g, .int .i64 c, .int .i64 a, .int .i64 b, .int .i64 d])).run Tryz.prog w= .ok (.bool false) w:=by
 first
 | (rw[run_neq_struct,show (10000:Nat)=9997+1+1+1 from rfl,eqO_x];rfl)
 | (unfold binOp;rw[show (10000:Nat)=9997+1+1+1 from rfl];simp[eqO_x])
attribute [local irreducible] wpList Calls Code.wp
set_option maxHeartbeats 2000000 in
theorem sameO_c {w0 w:World} {L:List As} {l:List OpW} {A B:Option Addr} {n c1 c2:Nat} (hn:Hid (l.length=n)) (hm:n≤1000000) (hs:St w0 L w) (hr1:RdS w0 L A (l.flatMap c7w)) (hr2:RdS w0 L B (l.flatMap c7w)):
  Calls Tryz.prog 123 #[.slice A n c1, .slice B n c2] w fun e w'=>e= .returned (.bool true)∧Grew w w':=by
 go_enter Tryz.func123,Tryz.ntmps123
 go_wp2
 go_loopw [5] (fun iv wr=>∃ k:Nat,k≤n∧iv= .int .i64 (k:Nat)∧Grew w wr) (fun iv _=>n - (intOf iv).toNat)
 case atStart=>exact⟨0,Nat.zero_le _,rfl,Grew.refl w⟩
 case round=>
  obtain⟨k,hk,rfl,hg⟩:=hrel
  by_cases hlt:k < n
  ·obtain⟨⟨x0,⟨x1,x2⟩,x3,⟨x4,x5,x6⟩⟩,hx⟩:∃ x,l[k]? =some x:=⟨_,List.getElem?_eq_getElem (by rw[hn.out];omega)⟩
   obtain⟨b1,o1,rfl,h1⟩:=wopR hr1 hx
   obtain⟨b2,o2,rfl,h2'⟩:=wopR hr2 hx
   have hs2:=hs.grew hg
   have a0:World.cell? wr ⟨b1,o1+k*7,none⟩=some (.int .i64 x0):=h1 0 _ rfl _ hs2
   have a1:World.cell? wr ⟨b1,o1+k*7+1,none⟩=some (.int .i64 x1):=h1 1 _ rfl _ hs2
   have a2:World.cell? wr ⟨b1,o1+k*7+2,none⟩=some (.int .i64 x2):=h1 2 _ rfl _ hs2
   have a3:World.cell? wr ⟨b1,o1+k*7+3,none⟩=some (.int .i64 x3):=h1 3 _ rfl _ hs2
   have a4:World.cell? wr ⟨b1,o1+k*7+4,none⟩=some (.int .i64 x4):=h1 4 _ rfl _ hs2
   have a5:World.cell? wr ⟨b1,o1+k*7+5,none⟩=some (.int .i64 x5):=h1 5 _ rfl _ hs2
   have a6:World.cell? wr ⟨b1,o1+k*7+6,none⟩=some (.int .i64 x6):=h1 6 _ rfl _ hs2
   have b0:World.cell? wr ⟨b2,o2+k*7,none⟩=some (.int .i64 x0):=h2' 0 _ rfl _ hs2
   have b1':World.cell? wr ⟨b2,o2+k*7+1,none⟩=some (.int .i64 x1):=h2' 1 _ rfl _ hs2
   have b2':World.cell? wr ⟨b2,o2+k*7+2,none⟩=some (.int .i64 x2):=h2' 2 _ rfl _ hs2
   have b3:World.cell? wr ⟨b2,o2+k*7+3,none⟩=some (.int .i64 x3):=h2' 3 _ rfl _ hs2
   have b4:World.cell? wr ⟨b2,o2+k*7+4,none⟩=some (.int .i64 x4):=h2' 4 _ rfl _ hs2
   have b5:World.cell? wr ⟨b2,o2+k*7+5,none⟩=some (.int .i64 x5):=h2' 5 _ rfl _ hs2
   have b6:World.cell? wr ⟨b2,o2+k*7+6,none⟩=some (.int .i64 x6):=h2' 6 _ rfl _ hs2
   clear h1 h2' hx hr1 hr2
   go_upto_region 6 with (fail)
   refine wp_region_grow (by kernel_rfl) (by kernel_rfl) fun hne=>?_
   have e1:=neqO_self
   have e2:=eqO_self
   have g0:=fun p:GW wr=>p.grew.cell a0
   have g1:=fun p:GW wr=>p.grew.cell a1
   have g2:=fun p:GW wr=>p.grew.cell a2
   have g3:=fun p:GW wr=>p.grew.cell a3
   have g4:=fun p:GW wr=>p.grew.cell a4
   have g5:=fun p:GW wr=>p.grew.cell a5
   have g6:=fun p:GW wr=>p.grew.cell a6
   have i0:=fun p:GW wr=>p.grew.cell b0
   have i1:=fun p:GW wr=>p.grew.cell b1'
   have i2:=fun p:GW wr=>p.grew.cell b2'
   have i3:=fun p:GW wr=>p.grew.cell b3
   have i4:=fun p:GW wr=>p.grew.cell b4
   have i5:=fun p:GW wr=>p.grew.cell b5
   have i6:=fun p:GW wr=>p.grew.cell b6
   repeat (go_big_quiet_step (fail))
   refine wpQuiet_nil ?_
   clear hne g0 g1 g2 g3 g4 g5 g6 i0 i1 i2 i3 i4 i5 i6 a0 a1 a2 a3 a4 a5 a6 b0 b1' b2' b3 b4 b5 b6 e1 e2
   intro u hu
   go_wp2
   go_roundw
   case rel=>first | exact⟨k+1,by omega,by go_num,hg.trans hu⟩ | ((repeat apply Exists.intro);refine⟨?_,rfl⟩;exact⟨k+1,by omega,by go_num,hg.trans hu⟩)
   case measure=>simp[intOf] <;> omega
  ·go_wp2
   go_ret
   exact⟨rfl,hg⟩
theorem dw_sameq {w0 w:World} {L:List As} {M k cap:Nat} {t:WoS} {B:Option Addr} (hs:St w0 (DwB M t::own B k cap 99 7 (t.q.flatMap c7w)::L) w) (hk:Hid (t.q.length=k)) (hkb:k≤1000000):∃ D cD,w.cell? ⟨M,3,none⟩=some (.slice D k cD)∧∀ w1,Grew w w1→
  Calls Tryz.prog 123 #[.slice B k cap, .slice D k cD] w1 fun r w'=>r= .returned (.bool true)∧Grew w1 w':=by
 obtain⟨A,n,c,B',cB,C,cC,D,cD,hp,ho⟩:=hs.dwopen
 rw[hk.out] at ho
 refine⟨D,cD,Rd.blk (by rfl) _ ho,fun w1 hg=>?_⟩
 have ho2:=ho.grew hg
 exact sameO_c hk hkb ho2 (RdS.own ho2.drop.drop.drop.drop.drop.drop).tail.tail.tail.tail.tail.tail (RdS.own ho2.drop.drop.drop.drop.drop).tail.tail.tail.tail.tail
end
end Go.Proofs.YtiafdlofcjbllaaGreatDoor
