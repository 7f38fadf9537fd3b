/-
  The document's World (vivariumref15.World), 3: Create, Parts, Delete. (Printed by gen_dw3.py.)
-/
import Derived.Test.YtiafdlofcjbllaaGreatDoorZD1
import Derived.Deep.DeepCutAuto
import Derived.Deep.CutRange
import Derived.Deep.CutBlock
set_option maxRecDepth 100000
namespace Go.Proofs.YtiafdlofcjbllaaGreatDoor
section
open Go Go.RowKit
theorem delA_ok {top:Int} {cs:List ACell} {h:Hdl} (h1:stV cs h=1):(delA top cs h).1=0:=by unfold delA;rw[h1];rfl
def strK (l:List Cmp) (i:Int) (k:Nat):List Cmp:=strL (l.take k) i++l.drop k
theorem strK_zero (l:List Cmp) (i:Int):strK l i 0=l:=by simp[strK,strL]
theorem strK_len (l:List Cmp) (i:Int) (k:Nat):(strK l i k).length=l.length:=by simp[strK,strL];omega
theorem strK_all (l:List Cmp) (i:Int):strK l i l.length=strL l i:=by simp[strK]
theorem strK_get {l:List Cmp} {i:Int} {k:Nat} {x:Cmp} (h:l[k]? =some x):(strK l i k)[k]? =some x:=by
 have hl:=(List.getElem?_eq_some_iff.1 h).1
 unfold strK
 rw[List.getElem?_append_right (by simp[strL];omega),List.getElem?_drop,show (strL (l.take k) i).length=k by simp[strL];omega,Nat.sub_self,Nat.add_zero]
 exact h
theorem strK_set {l:List Cmp} {i:Int} {k:Nat} {X:Nat} {t:SlS} (h:l[k]? =some (X,t)):(strK l i k).set k (X,t.take i)=strK l i (k+1):=by
 obtain⟨hl,he⟩:=List.getElem?_eq_some_iff.1 h
 unfold strK
 have h1:(strL (l.take k) i).length=k:=by simp[strL];omega
 rw[List.set_append_right _ _ (by omega),h1,Nat.sub_self,List.drop_eq_getElem_cons hl,List.set_cons_zero,List.take_succ_eq_append_getElem hl,he]
 simp[strL]
attribute [local irreducible] wpList Calls Code.wp stV EnS.live EnS.slot WoS.cmpD WoS.mayD mayR rgP padA okI okN pS tS memS getG pG insS delS getV pV tV okVal newSl SlS.put SlS.err SlS.putU SlS.putB descE SlS.take SlS.set SlS.errSet SlS.get SlS.has EnS.ins EnS.set EnS.rem EnS.get WoS.ins WoS.rem WoS.get WoS.set strK strL ofN delA
set_option maxHeartbeats 2000000 in
theorem dw_create {w0 w:World} {L:List As} {M:Nat} {s:WoS} (hs:St w0 (DwB M s::L) w) {v:Hdl} {x:Int} {s':WoS} (HV:Hid (s.create=(v,x,s'))):
  Calls Tryz.prog 20 #[.pointer (some ⟨M,0,none⟩)] w fun r w'=>r= .returned (.tuple #[hv v, .int .i64 x])∧St w0 (DwB M s'::L) w':=by
 obtain⟨K,A,n,c,R,h0,h4,hp,hs,hback⟩:=hs.dwal
 by_cases hh:s.held=true
 ·have h1:=HV.out
  unfold WoS.create at h1
  rw[WoS.free_held hh,if_neg (by decide)] at h1
  cases h1
  have HB:=Lib.hid (hback c s.e.cs)
  have HP:=Lib.hid hp
  rw[hh] at h4
  have H4:=Lib.hid h4
  have k4:=Rd.blk h4 _ hs
  clear HV hback hp h4 hh h0
  go_enter Tryz.func20,Tryz.ntmps20
  (go_wp2_with (first
   | (refine wpl_alloc zeroH hs ?_;clear hs k4;intro g2 w hs;replace hs:St w0 (blk g2 (h2 (0,0)).toArray 40::_) w:=hs;have k4:=Rd.blk H4.out _ hs.drop)
   | (refine wpl_buildS (parts:=[]) build_h0 rfl ?_)
   | (refine wpl_store_agg (v:=hv (0,0)) rfl rfl (sizeHd _) hs WrA.slotH ?_;clear hs;intro w hs)))
  refine bodyPost_at (results_cell_tmp Tryz.results20 rfl (hs.slot_run aggH (sizeHd _))) rfl ?_
  exact⟨rfl,HB.out _ _ HP.out hs.drop⟩
 ·replace hh:s.held=false:=by simpa using hh
  have h1:=HV.out
  unfold WoS.create WoS.give at h1
  rw[WoS.free_free hh,if_pos rfl] at h1
  obtain⟨⟨v1,x1,d⟩,HG⟩:∃ z,Hid (giveV 1 s.e.cs=z):=⟨_,rfl⟩
  rw[HG.out] at h1
  cases h1
  have HG2:Hid (giveV 1 (padA n c)=(v,x,d)):=by rw[Hid,hp];exact HG.out
  have HB:=Lib.hid hback
  rw[hh] at h4
  have H0:=Lib.hid h0
  have H4:=Lib.hid h4
  have k4:=Rd.blk h4 _ hs
  clear HV hback hp h4 hh h0
  go_enter Tryz.func20,Tryz.ntmps20
  go_upto_region 3 with (first
   | (refine wpl_alloc zeroH hs ?_;clear hs k4;intro g2 w hs;replace hs:St w0 (blk g2 (h2 (0,0)).toArray 40::_) w:=hs;have k4:=Rd.blk H4.out _ hs.drop))
  have k0:=Rd.blk H0.out _ hs.drop
  (go_wp2_with (first
   | (go_at_call 78;refine (create_r hs.up2 HG2).mono ?_;clear hs k0 k4;rintro e w ⟨c2,hp2,rfl,hs⟩;replace hs:=hs.dn2)
   | (refine wpl_store_agg (v:=hv v) rfl rfl (sizeHd _) hs WrA.slotH ?_;clear hs;intro w hs)))
  refine bodyPost_at (results_cell_tmp Tryz.results20 rfl (hs.slot_run aggH (sizeHd _))) rfl ?_
  exact⟨rfl,HB.out _ _ _ _ hp2 hs.drop⟩
set_option maxHeartbeats 4000000 in
theorem dw_parts0 {w0 w:World} {L:List As} {M:Nat} {s:WoS} (hs:St w0 (DwB M s::L) w) {i:Int} {o:List Nat} (ho:Hid (ofN s.e.l i s.e.l.length=o)) (hl9:s.e.l.length≤1000):
  Calls Tryz.prog 95 #[.pointer (some ⟨M,0,none⟩), .int .i64 i] w fun r w'=>∃ B m cap,Hid (o.length=m)∧r= .returned (.slice B m cap)∧St w0 (own B m cap 3 1 (nsV o)::DwB M s::L) w':=by
 obtain⟨n,hn⟩:∃ n,Hid (s.e.l.length=n):=⟨_,rfl⟩
 rw[hn.out] at ho hl9
 go_enter Tryz.func95,Tryz.ntmps95
 go_upto_region 3 with (fail)
 go_loopw [5,6] (fun bv cv wr=>∃ (k m cB:Nat) (B:Option Addr),k≤n∧Hid ((ofN s.e.l i k).length=m)∧bv= .slice B m cB∧cv= .int .i64 (k:Nat)∧St w0 (own B m cB 3 1 (nsV (ofN s.e.l i k))::DwB M s::L) wr) (fun _ cv _=>n - (intOf cv).toNat)
 case atStart=>exact⟨0,0,0,none,Nat.zero_le _,by rw[Hid];unfold ofN;rfl,rfl,rfl,by rw[show ofN s.e.l i 0=[] by unfold ofN;rfl];exact hs.own_nil _ _⟩
 case round=>
  clear hs
  obtain⟨k,m,cB,B,hk,hm,rfl,rfl,hs⟩:=hrel
  have hmk:m≤k:=by rw[← hm.out];exact ofN_le _ _ _
  by_cases hlt:k < n
  ·obtain⟨⟨X,t⟩,hx⟩:∃ x,s.e.l[k]? =some x:=⟨_,List.getElem?_eq_getElem (by rw[hn.out];exact hlt)⟩
   obtain⟨u,HU⟩:∃ u,Hid (t.get i=u):=⟨_,rfl⟩
   obtain⟨b,HB⟩:∃ u,Hid (t.has i=u):=⟨_,rfl⟩
   have hha:Hid (hasAt s.e.l i k=b):=by rw[Hid];unfold hasAt;rw[hx];exact HB.out
   have HX:=Lib.hid hx
   obtain⟨K,gB,cP,P,R,hK,_,hP,hs,hback⟩:=St.dwslotL hn.out hx hs.rot
   have HBK:=Lib.hid hback
   have k1:=Rd.blk hK _ hs
   have k2:=Rd.own (size:=1) hP _ hs.drop
   clear hx hback hK hP
   go_upto_region 6 with (first
    | (go_at_call 91;refine (ds_get hs.up2 HU HB).mono ?_;rintro r w ⟨rfl,hg⟩;replace hs:=hs.grew hg;clear hg k1 k2)
    | (refine wpl_alloc zero3 hs ?_;clear hs;intro g8 w hs)
    | (refine wpl_store_agg (v:=val3 u) rfl rfl (size3 _) hs WrA.slot3 ?_;clear hs;intro w hs;replace hs:=hs.drop))
   have h5:=HBK.out _ _ _ hs
   rw[WoS.set_same HX.out] at h5
   replace hs:=h5.rot
   clear h5 HBK
   cases b
   ·have ho2:ofN s.e.l i (k+1)=ofN s.e.l i k:=by rw[ofN_succ,hha.out];rfl
    have hm2:Hid ((ofN s.e.l i (k+1)).length=m):=by rw[Hid,ho2];exact hm.out
    rw[← ho2] at hs
    clear hm ho2
    go_wp2
    go_roundw
    case rel=>exact⟨k+1,m,cB,B,by omega,hm2,by first | rfl | go_num,by first | rfl | go_num,hs⟩
    case measure=>simp[intOf] <;> omega
   ·have ho2:ofN s.e.l i (k+1)=ofN s.e.l i k++[k]:=by rw[ofN_succ,hha.out];rfl
    have hm2:Hid ((ofN s.e.l i (k+1)).length=m+1):=by rw[Hid,ho2,List.length_append,hm.out];rfl
    have hv2:Hid (nsV (ofN s.e.l i (k+1))=nsV (ofN s.e.l i k)++[.int .i64 (k:Nat)]):=by rw[Hid,ho2];unfold nsV;rw[List.map_append];rfl
    clear ho2
    (go_wp2_with (first
     | (refine wpl_build1 (v:= .int .i64 (k:Nat)) elemN (by decide) rfl rfl hs ?_;clear hs;intro G w hs)
     | (refine wpl_append (A:=B) (n:=m) (cap:=cB) (xs:=nsV (ofN s.e.l i k)) (m:=1) (news:=[.int .i64 (k:Nat)]) elemN rfl rfl hs (L':=blk G (Value.int .i64 (k:Nat)).cells 3::DwB M s::L) (EP.ent (by repeat constructor)) RdS.blk rfl (by intro u hu;simp at hu;subst hu;rfl) (by unfold maxLen;omega) (by omega) ?_;clear hs;intro B3 cap3 w hs;replace hs:=hs.rot.drop)))
    rw[← hv2.out] at hs
    go_roundw
    case rel=>exact⟨k+1,m+1,cap3,B3,by omega,hm2,by first | rfl | go_num,by first | rfl | go_num,hs⟩
    case measure=>simp[intOf] <;> omega
  ·obtain rfl:k=n:=by omega
   obtain⟨B2,cB2,k1⟩:=St.dwlen hn.out hs.rot
   go_wp2
   go_ret
   refine⟨B,m,cB,by rw[Hid,← ho.out];exact hm.out,rfl,?_⟩
   rw[ho.out] at hs
   exact hs
set_option maxHeartbeats 4000000 in
theorem dw_parts {w0 w:World} {L:List As} {M:Nat} {s:WoS} (hs:St w0 (DwB M s::L) w) (hl9:s.e.l.length≤1000) {h:Hdl} {o:List Nat} {e:Int} (HV:Hid (s.e.parts h=(o,e))):
  Calls Tryz.prog 34 #[.pointer (some ⟨M,0,none⟩),hv h] w fun r w'=>∃ B m cap,Hid (o.length=m)∧r= .returned (.tuple #[.slice B m cap, .int .i64 e])∧St w0 (own B m cap 3 1 (nsV o)::DwB M s::L) w':=by
 obtain⟨f,HL⟩:∃ z,Hid (s.e.live h=z):=⟨_,rfl⟩
 obtain⟨held,HH⟩:∃ z,Hid (s.held=z):=⟨_,rfl⟩
 obtain⟨i,g⟩:=h
 by_cases h0:f=0
 ·subst h0
  have h1:=HV.out
  rw[EnS.parts_in HL.out] at h1
  injection h1 with h1 h2
  subst h2
  have HO:=Lib.hid h1
  clear HV h1
  go_enter Tryz.func34,Tryz.ntmps34
  go_upto_region 1 with (first
   | (refine wpl_box_v (v:=hv (i,g)) rfl hs ?_;clear hs;intro g5 w hs;replace hs:St w0 (blk g5 (h2 (i,g)).toArray 40::_) w:=hs))
  obtain⟨A,n,c',L',hp,k0,k4,hr⟩:=hs.drop.dwA
  have hf:=hr.raopen.1.fits
  have HMR:=Lib.hid ((mayR_live hf hp (i,g)).trans HL.out)
  have k1:World.cell? _ ⟨g5,0,none⟩=some (.int .i64 i):=Rd.blk (by rfl) _ hs
  have k2:World.cell? _ ⟨g5,1,none⟩=some (.int .i64 g):=Rd.blk (by rfl) _ hs
  rw[HH.out] at k4
  clear hp hf
  refine wp_region_grow (by kernel_rfl) (by kernel_rfl) fun hne=>?_
  have g0:=fun p:GW _=>p.grew.cell k0
  have g1:=fun p:GW _=>p.grew.cell k1
  have g2:=fun p:GW _=>p.grew.cell k2
  repeat (go_big_quiet_step (first
   | (go_at_call 83;exact in_grew (may_v (h:=(i,g)) (hr.grew (GW.grew _)) HMR))))
  refine wpQuiet_nil ?_
  clear hne g0 g1 g2 k0 k1 k2
  intro u hu
  replace k4:=Grew.cell hu k4
  replace hs:=hs.grew hu
  clear hu hr
  have k1:World.cell? _ ⟨g5,0,none⟩=some (.int .i64 i):=Rd.blk (by rfl) _ hs
  (go_wp2_with (first
   | (go_at_call 95;refine (dw_parts0 hs.rot HO hl9).mono ?_;clear hs k1 k4;rintro r w ⟨B,m,cap,hm,rfl,hs⟩;replace hs:=hs.up2.drop)))
  go_ret2
  exact⟨B,m,cap,hm,rfl,hs⟩
 ·have e1:(f==0)=false:=by simpa using h0
  have e2:(f !=0)=true:=by simpa using h0
  have h1:=HV.out
  rw[EnS.parts_no (by rw[HL.out];exact h0),HL.out] at h1
  injection h1 with h1 h2
  subst h1
  subst h2
  clear HV h0
  go_enter Tryz.func34,Tryz.ntmps34
  go_upto_region 1 with (first
   | (refine wpl_box_v (v:=hv (i,g)) rfl hs ?_;clear hs;intro g5 w hs;replace hs:St w0 (blk g5 (h2 (i,g)).toArray 40::_) w:=hs))
  obtain⟨A,n,c',L',hp,k0,k4,hr⟩:=hs.drop.dwA
  have hf:=hr.raopen.1.fits
  have HMR:=Lib.hid ((mayR_live hf hp (i,g)).trans HL.out)
  have k1:World.cell? _ ⟨g5,0,none⟩=some (.int .i64 i):=Rd.blk (by rfl) _ hs
  have k2:World.cell? _ ⟨g5,1,none⟩=some (.int .i64 g):=Rd.blk (by rfl) _ hs
  rw[HH.out] at k4
  clear hp hf
  refine wp_region_grow (by kernel_rfl) (by kernel_rfl) fun hne=>?_
  have g0:=fun p:GW _=>p.grew.cell k0
  have g1:=fun p:GW _=>p.grew.cell k1
  have g2:=fun p:GW _=>p.grew.cell k2
  repeat (go_big_quiet_step (first
   | (go_at_call 83;exact in_grew (may_v (h:=(i,g)) (hr.grew (GW.grew _)) HMR))))
  refine wpQuiet_nil ?_
  clear hne g0 g1 g2 k0 k1 k2
  intro u hu
  replace k4:=Grew.cell hu k4
  replace hs:=hs.grew hu
  clear hu hr
  go_wp2
  go_ret2
  exact⟨none,0,0,rfl,rfl,hs.drop.own_nil 3 1⟩
def WoS.strK (s:WoS) (i:Int) (k:Nat):WoS:={ s with e:=⟨s.e.top,s.e.cs,YtiafdlofcjbllaaGreatDoor.strK s.e.l i k⟩ }
set_option maxHeartbeats 8000000 in
theorem dw_del {w0 w:World} {L:List As} {M:Nat} {s:WoS} (hs:St w0 (DwB M s::L) w) (hev:∀ x∈s.e.l,x.2.evs.length≤4000000000) (hl9:s.e.l.length≤1000) {h:Hdl} {nn e:Int} {s':WoS} (HV:Hid (s.del h=(nn,e,s'))):
  Calls Tryz.prog 24 #[.pointer (some ⟨M,0,none⟩),hv h] w fun r w'=>r= .returned (.tuple #[.int .i64 nn, .int .i64 e])∧St w0 (DwB M s'::L) w':=by
 obtain⟨f,HL⟩:∃ z,Hid (s.e.live h=z):=⟨_,rfl⟩
 obtain⟨held,HH⟩:∃ z,Hid (s.held=z):=⟨_,rfl⟩
 by_cases h4:f=4
 ·subst h4
  have h1:=HV.out
  unfold WoS.del at h1
  rw[WoS.may_live4 HL.out,if_neg (by decide)] at h1
  cases h1
  clear HV hev
  obtain⟨i,g⟩:=h
  go_enter Tryz.func24,Tryz.ntmps24
  go_upto_region 1 with (first
   | (refine wpl_box_v (v:=hv (i,g)) rfl hs ?_;clear hs;intro g5 w hs;replace hs:St w0 (blk g5 (h2 (i,g)).toArray 40::_) w:=hs))
  obtain⟨A,n,c',L',hp,k0,k4,hr⟩:=hs.drop.dwA
  have hf:=hr.raopen.1.fits
  have HMR:=Lib.hid ((mayR_live hf hp (i,g)).trans HL.out)
  have k1:World.cell? _ ⟨g5,0,none⟩=some (.int .i64 i):=Rd.blk (by rfl) _ hs
  have k2:World.cell? _ ⟨g5,1,none⟩=some (.int .i64 g):=Rd.blk (by rfl) _ hs
  rw[HH.out] at k4
  clear hp hf
  refine wp_region_grow (by kernel_rfl) (by kernel_rfl) fun hne=>?_
  have g0:=fun p:GW _=>p.grew.cell k0
  have g1:=fun p:GW _=>p.grew.cell k1
  have g2:=fun p:GW _=>p.grew.cell k2
  repeat (go_big_quiet_step (first
   | (go_at_call 83;exact in_grew (may_v (h:=(i,g)) (hr.grew (GW.grew _)) HMR))))
  refine wpQuiet_nil ?_
  clear hne g0 g1 g2 k0 k1 k2
  intro u hu
  replace k4:=Grew.cell hu k4
  replace hs:=hs.grew hu
  clear hu hr
  go_wp2
  go_ret2
  exact⟨rfl,hs.drop⟩
 ·have e4:(f==4)=false:=by simpa using h4
  have hm4:s.may h=s.free:=WoS.may_not4 (by rw[HL.out];exact h4)
  cases held with
  | true=>
   have h1:=HV.out
   unfold WoS.del at h1
   rw[hm4,WoS.free_held HH.out,if_neg (by decide)] at h1
   cases h1
   clear HV hev hm4 h4
   obtain⟨i,g⟩:=h
   go_enter Tryz.func24,Tryz.ntmps24
   go_upto_region 1 with (first
    | (refine wpl_box_v (v:=hv (i,g)) rfl hs ?_;clear hs;intro g5 w hs;replace hs:St w0 (blk g5 (h2 (i,g)).toArray 40::_) w:=hs))
   obtain⟨A,n,c',L',hp,k0,k4,hr⟩:=hs.drop.dwA
   have hf:=hr.raopen.1.fits
   have HMR:=Lib.hid ((mayR_live hf hp (i,g)).trans HL.out)
   have k1:World.cell? _ ⟨g5,0,none⟩=some (.int .i64 i):=Rd.blk (by rfl) _ hs
   have k2:World.cell? _ ⟨g5,1,none⟩=some (.int .i64 g):=Rd.blk (by rfl) _ hs
   rw[HH.out] at k4
   clear hp hf
   refine wp_region_grow (by kernel_rfl) (by kernel_rfl) fun hne=>?_
   have g0:=fun p:GW _=>p.grew.cell k0
   have g1:=fun p:GW _=>p.grew.cell k1
   have g2:=fun p:GW _=>p.grew.cell k2
   repeat (go_big_quiet_step (first
    | (go_at_call 83;exact in_grew (may_v (h:=(i,g)) (hr.grew (GW.grew _)) HMR))))
   refine wpQuiet_nil ?_
   clear hne g0 g1 g2 k0 k1 k2
   intro u hu
   replace k4:=Grew.cell hu k4
   replace hs:=hs.grew hu
   clear hu hr
   go_wp2
   go_ret2
   exact⟨rfl,hs.drop⟩
  | false=>
   have h1:=HV.out
   unfold WoS.del at h1
   rw[hm4,WoS.free_free HH.out,if_pos rfl] at h1
   by_cases h0:f=0
   ·subst h0
    rw[EnS.del_in HL.out] at h1
    obtain⟨⟨x0,cs2⟩,HD⟩:∃ z,Hid (delA s.e.top s.e.cs h=z):=⟨_,rfl⟩
    have hx0:x0=0:=by have:=delA_ok (top:=s.e.top) (EnS.live_zero.1 HL.out);rw[HD.out] at this;exact this
    subst hx0
    obtain⟨i,g⟩:=h
    rw[HD.out] at h1
    simp only at h1
    obtain⟨m,hm⟩:∃ z,Hid (s.e.l.length=z):=⟨_,rfl⟩
    rw[hm.out] at h1 hl9
    obtain⟨q,HQ⟩:∃ z,Hid ((ofN s.e.l i m).length=z):=⟨_,rfl⟩
    rw[HQ.out] at h1
    have HSL:Hid (YtiafdlofcjbllaaGreatDoor.strK s.e.l i m=strL s.e.l i):=by rw[← hm.out];exact strK_all _ _
    rw[← HSL.out] at h1
    obtain⟨rfl,rfl,rfl⟩:((q:Nat):Int)=nn∧(0:Int)=e∧({ s with e:=⟨s.e.top,cs2,YtiafdlofcjbllaaGreatDoor.strK s.e.l i m⟩ }:WoS)=s':=by
     simp only[Prod.mk.injEq] at h1;exact h1
    have HEVS:=Lib.hid hev
    have HS0:Hid (s.strK i 0=s):=by rw[Hid];unfold WoS.strK;rw[strK_zero]
    clear HV h1 hev hm4 h4 HSL
    go_enter Tryz.func24,Tryz.ntmps24
    go_upto_region 1 with (first
     | (refine wpl_box_v (v:=hv (i,g)) rfl hs ?_;clear hs;intro g5 w hs;replace hs:St w0 (blk g5 (h2 (i,g)).toArray 40::_) w:=hs))
    obtain⟨A,n,c',L',hp,k0,k4,hr⟩:=hs.drop.dwA
    have hf:=hr.raopen.1.fits
    have HMR:=Lib.hid ((mayR_live hf hp (i,g)).trans HL.out)
    have k1:World.cell? _ ⟨g5,0,none⟩=some (.int .i64 i):=Rd.blk (by rfl) _ hs
    have k2:World.cell? _ ⟨g5,1,none⟩=some (.int .i64 g):=Rd.blk (by rfl) _ hs
    rw[HH.out] at k4
    clear hp hf
    refine wp_region_grow (by kernel_rfl) (by kernel_rfl) fun hne=>?_
    have g0:=fun p:GW _=>p.grew.cell k0
    have g1:=fun p:GW _=>p.grew.cell k1
    have g2:=fun p:GW _=>p.grew.cell k2
    repeat (go_big_quiet_step (first
     | (go_at_call 83;exact in_grew (may_v (h:=(i,g)) (hr.grew (GW.grew _)) HMR))))
    refine wpQuiet_nil ?_
    clear hne g0 g1 g2 k0 k1 k2
    intro u hu
    replace k4:=Grew.cell hu k4
    replace hs:=hs.grew hu
    clear hu hr
    go_upto_region 10 with (fail)
    clear k4
    replace hs:St w0 (blk g5 (h2 (i,g)).toArray 40::DwB M (s.strK i 0)::L) u:=by rw[HS0.out];exact hs
    go_loopw [7,8] (fun nv cv wr=>∃ (k p:Nat),k≤m∧p≤k∧Hid ((ofN s.e.l i k).length=p)∧nv= .int .i64 (p:Nat)∧cv= .int .i64 (k:Nat)∧St w0 (blk g5 (h2 (i,g)).toArray 40::DwB M (s.strK i k)::L) wr) (fun _ cv _=>m - (intOf cv).toNat)
    case atStart=>exact⟨0,0,Nat.zero_le _,Nat.le_refl _,by rw[Hid];unfold ofN;rfl,rfl,rfl,hs⟩
    case round=>
     clear hs HS0
     obtain⟨k,p,hk,hpk,hp,rfl,rfl,hs⟩:=hrel
     by_cases hlt:k < m
     ·obtain⟨⟨X,t⟩,hx⟩:∃ x,s.e.l[k]? =some x:=⟨_,List.getElem?_eq_getElem (by rw[hm.out];exact hlt)⟩
      have HEV:Hid (t.evs.length≤4000000000):=HEVS.out _ (List.mem_of_getElem? hx)
      obtain⟨t',HT'⟩:∃ z,Hid (t.take i=z):=⟨_,rfl⟩
      obtain⟨u2,HU⟩:∃ u,Hid (t.get i=u):=⟨_,rfl⟩
      obtain⟨b2,HB⟩:∃ u,Hid (t.has i=u):=⟨_,rfl⟩
      have hha:Hid (hasAt s.e.l i k=b2):=by rw[Hid];unfold hasAt;rw[hx];exact HB.out
      have hml:(s.strK i k).e.l.length=m:=by show (YtiafdlofcjbllaaGreatDoor.strK _ _ _).length=m;rw[strK_len,hm.out]
      obtain⟨K,gB,cB,P,R,hK,_,hP,hs,hback⟩:=St.dwslotL hml (show (s.strK i k).e.l[k]? =some (X,t) from strK_get hx) hs.rot
      have HBK:Hid (∀ (w':World) (L':List As),St w0 (blk M K 59::own (some ⟨gB,0,none⟩) m cB 146 1 P::DsB X t'::R::L') w'→St w0 (DwB M (s.strK i (k+1))::L') w'):=fun w' L' h=>by
       have h5:=hback _ _ _ h
       have e5:(YtiafdlofcjbllaaGreatDoor.strK s.e.l i k).set k (X,t')=YtiafdlofcjbllaaGreatDoor.strK s.e.l i (k+1):=by rw[← HT'.out];exact strK_set hx
       have h6:St w0 (DwB M { s with e:=⟨s.e.top,s.e.cs,(YtiafdlofcjbllaaGreatDoor.strK s.e.l i k).set k (X,t')⟩ }::L') w':=h5
       rw[e5] at h6
       exact h6
      have H1:=Lib.hid hK
      replace hs:St w0 (blk M K 59::own (some ⟨gB,0,none⟩) m cB 146 1 P::blk g5 (h2 (i,g)).toArray 40::DsB X t::R::L) _:=hs.pm
      have k1:=Rd.blk hK _ hs
      clear hback hx hml
      go_upto_region 12 with (fail)
      clear k1
      go_cut [9,10] from 39 to 51 (fun pv bv wx=>∃ g9,pv= .pointer (some ⟨g9,0,none⟩)∧bv= .bool b2∧St w0 (blk M K 59::own (some ⟨gB,0,none⟩) m cB 146 1 P::blk g5 (h2 (i,g)).toArray 40::DsB X t'::R::L) wx)
      case first=>
       refine wp_mix 3 [0,1,2,3,4,5,6,7,8] [9,10,11,12,13,14,15] hs.only3 (by kernel_rfl) (by kernel_rfl) fun hne=>?_
       have r0:=(Rd.blk (w0:=w0) (g:=M) (k:=1) (cs:=K) (t:=59) (L:=[own (some ⟨gB,0,none⟩) m cB 146 1 P,blk g5 (h2 (i,g)).toArray 40]) hK).alln
       have r1:=((Rd.own (w0:=w0) (g:=gB) (n:=m) (cap:=cB) (e:=146) (size:=1) (L:=[blk g5 (h2 (i,g)).toArray 40]) hP).tail (p:=blk M K 59)).alln
       have r2:=(show Rd w0 [blk M K 59,own (some ⟨gB,0,none⟩) m cB 146 1 P,blk g5 (h2 (i,g)).toArray 40] ⟨g5,0,none⟩ (.int .i64 i) from ((Rd.blk rfl).tail).tail).alln
       simp only[opsAt,List.getElem?_toArray,List.getElem?_cons_succ,List.getElem?_cons_zero]
       repeat (go_big_quiet_step (fail))
       refine wpQuiet_nil ?_
       clear hne r0 r1 r2
       replace hs:=hs.drew
       refine wpMix_next [9,13] (by kernel_rfl) (by simp) (fun c hc=>?_)
       simp only[List.mem_cons,List.not_mem_nil,or_false] at hc
       rcases hc with rfl | rfl
       ·skip
        refine⟨_,rfl,?_⟩
        go_wp2_with (first
         | (go_at_call 84;refine (ds_take hs.up3 HEV.out HU HB HT').mono ?_;clear hs;rintro r w ⟨rfl,hs⟩;replace hs:=hs.dn3))
        replace hs:St w0 (blk M K 59::own (some ⟨gB,0,none⟩) m cB 146 1 P::blk g5 (h2 (i,g)).toArray 40::DsB X t'::R::L) w:=hs.pm
        refine mix_quiet [10,11,12] [13,14,15] hs.only3 (by kernel_rfl) (by kernel_rfl) fun hne=>?_
        simp only[opsAt,List.getElem?_toArray,List.getElem?_cons_succ,List.getElem?_cons_zero]
        repeat (go_big_quiet_step (fail))
        refine wpQuiet_nil ?_
        clear hne
        refine wpMix_next [13] (by kernel_rfl) (by simp) (fun c hc=>?_)
        simp only[List.mem_singleton] at hc
        subst hc
        refine⟨_,rfl,?_⟩
        refine wpl_alloc zero3 hs ?_
        clear hs
        intro g9 w hs
        replace hs:St w0 (blk g9 (YtiafdlofcjbllaaGreatDoor.c3 V3.z).toArray 38::_) w:=hs
        replace hs:St w0 (blk M K 59::own (some ⟨gB,0,none⟩) m cB 146 1 P::blk g5 (h2 (i,g)).toArray 40::DsB X t'::R::blk g9 (YtiafdlofcjbllaaGreatDoor.c3 V3.z).toArray 38::L) w:=hs.pm
        refine wpList_nil ⟨rfl,?_⟩
        refine mix_quiet [] [14,15] hs.only3 (by kernel_rfl) (by kernel_rfl) fun hne=>?_
        simp only[opsAt]
        refine wpQuiet_nil ?_
        clear hne
        refine wpMix_next [14] (by kernel_rfl) (by simp) (fun c hc=>?_)
        simp only[List.mem_singleton] at hc
        subst hc
        refine⟨_,rfl,?_⟩
        refine wpl_store_agg (v:=val3 u2) rfl rfl (size3 _) (hs.pm (M:=blk g9 (YtiafdlofcjbllaaGreatDoor.c3 V3.z).toArray 38::blk M K 59::own (some ⟨gB,0,none⟩) m cB 146 1 P::blk g5 (h2 (i,g)).toArray 40::DsB X t'::R::L)) WrA.slot3 ?_
        clear hs
        intro w hs
        replace hs:St w0 (blk M K 59::own (some ⟨gB,0,none⟩) m cB 146 1 P::blk g5 (h2 (i,g)).toArray 40::DsB X t'::R::blk g9 (YtiafdlofcjbllaaGreatDoor.c3 u2).toArray 38::L) w:=hs.pm
        refine wpList_nil ⟨rfl,?_⟩
        refine mix_quiet [15] [] hs.only3 (by kernel_rfl) (by kernel_rfl) fun hne=>?_
        simp only[opsAt,List.getElem?_toArray,List.getElem?_cons_succ,List.getElem?_cons_zero]
        try simp only[Act.put,List.setIfInBounds_toArray,List.set_cons_succ,List.set_cons_zero]
        repeat (go_big_quiet_step (fail))
        refine wpQuiet_nil ?_
        clear hne
        refine wpMix_end ?_
        go_wp2
        go_meet
        exact⟨_,rfl,rfl,(hs.pm (M:=blk g9 (YtiafdlofcjbllaaGreatDoor.c3 u2).toArray 38::blk M K 59::own (some ⟨gB,0,none⟩) m cB 146 1 P::blk g5 (h2 (i,g)).toArray 40::DsB X t'::R::L)).drop⟩
       ·skip
        refine⟨_,rfl,?_⟩
        refine wpl_alloc zero3 hs ?_
        clear hs
        intro g9 w hs
        replace hs:St w0 (blk g9 (YtiafdlofcjbllaaGreatDoor.c3 V3.z).toArray 38::_) w:=hs
        replace hs:St w0 (blk M K 59::own (some ⟨gB,0,none⟩) m cB 146 1 P::blk g5 (h2 (i,g)).toArray 40::DsB X t::R::blk g9 (YtiafdlofcjbllaaGreatDoor.c3 V3.z).toArray 38::L) w:=hs.pm
        refine wpList_nil ⟨rfl,?_⟩
        refine mix_quiet [] [9,10,11,12,14,15] hs.only3 (by kernel_rfl) (by kernel_rfl) fun hne=>?_
        simp only[opsAt]
        refine wpQuiet_nil ?_
        clear hne
        refine wpMix_next [9] (by kernel_rfl) (by simp) (fun c hc=>?_)
        simp only[List.mem_singleton] at hc
        subst hc
        refine⟨_,rfl,?_⟩
        go_wp2_with (first
         | (go_at_call 84;refine (ds_take hs.up3 HEV.out HU HB HT').mono ?_;clear hs;rintro r w ⟨rfl,hs⟩;replace hs:=hs.dn3))
        replace hs:St w0 (blk M K 59::own (some ⟨gB,0,none⟩) m cB 146 1 P::blk g5 (h2 (i,g)).toArray 40::DsB X t'::R::blk g9 (YtiafdlofcjbllaaGreatDoor.c3 V3.z).toArray 38::L) w:=hs.pm
        refine mix_quiet [10,11,12] [14,15] hs.only3 (by kernel_rfl) (by kernel_rfl) fun hne=>?_
        simp only[opsAt,List.getElem?_toArray,List.getElem?_cons_succ,List.getElem?_cons_zero]
        repeat (go_big_quiet_step (fail))
        refine wpQuiet_nil ?_
        clear hne
        refine wpMix_next [14] (by kernel_rfl) (by simp) (fun c hc=>?_)
        simp only[List.mem_singleton] at hc
        subst hc
        refine⟨_,rfl,?_⟩
        refine wpl_store_agg (v:=val3 u2) rfl rfl (size3 _) (hs.pm (M:=blk g9 (YtiafdlofcjbllaaGreatDoor.c3 V3.z).toArray 38::blk M K 59::own (some ⟨gB,0,none⟩) m cB 146 1 P::blk g5 (h2 (i,g)).toArray 40::DsB X t'::R::L)) WrA.slot3 ?_
        clear hs
        intro w hs
        replace hs:St w0 (blk M K 59::own (some ⟨gB,0,none⟩) m cB 146 1 P::blk g5 (h2 (i,g)).toArray 40::DsB X t'::R::blk g9 (YtiafdlofcjbllaaGreatDoor.c3 u2).toArray 38::L) w:=hs.pm
        refine wpList_nil ⟨rfl,?_⟩
        refine mix_quiet [15] [] hs.only3 (by kernel_rfl) (by kernel_rfl) fun hne=>?_
        simp only[opsAt,List.getElem?_toArray,List.getElem?_cons_succ,List.getElem?_cons_zero]
        try simp only[Act.put,List.setIfInBounds_toArray,List.set_cons_succ,List.set_cons_zero]
        repeat (go_big_quiet_step (fail))
        refine wpQuiet_nil ?_
        clear hne
        refine wpMix_end ?_
        go_wp2
        go_meet
        exact⟨_,rfl,rfl,(hs.pm (M:=blk g9 (YtiafdlofcjbllaaGreatDoor.c3 u2).toArray 38::blk M K 59::own (some ⟨gB,0,none⟩) m cB 146 1 P::blk g5 (h2 (i,g)).toArray 40::DsB X t'::R::L)).drop⟩
      case rest=>
      clear hs hK hP
      obtain⟨g9,rfl,rfl,hs⟩:=hcut
      replace hs:St w0 (blk g5 (h2 (i,g)).toArray 40::DwB M (s.strK i (k+1))::L) _:=(HBK.out _ _ (hs.pm (M:=blk M K 59::own (some ⟨gB,0,none⟩) m cB 146 1 P::DsB X t'::R::blk g5 (h2 (i,g)).toArray 40::L))).rot
      clear HBK H1
      cases b2
      ·have hp2:Hid ((ofN s.e.l i (k+1)).length=p):=by rw[Hid,ofN_succ,hha.out];exact hp.out
       clear hp
       go_wp2
       go_roundw
       case rel=>exact⟨k+1,p,by omega,by omega,hp2,by first | rfl | go_num,by first | rfl | go_num,hs⟩
       case measure=>simp[intOf] <;> omega
      ·have hp2:Hid ((ofN s.e.l i (k+1)).length=p+1):=by rw[Hid,ofN_succ,hha.out];simp[hp.out]
       clear hp
       go_wp2
       go_roundw
       case rel=>exact⟨k+1,p+1,by omega,by omega,hp2,by first | rfl | go_num,by first | rfl | go_num,hs⟩
       case measure=>simp[intOf] <;> omega
     ·obtain rfl:k=m:=by omega
      obtain rfl:q=p:=by rw[← HQ.out];exact hp.out
      obtain⟨B2,cB2,k1⟩:=St.dwlen (show (s.strK i k).e.l.length=k by show (YtiafdlofcjbllaaGreatDoor.strK _ _ _).length=k;rw[strK_len,hm.out]) hs.rot
      go_upto_region 15 with (fail)
      clear k1 hp HEVS
      obtain⟨K,A,n,c',R,h0,_,hp,hs,hback⟩:=hs.rot.dwal
      have hf:c'.length≤n:=hs.rot.raopen.1.fits
      have HD3:=HD.out
      rw[show s.e.cs=padA n c' from hp.symm,del_pad hf] at HD3
      obtain⟨⟨y0,c2⟩,HD4⟩:∃ z,Hid (delA s.e.top c' (i,g)=z):=⟨_,rfl⟩
      rw[HD4.out] at HD3
      obtain⟨rfl,hp2⟩:y0=0∧padA n c2=cs2:=by simpa using HD3
      have HD2:Hid (delA s.e.top c' (i,g)=(0,c2)):=HD4.out
      have HP2:=Lib.hid hp2
      have H0:=Lib.hid h0
      have HBK:Hid (∀ (c' cs':List ACell) (w':World) (L':List As),padA n c'=cs'→St w0 (blk M K 59::RaB A n s.e.top c'::R::L') w'→St w0 (DwB M { s with e:=⟨s.e.top,cs',YtiafdlofcjbllaaGreatDoor.strK s.e.l i k⟩ }::L') w'):=hback
      replace hs:St w0 (blk M K 59::blk g5 (h2 (i,g)).toArray 40::RaB A n s.e.top c'::R::L) _:=(show St w0 (blk M K 59::RaB A n s.e.top c'::R::blk g5 (h2 (i,g)).toArray 40::L) _ from hs).pm
      clear hback hp hp2 HD3 HD4 HD h0 hf
      refine wp_mix 1 [0,1,2,3,4,5] [6,7,8] hs.only2 (by kernel_rfl) (by kernel_rfl) fun hne=>?_
      have r0:=(Rd.blk (w0:=w0) (g:=M) (k:=0) (cs:=K) (t:=59) (L:=[blk g5 (h2 (i,g)).toArray 40]) H0.out).alln
      have r1:=(show Rd w0 [blk M K 59,blk g5 (h2 (i,g)).toArray 40] ⟨g5,0,none⟩ (.int .i64 i) from (Rd.blk rfl).tail).alln
      have r2:=(show Rd w0 [blk M K 59,blk g5 (h2 (i,g)).toArray 40] ⟨g5,1,none⟩ (.int .i64 g) from (Rd.blk rfl).tail).alln
      simp only[opsAt,List.getElem?_toArray,List.getElem?_cons_succ,List.getElem?_cons_zero]
      repeat (go_big_quiet_step (fail))
      refine wpQuiet_nil ?_
      clear hne r0 r1 r2
      replace hs:=hs.drew
      refine wpMix_next [6] (by kernel_rfl) (by simp) (fun c hc=>?_)
      simp only[List.mem_singleton] at hc
      subst hc
      refine⟨_,rfl,?_⟩
      go_wp2_with (first
       | (go_at_call 85;refine (delete_r (h:=(i,g)) hs.up2 HD2).mono ?_;clear hs;rintro r w ⟨rfl,hs⟩;replace hs:=hs.dn2))
      replace hs:St w0 (blk M K 59::blk g5 (h2 (i,g)).toArray 40::RaB A n s.e.top c2::R::L) w:=hs.pm
      refine mix_quiet [7,8] [] hs.only2 (by kernel_rfl) (by kernel_rfl) fun hne=>?_
      simp only[opsAt,List.getElem?_toArray,List.getElem?_cons_succ,List.getElem?_cons_zero]
      repeat (go_big_quiet_step (fail))
      refine wpQuiet_nil ?_
      clear hne
      refine wpMix_end ?_
      go_wp2
      go_ret2
      exact⟨rfl,HBK.out _ _ _ _ HP2.out (hs.pm (M:=blk g5 (h2 (i,g)).toArray 40::blk M K 59::RaB A n s.e.top c2::R::L)).drop⟩
   ·have e0:(f==0)=false:=by simpa using h0
    have e0':(f !=0)=true:=by simpa using h0
    rw[EnS.del_no (by rw[HL.out];exact h0),HL.out] at h1
    obtain⟨rfl,rfl,rfl⟩:(0:Int)=nn∧f=e∧s=s':=by
     simp only[Prod.mk.injEq] at h1;exact h1
    clear HV h1 hev hm4 h4 h0
    obtain⟨i,g⟩:=h
    go_enter Tryz.func24,Tryz.ntmps24
    go_upto_region 1 with (first
     | (refine wpl_box_v (v:=hv (i,g)) rfl hs ?_;clear hs;intro g5 w hs;replace hs:St w0 (blk g5 (h2 (i,g)).toArray 40::_) w:=hs))
    obtain⟨A,n,c',L',hp,k0,k4,hr⟩:=hs.drop.dwA
    have hf:=hr.raopen.1.fits
    have HMR:=Lib.hid ((mayR_live hf hp (i,g)).trans HL.out)
    have k1:World.cell? _ ⟨g5,0,none⟩=some (.int .i64 i):=Rd.blk (by rfl) _ hs
    have k2:World.cell? _ ⟨g5,1,none⟩=some (.int .i64 g):=Rd.blk (by rfl) _ hs
    rw[HH.out] at k4
    clear hp hf
    refine wp_region_grow (by kernel_rfl) (by kernel_rfl) fun hne=>?_
    have g0:=fun p:GW _=>p.grew.cell k0
    have g1:=fun p:GW _=>p.grew.cell k1
    have g2:=fun p:GW _=>p.grew.cell k2
    repeat (go_big_quiet_step (first
     | (go_at_call 83;exact in_grew (may_v (h:=(i,g)) (hr.grew (GW.grew _)) HMR))))
    refine wpQuiet_nil ?_
    clear hne g0 g1 g2 k0 k1 k2
    intro u hu
    replace k4:=Grew.cell hu k4
    replace hs:=hs.grew hu
    clear hu hr
    go_wp2
    go_ret2
    exact⟨rfl,hs.drop⟩
end
end Go.Proofs.YtiafdlofcjbllaaGreatDoor
