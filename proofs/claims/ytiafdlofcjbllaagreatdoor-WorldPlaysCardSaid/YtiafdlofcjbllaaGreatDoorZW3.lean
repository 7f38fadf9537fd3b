/-
  A world in memory (world.World): knows, the functions that Defer hands over. (Printed by gen_wo8.py.)
-/
import Derived.Test.YtiafdlofcjbllaaGreatDoorZW2
import Derived.Test.YtiafdlofcjbllaaGreatDoorZL
import Derived.Deep.DeepCutAuto
set_option maxRecDepth 100000
namespace Go.Proofs.YtiafdlofcjbllaaGreatDoor
section
open Go Go.RowKit
section
variable {s:WoS} {o:OpW}
theorem WoS.kn_del (h1:o.k=1):s.kn o=(true,true):=by unfold WoS.kn;rw[if_pos h1]
theorem WoS.kn_none (h1:o.k ≠ 1) (hc:s.e.slot o.c=none):s.kn o=(false,true):=by unfold WoS.kn;rw[if_neg h1,hc]
theorem WoS.kn_rem {x:Cmp} (h1:o.k=3) (hc:s.e.slot o.c=some x):s.kn o=(true,true):=by unfold WoS.kn;rw[if_neg (by omega),hc];simp[h1]
theorem WoS.kn_ins {x:Cmp} (h1:o.k ≠ 1) (h3:o.k ≠ 3) (hc:s.e.slot o.c=some x):s.kn o=(true,o.v.k==x.2.d.k):=by unfold WoS.kn;rw[if_neg h1,hc];simp[h3];rfl
end
attribute [local irreducible] wpList Calls Code.wp stV EnS.live EnS.slot okI okN pS tS memS getG pG insS delS getV pV tV okVal newSl SlS.put SlS.err SlS.putU SlS.putB descE SlS.take SlS.set SlS.errSet SlS.get SlS.has WoS.kn
theorem field_desc (a b c:Int) (w:World):(Instr.field 97 (.agg #[.int .i64 a, .int .i64 b, .int .i64 c]) 0).run Tryz.prog w= .ok (.int .i64 a) w:=by kernel_rfl
set_option maxHeartbeats 4000000 in
theorem wo_knows {w0 w:World} {L:List As} {W E A R X Q n:Nat} {s:WoS} (hs:St w0 (WoB W E A R X Q n s::L) w) (o:OpW) {a b:Bool} (HV:Hid (s.kn o=(a,b))):
  Calls Tryz.prog 105 #[.pointer (some ⟨W,0,none⟩),valW o] w fun r w'=>r= .returned (.tuple #[.bool a, .bool b])∧Grew w w':=by
 obtain⟨k,d,c,v⟩:=o
 by_cases h1:k=1
 ·have h2:=HV.out
  rw[WoS.kn_del (show (⟨k,d,c,v⟩:OpW).k=1 from h1)] at h2
  cases h2
  have d1:(k==1)=true:=by simp[h1]
  clear HV h1
  have hw:=St.start w
  go_enter Tryz.func105,Tryz.ntmps105
  go_upto_region 1 with (first
   | (refine wpl_box_v (v:=valW ⟨k,d,c,v⟩) rfl hw ?_;clear hw;intro g1 w1 hw;replace hw:St w [blk g1 (c7w ⟨k,d,c,v⟩).toArray 99] w1:=hw))
  have c0:World.cell? _ ⟨g1,0,none⟩=some (.int .i64 k):=(opW_facts hw).1 _ hw
  go_wp2
  go_ret2
  exact⟨rfl,hw.made_grew⟩
 ·have d1:(k==1)=false:=by simp[h1]
  cases hc:s.e.slot c with
  | none=>
   have h2:=HV.out
   rw[WoS.kn_none (show (⟨k,d,c,v⟩:OpW).k ≠ 1 from h1) hc] at h2
   cases h2
   have hno:=EnS.slot_none hc
   clear HV hc h1
   have hw:=St.start w
   go_enter Tryz.func105,Tryz.ntmps105
   go_upto_region 1 with (first
    | (refine wpl_box_v (v:=valW ⟨k,d,c,v⟩) rfl hw ?_;clear hw;intro g1 w1 hw;replace hw:St w [blk g1 (c7w ⟨k,d,c,v⟩).toArray 99] w1:=hw))
   have c0:World.cell? _ ⟨g1,0,none⟩=some (.int .i64 k):=(opW_facts hw).1 _ hw
   go_upto_region 3 with (fail)
   clear c0
   have hs1:=hs.grew hw.made_grew
   have hs2:=hs1.woopen
   have kW:=Rd.blk (k:=0) (v:= .pointer (some ⟨E,0,none⟩)) (by rfl) _ hs2
   have k1:=Rd.en1 _ hs2.drop
   have c3:World.cell? _ ⟨g1,3,none⟩=some (.int .i64 c):=(opW_facts hw).2.1 _ hw
   have hs3:=hs2.drop.enopen.rot
   refine wp_region_grow (by kernel_rfl) (by kernel_rfl) fun hne=>?_
   have f0:=fun p:GW _=>p.grew.cell kW
   have f1:=fun p:GW _=>p.grew.cell k1
   have f2:=fun p:GW _=>p.grew.cell c3
   repeat (go_big_quiet_step (first
    | (go_at_call 86;exact in_gsame (rg_slot_no (hs3.grew (GW.grew _)) hno))))
   refine wpQuiet_nil ?_
   clear hne f0 f1 f2 kW k1 c3
   intro u hu
   replace hw:=hw.grew hu
   replace hs3:=hs3.grew hu
   clear hu hs1 hs2
   go_wp2
   go_ret2
   exact⟨rfl,hw.made_grew⟩
  | some x=>
   obtain⟨j,rfl,hj⟩:=EnS.slot_some hc
   obtain⟨Y,t⟩:=x
   have HX:=Lib.hid hj
   by_cases h3:k=3
   ·have h2:=HV.out
    rw[WoS.kn_rem (show (⟨k,d,(j:Int),v⟩:OpW).k=3 from h3) hc] at h2
    cases h2
    have d3:(k==3)=true:=by simp[h3]
    clear HV hc h1 h3 hj
    have hw:=St.start w
    go_enter Tryz.func105,Tryz.ntmps105
    go_upto_region 1 with (first
     | (refine wpl_box_v (v:=valW ⟨k,d,(j:Int),v⟩) rfl hw ?_;clear hw;intro g1 w1 hw;replace hw:St w [blk g1 (c7w ⟨k,d,(j:Int),v⟩).toArray 99] w1:=hw))
    have c0:World.cell? _ ⟨g1,0,none⟩=some (.int .i64 k):=(opW_facts hw).1 _ hw
    go_upto_region 3 with (fail)
    clear c0
    have hs1:=hs.grew hw.made_grew
    have hs2:=hs1.woopen
    have kW:=Rd.blk (k:=0) (v:= .pointer (some ⟨E,0,none⟩)) (by rfl) _ hs2
    have k1:=Rd.en1 _ hs2.drop
    have c3:World.cell? _ ⟨g1,3,none⟩=some (.int .i64 (j:Int)):=(opW_facts hw).2.1 _ hw
    have hs3:=hs2.drop.enopen.rot
    refine wp_region_grow (by kernel_rfl) (by kernel_rfl) fun hne=>?_
    have f0:=fun p:GW _=>p.grew.cell kW
    have f1:=fun p:GW _=>p.grew.cell k1
    have f2:=fun p:GW _=>p.grew.cell c3
    repeat (go_big_quiet_step (first
     | (go_at_call 86;exact in_gsame (rg_slot (hs3.grew (GW.grew _)) HX.out (X:=Y) (Lib.hid rfl)))))
    refine wpQuiet_nil ?_
    clear hne f0 f1 f2 kW k1 c3
    intro u hu
    replace hw:=hw.grew hu
    replace hs3:=hs3.grew hu
    clear hu hs1 hs2
    have c0:World.cell? _ ⟨g1,0,none⟩=some (.int .i64 k):=(opW_facts hw).1 _ hw
    go_upto_region 6 with (fail)
    refine wp_region_grow (by kernel_rfl) (by kernel_rfl) fun hne=>?_
    have f0:=fun p:GW _=>p.grew.cell c0
    repeat (go_big_quiet_step (fail))
    refine wpQuiet_nil ?_
    clear hne f0 c0
    intro u hu
    replace hw:=hw.grew hu
    clear hu
    go_wp2
    go_ret2
    exact⟨rfl,hw.made_grew⟩
   ·have h2:=HV.out
    rw[WoS.kn_ins (show (⟨k,d,(j:Int),v⟩:OpW).k ≠ 1 from h1) h3 hc] at h2
    simp only at h2
    obtain⟨z,HZ⟩:∃ z,Hid (t.d=z):=⟨_,rfl⟩
    rw[HZ.out] at h2
    cases h2
    have d3:(k==3)=false:=by simp[h3]
    clear HV hc h1 h3 hj
    have hw:=St.start w
    go_enter Tryz.func105,Tryz.ntmps105
    go_upto_region 1 with (first
     | (refine wpl_box_v (v:=valW ⟨k,d,(j:Int),v⟩) rfl hw ?_;clear hw;intro g1 w1 hw;replace hw:St w [blk g1 (c7w ⟨k,d,(j:Int),v⟩).toArray 99] w1:=hw))
    have c0:World.cell? _ ⟨g1,0,none⟩=some (.int .i64 k):=(opW_facts hw).1 _ hw
    go_upto_region 3 with (fail)
    clear c0
    have hs1:=hs.grew hw.made_grew
    have hs2:=hs1.woopen
    have kW:=Rd.blk (k:=0) (v:= .pointer (some ⟨E,0,none⟩)) (by rfl) _ hs2
    have k1:=Rd.en1 _ hs2.drop
    have c3:World.cell? _ ⟨g1,3,none⟩=some (.int .i64 (j:Int)):=(opW_facts hw).2.1 _ hw
    have hs3:=hs2.drop.enopen.rot
    refine wp_region_grow (by kernel_rfl) (by kernel_rfl) fun hne=>?_
    have f0:=fun p:GW _=>p.grew.cell kW
    have f1:=fun p:GW _=>p.grew.cell k1
    have f2:=fun p:GW _=>p.grew.cell c3
    repeat (go_big_quiet_step (first
     | (go_at_call 86;exact in_gsame (rg_slot (hs3.grew (GW.grew _)) HX.out (X:=Y) (Lib.hid rfl)))))
    refine wpQuiet_nil ?_
    clear hne f0 f1 f2 kW k1 c3
    intro u hu
    replace hw:=hw.grew hu
    replace hs3:=hs3.grew hu
    clear hu hs1 hs2
    have c0:World.cell? _ ⟨g1,0,none⟩=some (.int .i64 k):=(opW_facts hw).1 _ hw
    have fd:=field_desc z.k z.a z.b
    have c4:World.cell? _ ⟨g1,4,none⟩=some (.int .i64 v.k):=(opW_facts hw).2.2 0 _ rfl _ hw
    go_upto_region 6 with (fail)
    refine wp_region_grow (by kernel_rfl) (by kernel_rfl) fun hne=>?_
    have f0:=fun p:GW _=>p.grew.cell c0
    have f1:=fun p:GW _=>p.grew.cell c4
    repeat (go_big_quiet_step (first
     | (go_at_call 146;exact in_grew (v:= .agg #[.int .i64 z.k, .int .i64 z.a, .int .i64 z.b]) (rg_desc (hs3.grew (GW.grew _)) HX HZ))))
    refine wpQuiet_nil ?_
    clear hne f0 f1 c0 c4
    intro u hu
    replace hw:=hw.grew hu
    clear hu
    go_wp2
    go_ret2
    exact⟨rfl,hw.made_grew⟩
set_option maxHeartbeats 4000000 in
theorem stD_c {w0 w:World} {L:List As} {W E A R X Q n g:Nat} {s:WoS} (hs:St w0 (WoB W E A R X Q n s::L) w) (hg:w.cell? ⟨g,0,none⟩=some (.pointer (some ⟨W,0,none⟩))) (o:OpW):
  Calls Tryz.prog 109 #[valW o, .pointer (some ⟨g,0,none⟩)] w fun r w'=>r= .returned (.bool (decide (stV s.e.cs o.h=0)))∧Grew w w':=by
 obtain⟨k,⟨i,d⟩,c,v⟩:=o
 obtain⟨z,HZ⟩:∃ z,Hid (stV s.e.cs (i,d)=z):=⟨_,rfl⟩
 rw[HZ.out]
 have hw:=St.start w
 go_enter Tryz.func109,Tryz.ntmps109
 go_upto_region 1 with (first
  | (refine wpl_box_v (v:=valW ⟨k,(i,d),c,v⟩) rfl hw ?_;clear hw;intro g1 w1 hw;replace hw:St w [blk g1 (c7w ⟨k,(i,d),c,v⟩).toArray 99] w1:=hw))
 have hs2:=(hs.grew hw.made_grew).woopen
 have kg:=hw.made_grew.cell hg
 have kW:=Rd.blk (k:=0) (v:= .pointer (some ⟨E,0,none⟩)) (by rfl) _ hs2
 have k0:=Rd.en0 _ hs2.drop
 have c1:World.cell? _ ⟨g1,1,none⟩=some (.int .i64 i):=Rd.blk (by rfl) _ hw
 have c2:World.cell? _ ⟨g1,2,none⟩=some (.int .i64 d):=Rd.blk (by rfl) _ hw
 have hs3:=hs2.drop.enopen
 clear hg
 refine wp_region_grow (by kernel_rfl) (by kernel_rfl) fun hne=>?_
 have f0:=fun p:GW _=>p.grew.cell kW
 have f1:=fun p:GW _=>p.grew.cell k0
 have f2:=fun p:GW _=>p.grew.cell c1
 have f3:=fun p:GW _=>p.grew.cell c2
 have f4:=fun p:GW _=>p.grew.cell kg
 repeat (go_big_quiet_step (first
  | (go_at_call 41;exact in_grew (state_c (h:=(i,d)) (hs3.grew (GW.grew _)) HZ))))
 refine wpQuiet_nil ?_
 clear hne f0 f1 f2 f3 f4 kW k0 c1 c2 kg
 intro u hu
 replace hw:=hw.grew hu
 clear hu
 go_wp2
 go_ret
 exact⟨rfl,hw.made_grew⟩
theorem indexS_c {w w0:World} {L:List As} {W E A R X Q n g:Nat} {s:WoS} {K:List As} (hent:Ent L (WoB W E A R X Q n s::K)) (hgp:Rd w0 L ⟨g,0,none⟩ (.pointer (some ⟨W,0,none⟩))) {l:List OpW} {D:Option Addr} {cap:Nat} (hl:l.length≤4000000000) (hs:St w0 L w) (hr:RdS w0 L D (l.flatMap c7w)):
  Calls Tryz.prog 147 #[.slice D l.length cap, .func (Fn.func 109) #[] #[.pointer (some ⟨g,0,none⟩)]] w fun r w'=>∃ i:Int,r= .returned (.int .i64 i)∧decide (i ≥ 0)=l.any (fun o=>decide (stV s.e.cs o.h=0))∧Grew w w':=by
 have HB:=Lib.hid (fun w o (q:St w0 L w)=>stD_c (w:=w) (q.ent hent) (hgp _ q) o)
 clear hent hgp
 obtain⟨m,hn⟩:∃ m,Hid (l.length=m):=⟨_,rfl⟩
 rw[hn.out]
 have hl':m≤4000000000:=hn.out ▸ hl
 clear hl
 go_enter Tryz.func147,Tryz.ntmps147
 go_wp2
 go_loopw [8] (fun cv wr=>∃ k:Nat,k≤m∧Hid ((l.take k).any (fun o=>decide (stV s.e.cs o.h=0))=false)∧cv= .int .i64 (k:Nat)∧Grew w wr) (fun cv _=>m - (intOf cv).toNat)
 case atStart=>exact⟨0,by omega,rfl,rfl,Grew.refl _⟩
 case round=>
  obtain⟨k,hk,hf,rfl,hg⟩:=hrel
  by_cases hkn:k < m
  ·obtain⟨o,ho⟩:∃ o,Hid (l[k]? =some o):=⟨l[k]'(by rw[hn.out];exact hkn),List.getElem?_eq_getElem _⟩
   have hs2:=hs.grew hg
   obtain⟨ad,rfl,hsp,_⟩:=hr (k*7) (.int .i64 o.k) (flat_get c7len ho.out 0 _ rfl)
   obtain⟨gb,off,sp⟩:=ad
   obtain rfl:sp=none:=hsp
   have hrd:∀ j u,(c7w o)[j]? =some u→Rd w0 L ⟨gb,off+k*7+j,none⟩ u:=fun j u hu=>by
    obtain⟨ad,hh,_,h⟩:=hr (k*7+j) u (flat_get c7len ho.out j u hu)
    injection hh with hh
    subst hh
    rwa [Nat.add_assoc]
   obtain⟨b,hb⟩:∃ b,Hid ((fun o=>decide (stV s.e.cs o.h=0)) o=b):=⟨_,rfl⟩
   have HC:Hid (∀ w (_:St w0 L w),Calls Tryz.prog 109 #[valW o, .pointer (some ⟨g,0,none⟩)] w fun e w'=>e= .returned (.bool b)∧Grew w w'):=fun w q=>by rw[← hb.out];exact HB.out w o q
   cases b
   ·go_wp2_with (first
     | (refine wpl_load_agg (cs:=c7w o) (b:=gb) (o:=off+k*7) rfl aggW (sizeW o) hs2 hrd ?_)
     | (go_at_call 109;refine (HC.out _ hs2).mono ?_;rintro r w' ⟨rfl,hg2⟩))
    go_roundw
    case rel=>exact⟨k+1,by omega,by rw[Hid,any_take ho.out,hf.out,hb.out];rfl,by simp,hg.trans hg2⟩
    case measure=>simp[intOf];omega
   ·go_wp2_with (first
     | (refine wpl_load_agg (cs:=c7w o) (b:=gb) (o:=off+k*7) rfl aggW (sizeW o) hs2 hrd ?_)
     | (go_at_call 109;refine (HC.out _ hs2).mono ?_;rintro r w' ⟨rfl,hg2⟩))
    go_ret
    exact⟨(k:Nat),rfl,by rw[any_of ho.out hb.out];simp,hg.trans hg2⟩
  ·obtain rfl:k=m:=by omega
   go_wp2
   go_ret
   exact⟨-1,rfl,by rw[← hn.out,List.take_length] at hf;rw[hf.out];rfl,hg⟩
theorem containsS_c {w w0:World} {L:List As} {W E A R X Q n g:Nat} {s:WoS} {K:List As} (hent:Ent L (WoB W E A R X Q n s::K)) (hgp:Rd w0 L ⟨g,0,none⟩ (.pointer (some ⟨W,0,none⟩))) {l:List OpW} {D:Option Addr} {cap:Nat} (hl:l.length≤4000000000) (hs:St w0 L w) (hr:RdS w0 L D (l.flatMap c7w)):
  Calls Tryz.prog 106 #[.slice D l.length cap, .func (Fn.func 109) #[] #[.pointer (some ⟨g,0,none⟩)]] w fun r w'=>r= .returned (.bool (l.any (fun o=>decide (stV s.e.cs o.h=0))))∧Grew w w':=by
 have HB:=Lib.hid (indexS_c (cap:=cap) hent hgp hl hs hr)
 clear hent hgp
 obtain⟨m,hn⟩:∃ m,Hid (l.length=m):=⟨_,rfl⟩
 rw[hn.out] at HB ⊢
 obtain⟨b,hb⟩:∃ b,Hid (l.any (fun o=>decide (stV s.e.cs o.h=0))=b):=⟨_,rfl⟩
 rw[hb.out] at HB ⊢
 clear hl hr
 go_enter Tryz.func106,Tryz.ntmps106
 go_wp2_with (first
  | (go_at_call 147;refine HB.out.mono ?_;rintro r w' ⟨i,rfl,hi,hg⟩))
 go_ret
 exact⟨by rw[← hi];rfl,hg⟩
end
section
open Go Go.RowKit
theorem zeroWo:(Tryz.prog.info? 99).bind (·.zero)=some (valW ⟨0,(0,0),0,V3.z⟩):=by kernel_rfl
theorem sizeWv (o:OpW):(Tryz.prog.info? 99).map (·.size)=some (valW o).cells.size:=by kernel_rfl
theorem c7w_one (o:OpW):∀ u∈c7w o,u.oneCell'=true:=by simp[c7w];exact⟨rfl,rfl,rfl,rfl,rfl,rfl,rfl⟩
theorem WrA.slotW {w0:World} {g:Nat} {u v:OpW} {t:TypeId} {L:List As}:WrA w0 (YtiafdlofcjbllaaGreatDoor.blk g (c7w u).toArray t::L) ⟨g,0,none⟩ (valW v).cells.toList (YtiafdlofcjbllaaGreatDoor.blk g (c7w v).toArray t::L):=by
 have:=WrA.blk (w0:=w0) (g:=g) (o:=0) (cs:=c7w u) (t:=t) (vs:=c7w v) (L:=L) (by simp[c7w]) (c7w_one v)
 rwa [splice_all (by simp[c7w])] at this
theorem all_take {α:Type} {p:α→Bool} {l:List α} {k:Nat} {x:α} (hx:l[k]? =some x):(l.take (k+1)).all p=((l.take k).all p && p x):=by
 rw[List.take_add_one,hx];simp
section
variable {s:WoS} {l:List OpW}
theorem WoS.defer_bad {x:Int} (he:s.defE l=x) (h0:x ≠ 0):s.defer l=(x,s):=by unfold WoS.defer;rw[he,if_neg h0]
theorem WoS.defer_ok (he:s.defE l=0):s.defer l=(0,{ s with q:=s.q++l }):=by unfold WoS.defer;rw[he,if_pos rfl]
theorem WoS.defE_1 (h1:l.any (fun o=>!o.ok)=true):s.defE l=1:=by unfold WoS.defE;rw[if_pos h1]
theorem WoS.defE_4 (h1:l.any (fun o=>!o.ok)=false) (h2:l.any (fun o=>decide (stV s.e.cs o.h=0))=true):s.defE l=4:=by unfold WoS.defE;rw[h1,if_neg Bool.false_ne_true,if_pos h2]
theorem WoS.defE_11 (h1:l.any (fun o=>!o.ok)=false) (h2:l.any (fun o=>decide (stV s.e.cs o.h=0))=false) (h3:l.all (fun o=>(s.kn o).1)=false):s.defE l=11:=by unfold WoS.defE;rw[h1,h2,h3];rfl
theorem WoS.defE_9 (h1:l.any (fun o=>!o.ok)=false) (h2:l.any (fun o=>decide (stV s.e.cs o.h=0))=false) (h3:l.all (fun o=>(s.kn o).1)=true) (h4:l.all (fun o=>(s.kn o).2)=false):s.defE l=9:=by unfold WoS.defE;rw[h1,h2,h3,h4];rfl
theorem WoS.defE_q (h1:l.any (fun o=>!o.ok)=false) (h2:l.any (fun o=>decide (stV s.e.cs o.h=0))=false) (h3:l.all (fun o=>(s.kn o).1)=true) (h4:l.all (fun o=>(s.kn o).2)=true):s.defE l=quE l s.q:=by unfold WoS.defE quE;rw[h1,h2,h3,h4];rfl
end
attribute [local irreducible] wpList Calls Code.wp stV EnS.live EnS.slot WoS.kn WoS.defE WoS.defer quE OpW.ok
set_option maxHeartbeats 8000000 in
theorem wo_defer {w0 w:World} {L:List As} {W E A R X Q n:Nat} {s:WoS} {l:List OpW} {D:Option Addr} {cap:Nat} (hq:s.q.length≤10000) (hl:l.length≤1000000) (hs:St w0 (WoB W E A R X Q n s::L) w) (hr:RdS w0 L D (l.flatMap c7w)) {x:Int} {s':WoS} (HV:Hid (s.defer l=(x,s'))):
  Calls Tryz.prog 53 #[.pointer (some ⟨W,0,none⟩), .slice D l.length cap] w fun r w'=>r= .returned (.int .i64 x)∧St w0 (WoB W E A R X Q n s'::L) w':=by
 obtain⟨m,hm⟩:∃ m,Hid (l.length=m):=⟨_,rfl⟩
 obtain⟨a1,HA⟩:∃ z,Hid (l.any (fun o=>!o.ok)=z):=⟨_,rfl⟩
 obtain⟨a2,HB⟩:∃ z,Hid (l.any (fun o=>decide (stV s.e.cs o.h=0))=z):=⟨_,rfl⟩
 have HL:=Lib.hid hl
 have HQ:=Lib.hid hq
 have HR:=Lib.hid hr
 have hcaps:D=none→m=0:=fun h0=>by
  subst h0
  match l,hm with
  | [],hm=>exact hm.out.symm
  | o::l,_=>obtain⟨ad,h1,_⟩:=hr 0 (.int .i64 o.k) rfl;cases h1
 have hm2:m≤1000000:=hm.out ▸ hl
 rw[hm.out]
 clear hl hq hr
 go_enter Tryz.func53,Tryz.ntmps53
 go_upto_region 3 with (first
  | (refine wpl_box_v (v:= .pointer (some ⟨W,0,none⟩)) rfl hs ?_;clear hs;intro g2 w hs;replace hs:St w0 (blk g2 #[.pointer (some ⟨W,0,none⟩)] 89::WoB W E A R X Q n s::L) w:=hs))
 go_loopw [5,6,13] (fun av bv cv wr=>∃ (k:Nat) (a b:Bool),k≤m∧av= .bool a∧bv= .bool b∧Hid ((l.take k).all (fun o=>(s.kn o).1)=a)∧Hid ((l.take k).all (fun o=>(s.kn o).2)=b)∧cv= .int .i64 (k:Nat)∧St w0 (blk g2 #[.pointer (some ⟨W,0,none⟩)] 89::WoB W E A R X Q n s::L) wr) (fun _ _ cv _=>m - (intOf cv).toNat)
 case atStart=>exact⟨0,true,true,Nat.zero_le _,rfl,rfl,rfl,rfl,rfl,hs⟩
 case round=>
  clear hs
  obtain⟨k,a,b,hk,rfl,rfl,Ha,Hb,rfl,hs⟩:=hrel
  by_cases hlt:k < m
  ·obtain⟨o,ho⟩:∃ o,Hid (l[k]? =some o):=⟨l[k]'(by rw[hm.out];exact hlt),List.getElem?_eq_getElem _⟩
   obtain⟨ad,rfl,hsp,_⟩:=HR.out (k*7) (.int .i64 o.k) (flat_get c7len ho.out 0 _ rfl)
   obtain⟨gb,off,sp⟩:=ad
   obtain rfl:sp=none:=hsp
   have hrd:∀ j u,(c7w o)[j]? =some u→Rd w0 L ⟨gb,off+k*7+j,none⟩ u:=fun j u hu=>by
    obtain⟨ad,hh,_,h⟩:=HR.out (k*7+j) u (flat_get c7len ho.out j u hu)
    injection hh with hh
    subst hh
    rwa [Nat.add_assoc]
   obtain⟨⟨a3,b3⟩,HK⟩:∃ z,Hid (s.kn o=z):=⟨_,rfl⟩
   have Ha2:Hid ((l.take (k+1)).all (fun o=>(s.kn o).1)=(a && a3)):=by rw[Hid,all_take ho.out,Ha.out,HK.out]
   have Hb2:Hid ((l.take (k+1)).all (fun o=>(s.kn o).2)=(b && b3)):=by rw[Hid,all_take ho.out,Hb.out,HK.out]
   go_upto_region 5 with (first
    | (refine wpl_load_agg (cs:=c7w o) (b:=gb) (o:=off+k*7) rfl aggW (sizeW o) hs ?hh ?_;case hh=>exact fun j x hx=>(hrd j x hx).tail.tail)
    | (refine wpl_alloc zeroWo hs ?_;clear hs;intro g8 w hs)
    | (refine wpl_store_agg (v:=valW o) rfl rfl (sizeWv o) hs WrA.slotW ?_;clear hs;intro w hs))
   clear hrd
   have c2:World.cell? _ ⟨g2,0,none⟩=some (.pointer (some ⟨W,0,none⟩)):=Rd.blk (by rfl) _ hs.drop
   go_upto_region 6 with (first
    | (refine wpl_load_agg (cs:=c7w o) (b:=g8) (o:=0) rfl aggW (sizeW o) hs (opW_rd o) ?_)
    | (go_at_call 105;refine (wo_knows hs.up2 o HK).mono ?_;rintro r w' ⟨rfl,hg⟩;replace hs:=hs.grew hg;clear hg c2))
   replace hs:=hs.drop
   cases a <;> cases b <;>
   ·go_wp2
    go_roundw
    case rel=>exact⟨k+1,_,_,by omega,rfl,rfl,Ha2,Hb2,by first | rfl | go_num,hs⟩
    case measure=>simp[intOf];omega
  ·obtain rfl:k=m:=by omega
   rw[← hm.out,List.take_length] at Ha Hb
   have HCA:Hid (∀ w,St w0 (blk g2 #[.pointer (some ⟨W,0,none⟩)] 89::WoB W E A R X Q n s::L) w→Calls Tryz.prog 106 #[.slice D k cap, .func (Fn.func 107) #[] #[]] w fun r w'=>r= .returned (.bool a1)∧Grew w w'):=fun w q=>by
    have h:=containsD_c (cap:=cap) (l:=l) (by have:=HL.out;omega) q HR.out.tail.tail
    rw[hm.out,HA.out] at h;exact h
   have HCS:Hid (∀ w,St w0 (blk g2 #[.pointer (some ⟨W,0,none⟩)] 89::WoB W E A R X Q n s::L) w→Calls Tryz.prog 106 #[.slice D k cap, .func (Fn.func 109) #[] #[.pointer (some ⟨g2,0,none⟩)]] w fun r w'=>r= .returned (.bool a2)∧Grew w w'):=fun w q=>by
    have h:=containsS_c (cap:=cap) (l:=l) (Ent.swap _ _ _) (Rd.blk rfl) (by have:=HL.out;omega) q HR.out.tail.tail
    rw[hm.out,HB.out] at h;exact h
   cases a1
   case true=>
    have h5:=HV.out
    rw[WoS.defer_bad (WoS.defE_1 HA.out) (by decide)] at h5
    cases h5
    go_wp2_with (first
     | (go_at_call 106;refine (HCA.out _ hs).mono ?_;rintro r w' ⟨rfl,hg⟩;replace hs:=hs.grew hg;clear hg)
     | (go_at_call 106;refine (HCS.out _ hs).mono ?_;rintro r w' ⟨rfl,hg⟩;replace hs:=hs.grew hg;clear hg))
    go_ret
    exact⟨rfl,hs.drop⟩
   case false=>
   cases a2
   case true=>
    have h5:=HV.out
    rw[WoS.defer_bad (WoS.defE_4 HA.out HB.out) (by decide)] at h5
    cases h5
    go_wp2_with (first
     | (go_at_call 106;refine (HCA.out _ hs).mono ?_;rintro r w' ⟨rfl,hg⟩;replace hs:=hs.grew hg;clear hg)
     | (go_at_call 106;refine (HCS.out _ hs).mono ?_;rintro r w' ⟨rfl,hg⟩;replace hs:=hs.grew hg;clear hg))
    go_ret
    exact⟨rfl,hs.drop⟩
   case false=>
   cases a
   case false=>
    have h5:=HV.out
    rw[WoS.defer_bad (WoS.defE_11 HA.out HB.out Ha.out) (by decide)] at h5
    cases h5
    go_wp2_with (first
     | (go_at_call 106;refine (HCA.out _ hs).mono ?_;rintro r w' ⟨rfl,hg⟩;replace hs:=hs.grew hg;clear hg)
     | (go_at_call 106;refine (HCS.out _ hs).mono ?_;rintro r w' ⟨rfl,hg⟩;replace hs:=hs.grew hg;clear hg))
    go_ret
    exact⟨rfl,hs.drop⟩
   case true=>
   cases b
   case false=>
    have h5:=HV.out
    rw[WoS.defer_bad (WoS.defE_9 HA.out HB.out Ha.out Hb.out) (by decide)] at h5
    cases h5
    go_wp2_with (first
     | (go_at_call 106;refine (HCA.out _ hs).mono ?_;rintro r w' ⟨rfl,hg⟩;replace hs:=hs.grew hg;clear hg)
     | (go_at_call 106;refine (HCS.out _ hs).mono ?_;rintro r w' ⟨rfl,hg⟩;replace hs:=hs.grew hg;clear hg))
    go_ret
    exact⟨rfl,hs.drop⟩
   case true=>
    obtain⟨y,HY⟩:∃ z,Hid (quE l s.q=z):=⟨_,rfl⟩
    obtain⟨q',HQ'⟩:∃ z,Hid ((if y=0 then s.q++l else s.q)=z):=⟨_,rfl⟩
    have h5:s.defer l=(y,{ s with q:=q' }):=by
     have e:=WoS.defE_q HA.out HB.out Ha.out Hb.out
     rw[HY.out] at e
     by_cases h0:y=0
     ·subst h0;rw[WoS.defer_ok e,← HQ'.out,if_pos rfl]
     ·rw[WoS.defer_bad e h0,← HQ'.out,if_neg h0]
    have h6:=HV.out
    rw[h5] at h6
    cases h6
    have HQA:Hid (∀ w,St w0 (QuB Q s.q::blk W (woC E X Q s.held n s.e.top) 132::EnB E A R s.e::ReB X s.r::blk g2 #[.pointer (some ⟨W,0,none⟩)] 89::L) w→Calls Tryz.prog 110 #[.pointer (some ⟨Q,0,none⟩), .slice D k cap] w fun r w'=>r= .returned (.int .i64 x)∧St w0 (QuB Q q'::blk W (woC E X Q s.held n s.e.top) 132::EnB E A R s.e::ReB X s.r::blk g2 #[.pointer (some ⟨W,0,none⟩)] 89::L) w'):=fun w q=>by
     have h:=qadd_c (cap:=cap) (l:=l) HQ.out HL.out q HR.out.tail.tail.tail.tail
     rw[hm.out,HY.out,HQ'.out] at h;exact h
    clear h5 HV
    go_upto_region 16 with (first
     | (go_at_call 106;refine (HCA.out _ hs).mono ?_;rintro r w' ⟨rfl,hg⟩;replace hs:=hs.grew hg;clear hg)
     | (go_at_call 106;refine (HCS.out _ hs).mono ?_;rintro r w' ⟨rfl,hg⟩;replace hs:=hs.grew hg;clear hg))
    have c2:World.cell? _ ⟨g2,0,none⟩=some (.pointer (some ⟨W,0,none⟩)):=Rd.blk (by rfl) _ hs
    replace hs:=hs.rot.woopen
    have kQ:=Rd.blk (k:=2) (v:= .pointer (some ⟨Q,0,none⟩)) (by rfl) _ hs
    replace hs:=hs.up3
    (go_wp2_with (first
     | (go_at_call 110;refine (HQA.out _ hs).mono ?_;clear hs c2 kQ;rintro r w ⟨rfl,hs⟩)))
    go_ret
    exact⟨rfl,St.woshut (s:={ s with q:=q' }) ((hs.pm (M:=blk g2 #[.pointer (some ⟨W,0,none⟩)] 89::blk W (woC E X Q s.held n s.e.top) 132::EnB E A R s.e::ReB X s.r::QuB Q q'::L)).drop)⟩
end
end Go.Proofs.YtiafdlofcjbllaaGreatDoor
