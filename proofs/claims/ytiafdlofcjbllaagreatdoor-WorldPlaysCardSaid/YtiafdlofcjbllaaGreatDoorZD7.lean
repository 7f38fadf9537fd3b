/-
  The document's World (vivariumref15.World), 9: OpOk.
-/
import Derived.Test.YtiafdlofcjbllaaGreatDoorZD6
import Derived.Test.YtiafdlofcjbllaaGreatDoorZW1
set_option maxRecDepth 100000
namespace Go.Proofs.YtiafdlofcjbllaaGreatDoor
section
open Go Go.RowKit
attribute [local irreducible] wpList Calls Code.wp
theorem rop_c {w:World} (o:OpW):Calls Tryz.prog 153 #[valW o] w fun e w'=>e= .returned (.bool o.ok)∧Grew w w':=by
 have hw:=St.start w
 have he:=eqV_bin
 have hv:=fun w=>rok_c (w:=w) o.v
 obtain⟨b,hb⟩:∃ b,Hid (o.ok=b):=⟨_,rfl⟩
 rw[hb.out]
 by_cases h1:o.k=1
 ·have d1:(o.k==1)=true:=by simp[h1]
  by_cases h2:o.c=0
  ·have d2:(o.c==0)=true:=by simp[h2]
   have e:Hid ((o.v.k==0 && (o.v.a==0 && o.v.b==0))=b):=by
    rw[Hid,← hb.out]
    unfold OpW.ok
    rw[if_pos h1,h2]
    obtain⟨k,h,c,⟨x,y,z⟩⟩:=o
    by_cases q1:x=0 <;> by_cases q2:y=0 <;> by_cases q3:z=0 <;> simp_all [V3.z]
   clear h1 h2 hb
   go_enter Tryz.func153,Tryz.ntmps153
   go_upto_region 1 with (first
    | (refine wpl_box_v (v:=valW o) rfl hw ?_;clear hw;intro g1 w1 hw))
   obtain⟨c0,c3,c4⟩:=opW_facts hw
   replace c0:=c0 _ hw
   replace c3:=c3 _ hw
   have c40:=c4 0 _ rfl _ hw
   have c41:=c4 1 _ rfl _ hw
   have c42:=c4 2 _ rfl _ hw
   clear c4
   go_wp2
   all_goals (go_ret;exact⟨by rw[← e.out];rfl,hw.made_grew⟩)
  ·have d2:(o.c==0)=false:=by simp[h2]
   have e:Hid (false=b):=by
    rw[Hid,← hb.out]
    unfold OpW.ok
    rw[if_pos h1];simp[h2]
   clear h1 h2 hb
   go_enter Tryz.func153,Tryz.ntmps153
   go_upto_region 1 with (first
    | (refine wpl_box_v (v:=valW o) rfl hw ?_;clear hw;intro g1 w1 hw))
   obtain⟨c0,c3,c4⟩:=opW_facts hw
   replace c0:=c0 _ hw
   replace c3:=c3 _ hw
   have c40:=c4 0 _ rfl _ hw
   have c41:=c4 1 _ rfl _ hw
   have c42:=c4 2 _ rfl _ hw
   clear c4
   go_wp2
   all_goals (go_ret;exact⟨by rw[← e.out];rfl,hw.made_grew⟩)
 have n1:(o.k==1)=false:=by simp[h1]
 by_cases h2:o.k=2
 ·have d2:(o.k==2)=true:=by simp[h2]
  by_cases h3:0≤o.c
  ·have d3:decide (o.c ≥ 0)=true:=decide_eq_true h3
   have e:Hid (okVal o.v=b):=by
    rw[Hid,← hb.out]
    unfold OpW.ok
    rw[if_neg h1,if_pos h2,decide_eq_true h3]
    rfl
   clear h1 h2 h3 hb
   go_enter Tryz.func153,Tryz.ntmps153
   go_upto_region 1 with (first
    | (refine wpl_box_v (v:=valW o) rfl hw ?_;clear hw;intro g1 w1 hw))
   obtain⟨c0,c3,c4⟩:=opW_facts hw
   replace c0:=c0 _ hw
   replace c3:=c3 _ hw
   have c40:=c4 0 _ rfl _ hw
   have c41:=c4 1 _ rfl _ hw
   have c42:=c4 2 _ rfl _ hw
   clear c4
   go_wp2_with (first
    | (go_at_call 165;refine (hv _).mono ?_;rintro r w' ⟨rfl,hg⟩))
   all_goals (go_ret;exact⟨by rw[← e.out];rfl,hw.made_grew.trans hg⟩)
  ·have d3:decide (o.c ≥ 0)=false:=decide_eq_false h3
   have e:Hid (false=b):=by
    rw[Hid,← hb.out]
    unfold OpW.ok
    rw[if_neg h1,if_pos h2,decide_eq_false h3]
    rfl
   clear h1 h2 h3 hb
   go_enter Tryz.func153,Tryz.ntmps153
   go_upto_region 1 with (first
    | (refine wpl_box_v (v:=valW o) rfl hw ?_;clear hw;intro g1 w1 hw))
   obtain⟨c0,c3,c4⟩:=opW_facts hw
   replace c0:=c0 _ hw
   replace c3:=c3 _ hw
   have c40:=c4 0 _ rfl _ hw
   have c41:=c4 1 _ rfl _ hw
   have c42:=c4 2 _ rfl _ hw
   clear c4
   go_wp2
   all_goals (go_ret;exact⟨by rw[← e.out];rfl,hw.made_grew⟩)
 have n2:(o.k==2)=false:=by simp[h2]
 by_cases h4:o.k=3
 ·have d2:(o.k==3)=true:=by simp[h4]
  by_cases h3:0≤o.c
  ·have d3:decide (o.c ≥ 0)=true:=decide_eq_true h3
   have e:Hid ((o.v.k==0 && (o.v.a==0 && o.v.b==0))=b):=by
    rw[Hid,← hb.out]
    unfold OpW.ok
    rw[if_neg h1,if_neg h2,if_pos h4]
    obtain⟨k,h,c,⟨x,y,z⟩⟩:=o
    by_cases q1:x=0 <;> by_cases q2:y=0 <;> by_cases q3:z=0 <;> simp_all [V3.z]
   clear h1 h2 h3 h4 hb
   go_enter Tryz.func153,Tryz.ntmps153
   go_upto_region 1 with (first
    | (refine wpl_box_v (v:=valW o) rfl hw ?_;clear hw;intro g1 w1 hw))
   obtain⟨c0,c3,c4⟩:=opW_facts hw
   replace c0:=c0 _ hw
   replace c3:=c3 _ hw
   have c40:=c4 0 _ rfl _ hw
   have c41:=c4 1 _ rfl _ hw
   have c42:=c4 2 _ rfl _ hw
   clear c4
   go_wp2
   all_goals (go_ret;exact⟨by rw[← e.out];rfl,hw.made_grew⟩)
  ·have d3:decide (o.c ≥ 0)=false:=decide_eq_false h3
   have e:Hid (false=b):=by
    rw[Hid,← hb.out]
    unfold OpW.ok
    rw[if_neg h1,if_neg h2,if_pos h4];simp[h3]
   clear h1 h2 h3 h4 hb
   go_enter Tryz.func153,Tryz.ntmps153
   go_upto_region 1 with (first
    | (refine wpl_box_v (v:=valW o) rfl hw ?_;clear hw;intro g1 w1 hw))
   obtain⟨c0,c3,c4⟩:=opW_facts hw
   replace c0:=c0 _ hw
   replace c3:=c3 _ hw
   have c40:=c4 0 _ rfl _ hw
   have c41:=c4 1 _ rfl _ hw
   have c42:=c4 2 _ rfl _ hw
   clear c4
   go_wp2
   all_goals (go_ret;exact⟨by rw[← e.out];rfl,hw.made_grew⟩)
 have n4:(o.k==3)=false:=by simp[h4]
 have e:Hid (false=b):=by
  rw[Hid,← hb.out]
  unfold OpW.ok
  rw[if_neg h1,if_neg h2,if_neg h4]
 clear h1 h2 h4 hb
 go_enter Tryz.func153,Tryz.ntmps153
 go_upto_region 1 with (first
  | (refine wpl_box_v (v:=valW o) rfl hw ?_;clear hw;intro g1 w1 hw))
 obtain⟨c0,c3,c4⟩:=opW_facts hw
 replace c0:=c0 _ hw
 replace c3:=c3 _ hw
 have c40:=c4 0 _ rfl _ hw
 have c41:=c4 1 _ rfl _ hw
 have c42:=c4 2 _ rfl _ hw
 clear c4
 go_wp2
 all_goals (go_ret;exact⟨by rw[← e.out];rfl,hw.made_grew⟩)
end
section
open Go Go.RowKit
section
variable {s:WoS} {l:List OpW}
theorem all_take_succ {α:Type} {p:α→Bool} {l:List α} {k:Nat} {o:α} (ho:l[k]? =some o) (h:(l.take k).all p=true) (hp:p o=true):(l.take (k+1)).all p=true:=by
 rw[List.take_add_one,ho]
 simp only[Option.toList_some,List.all_append,h,List.all_cons,hp,List.all_nil,Bool.and_true]
theorem any_no {α:Type} {p:α→Bool} {l:List α} (h:l.all (fun o=>!p o)=true):l.any p=false:=by
 rw[List.any_eq_false]
 intro x hx
 have:=List.all_eq_true.1 h x hx
 simpa using this
theorem WoS.defE_last (h1:(l.any fun o=>!o.ok)=false) (h2:(l.any fun o=>decide (stV s.e.cs o.h=0))=false) (h3:(l.all fun o=>(s.kn o).1)=true) (h4:(l.all fun o=>(s.kn o).2)=true):s.defE l=if 10000 < s.q.length+l.length then 2 else 0:=by
 unfold WoS.defE;rw[if_neg (by simp[h1]),if_neg (by rw[h2];decide),if_neg (by rw[h3];decide),if_neg (by rw[h4];decide)]
end
theorem wopR {w0:World} {L:List As} {A:Option Addr} {l:List OpW} {k:Nat} {o:OpW} (hr:RdS w0 L A (l.flatMap c7w)) (ho:l[k]? =some o):∃ b off,A=some ⟨b,off,none⟩∧∀ j x,(c7w o)[j]? =some x→Rd w0 L ⟨b,off+k*7+j,none⟩ x:=by
 have hcell:=fun j x hx=>hr.get (flat_get c7len ho j x hx)
 obtain⟨b9,off,rfl,_⟩:=hcell 0 _ rfl
 refine⟨b9,off,rfl,fun j x hx=>?_⟩
 obtain⟨b',o',he,h⟩:=hcell j x hx
 injection he with he
 injection he with e1 e2
 subst e1;subst e2
 rw[Nat.add_assoc];exact h
attribute [local irreducible] wpList Calls Code.wp okI okN pS tS memS getG pG insS delS getV pV tV okVal newSl SlS.put SlS.err SlS.putU SlS.putB descE SlS.take SlS.set SlS.errSet SlS.get SlS.has stV EnS.live EnS.get EnS.ins EnS.set EnS.rem EnS.parts EnS.del ofN strL delA newA giveV newE lagE WoS.apply WoS.del WoS.ins WoS.rem mergeA idxS padA WoS.run OpW.ok WoS.defE WoS.kn
set_option maxHeartbeats 4000000 in
theorem dw_defer1 {w0 w:World} {L:List As} {M:Nat} {s:WoS} (hs:St w0 (DwB M s::L) w) {A:Option Addr} {m cA:Nat} {l:List OpW} (hm:Hid (l.length=m)) (hmb:m≤1000000) (hr:RdS w0 L A (l.flatMap c7w)) (he:(l.any fun o=>!o.ok)=true):
  Calls Tryz.prog 118 #[.pointer (some ⟨M,0,none⟩), .slice A m cA] w fun r w'=>r= .returned (.int .i64 1)∧Grew w w':=by
 have hw:=Grew.refl w
 have HE:=Lib.hid he
 clear he
 go_enter Tryz.func118,Tryz.ntmps118
 go_upto_region 2 with (fail)
 go_loopw [5] (fun iv wr=>∃ k:Nat,k≤m∧iv= .int .i64 (k:Nat)∧Hid ((l.take k).all OpW.ok=true)∧Grew w wr) (fun iv _=>m - (intOf iv).toNat)
 case atStart=>exact⟨0,Nat.zero_le _,rfl,rfl,hw⟩
 case round=>
  clear hw
  obtain⟨k,hk,rfl,HO,hg0⟩:=hrel
  by_cases hlt:k < m
  ·obtain⟨o,ho⟩:∃ o,l[k]? =some o:=⟨_,List.getElem?_eq_getElem (by rw[hm.out];exact hlt)⟩
   obtain⟨b9,off,rfl,hld⟩:=wopR hr ho
   have hs2:=hs.drop.grew hg0
   cases hb:o.ok with
   | true=>
    have HO2:=Lib.hid (all_take_succ ho HO.out hb)
    (go_wp2_with (first
     | (refine wpl_load_agg (cs:=c7w o) (b:=b9) (o:=off+k*7) rfl aggW (sizeW o) hs2 ?hh ?_;case hh=>exact fun j x hx=>hld j x hx)
     | (go_at_call 153;refine (rop_c o).mono ?_;rw[hb];rintro r w' ⟨rfl,hg⟩;replace hg0:=hg0.trans hg;clear hg)))
    go_roundw
    case rel=>exact⟨k+1,by omega,by first | rfl | go_num,HO2,hg0⟩
    case measure=>simp[intOf];omega
   | false=>
    (go_wp2_with (first
     | (refine wpl_load_agg (cs:=c7w o) (b:=b9) (o:=off+k*7) rfl aggW (sizeW o) hs2 ?hh ?_;case hh=>exact fun j x hx=>hld j x hx)
     | (go_at_call 153;refine (rop_c o).mono ?_;rw[hb];rintro r w' ⟨rfl,hg⟩;replace hg0:=hg0.trans hg;clear hg)))
    go_ret
    exact⟨rfl,hg0⟩
  ·exfalso
   have h9:=HO.out
   rw[List.take_of_length_le (by rw[hm.out];omega)] at h9
   obtain⟨o,h1,h2⟩:=List.any_eq_true.1 HE.out
   have h3:=List.all_eq_true.1 h9 o h1
   rw[h3] at h2
   cases h2
end
end Go.Proofs.YtiafdlofcjbllaaGreatDoor
