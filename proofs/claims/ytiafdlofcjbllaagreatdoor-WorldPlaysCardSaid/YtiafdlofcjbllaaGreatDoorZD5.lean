/-
  Things with parts beside the document's World: plain law (both alike, call by call).
-/
import Derived.Test.YtiafdlofcjbllaaGreatDoorZD1
import Derived.Test.YtiafdlofcjbllaaGreatDoorZL
import Derived.Test.YtiafdlofcjbllaaGreatDoorZX
set_option maxRecDepth 100000
namespace Go.Proofs.YtiafdlofcjbllaaGreatDoor
section
open Go Go.RowKit
section
variable {t:WoS} (hh:t.held=false)
include hh
theorem WoS.ins_f (d:Hdl) (c:Int) (v:V3):t.ins d c v=((t.e.ins d c v).1,(t.e.ins d c v).2.1,(t.e.ins d c v).2.2.1,{ t with e:=(t.e.ins d c v).2.2.2 }):=by
 unfold WoS.ins
 by_cases h4:t.e.live d=4
 ·rw[WoS.may_live4 h4,if_neg (by decide),EnS.ins_no (by rw[h4];decide),h4]
 ·rw[WoS.may_not4 h4,if_pos (WoS.free_free hh)]
theorem WoS.rem_f (d:Hdl) (c:Int):t.rem d c=((t.e.rem d c).1,(t.e.rem d c).2.1,{ t with e:=(t.e.rem d c).2.2 }):=by
 unfold WoS.rem
 by_cases h4:t.e.live d=4
 ·rw[WoS.may_live4 h4,if_neg (by decide),EnS.rem_no (by rw[EnS.get_no (by rw[h4];decide),h4]) (by decide)]
 ·rw[WoS.may_not4 h4,if_pos (WoS.free_free hh)]
theorem WoS.del_f (d:Hdl):t.del d=((t.e.del d).1,(t.e.del d).2.1,{ t with e:=(t.e.del d).2.2 }):=by
 unfold WoS.del
 by_cases h4:t.e.live d=4
 ·rw[WoS.may_live4 h4,if_neg (by decide),EnS.del_no (by rw[h4];decide),h4]
 ·rw[WoS.may_not4 h4,if_pos (WoS.free_free hh)]
end
structure EpI (s:EnS) (t:WoS) (m k:Nat):Prop where
 al:AlE s t.e
 held:t.held=false
 len:s.l.length=m
 ev:EvL k s.l
section
variable {s:EnS} {t:WoS} {m k:Nat} (h:EpI s t m k)
include h
theorem EpI.evt:EvL k t.e.l:=fun y hy=>by
 obtain⟨c,hc⟩:=List.getElem?_of_mem hy
 have hl:=(List.getElem?_eq_some_iff.1 hc).1
 obtain⟨x,hx⟩:∃ x,s.l[c]? =some x:=⟨_,List.getElem?_eq_getElem (by rw[h.al.len];exact hl)⟩
 rw[← (h.al.at_ _ _ _ hx hc).evs]
 exact h.ev _ (List.mem_of_getElem? hx)
theorem EpI.lent:t.e.l.length=m:=by rw[← h.al.len];exact h.len
theorem EpI.more:EpI s t m (k+1):=⟨h.al,h.held,h.len,h.ev.more⟩
theorem EpI.ins {d:Hdl} {c:Int} {v u:V3} {b:Bool} {x:Int} {s':EnS} (hi:s.ins d c v=(u,b,x,s')):∃ t',t.ins d c v=(u,b,x,t')∧EpI s' t' m (k+1):=by
 have ha:=h.al.ins d c v
 have hl:(s.ins d c v).2.2.2.l.length=s.l.length:=by
  unfold EnS.ins
  split
  ·split
   ·simp
   ·rfl
  ·rfl
 have he:=EvL.ins (h:=d) (c:=c) (v:=v) h.ev
 rw[hi] at ha hl he
 refine⟨{ t with e:=(t.e.ins d c v).2.2.2 },?_,ha.2.2.2,h.held,by rw[hl];exact h.len,he⟩
 rw[WoS.ins_f h.held,← ha.1,← ha.2.1,← ha.2.2.1]
theorem EpI.rem {d:Hdl} {c:Int} {u:V3} {x:Int} {s':EnS} (hi:s.rem d c=(u,x,s')):∃ t',t.rem d c=(u,x,t')∧EpI s' t' m (k+1):=by
 have ha:=h.al.rem d c
 have hl:(s.rem d c).2.2.l.length=s.l.length:=by
  unfold EnS.rem
  split
  ·split
   ·split
    ·simp
    ·rfl
   ·rfl
  ·rfl
 have he:=EvL.rem (h:=d) (c:=c) h.ev
 rw[hi] at ha hl he
 refine⟨{ t with e:=(t.e.rem d c).2.2 },?_,ha.2.2,h.held,by rw[hl];exact h.len,he⟩
 rw[WoS.rem_f h.held,← ha.1,← ha.2.1]
theorem EpI.set {d:Hdl} {c:Int} {v:V3} {x:Int} {s':EnS} (hi:s.set d c v=(x,s')):∃ t',t.set d c v=(x,t')∧EpI s' t' m (k+1):=by
 have ha:=h.al.set d c v
 have hl:(s.set d c v).2.l.length=s.l.length:=by
  unfold EnS.set
  split
  ·split
   ·simp
   ·rfl
  ·rfl
 have he:=EvL.sets (h:=d) (c:=c) (v:=v) h.ev
 rw[hi] at ha hl he
 refine⟨{ t with e:=(t.e.set d c v).2 },?_,ha.2,h.held,by rw[hl];exact h.len,he⟩
 have e:t.set d c v=((t.e.set d c v).1,{ t with e:=(t.e.set d c v).2 }):=rfl
 rw[e,← ha.1]
theorem EpI.del {d:Hdl} {n x:Int} {s':EnS} (hi:s.del d=(n,x,s')):∃ t',t.del d=(n,x,t')∧EpI s' t' m (k+1):=by
 have ha:=h.al.del d
 have hl:(s.del d).2.2.l.length=s.l.length:=by
  unfold EnS.del
  split
  ·exact strL_len _ _
  ·rfl
 have he:=EvL.del (h:=d) h.ev
 rw[hi] at ha hl he
 refine⟨{ t with e:=(t.e.del d).2.2 },?_,ha.2.2,h.held,by rw[hl];exact h.len,he⟩
 rw[WoS.del_f h.held,← ha.1,← ha.2.1]
theorem EpI.get {d:Hdl} {c:Int} {r:V3 × Int} (hi:s.get d c=r):t.get d c=r:=by
 unfold WoS.get;rw[← h.al.get];exact hi
theorem EpI.parts {d:Hdl} {r:List Nat × Int} (hi:s.parts d=r):t.e.parts d=r:=by rw[← h.al.parts];exact hi
theorem EpI.cells (c:List ACell):EpI ⟨s.top,c,s.l⟩ { t with e:=⟨t.e.top,c,t.e.l⟩ } m (k+1):=⟨h.al.cells c,h.held,h.len,h.ev.more⟩
theorem EpI.cs:s.cs=t.e.cs:=h.al.cs
end
section
variable {w0 w:World} {L:List As}
theorem en_oks {E A R:Nat} {s:EnS} (hs:St w0 (EnB E A R s::L) w):∀ (c:Nat) (x:Cmp),s.l[c]? =some x→x.2.Ok:=fun c x hx=>by
 obtain⟨_,A2,cap,h⟩:=hs.enopen.rot.rgopen
 exact (h.up2.slsOut hx).slwf.ok
theorem dw_oks {M:Nat} {s:WoS} (hs:St w0 (DwB M s::L) w):∀ (c:Nat) (x:Cmp),s.e.l[c]? =some x→x.2.Ok:=fun c x hx=>by
 obtain⟨A,n,c',B,cB,C,cC,D,cD,hp,h⟩:=hs.dwopen
 exact ((h.up3.dlsOut hx).dsopen).1
end
theorem NewL.al {ds:List V3} {l l2:List Cmp} {top:Int} {cs:List ACell} (h1:NewL ds l) (h2:NewL ds l2) (o1:∀ (c:Nat) (x:Cmp),l[c]? =some x→x.2.Ok) (o2:∀ (c:Nat) (x:Cmp),l2[c]? =some x→x.2.Ok):AlE ⟨top,cs,l⟩ ⟨top,cs,l2⟩ where
 top_:=rfl
 cs:=rfl
 len:=by show l.length=l2.length;rw[h1.len,h2.len]
 at_ c x y hx hy:=by
  have f1:=(o1 c x hx).flag
  have f2:=(o2 c y hy).flag
  obtain⟨d,v,F,e1,e2⟩:=h1.at_ c x hx
  obtain⟨d',v',F',e3,e4⟩:=h2.at_ c y hy
  rw[e1] at e3
  injection e3 with e3
  subst e3
  rw[e2] at f1 ⊢
  rw[e4] at f2 ⊢
  exact⟨rfl,rfl,rfl,rfl,rfl,f1.trans f2.symm⟩
attribute [local irreducible] wpList Calls Code.wp
end
section
open Go Go.RowKit
attribute [local irreducible] wpList Calls Code.wp okI okN pS tS memS getG pG insS delS getV pV tV okVal newSl SlS.put SlS.err SlS.putU SlS.putB descE SlS.take SlS.set SlS.errSet SlS.get SlS.has stV EnS.live EnS.get EnS.ins EnS.set EnS.rem EnS.parts EnS.del ofN strL delA newA giveV newE lagE
theorem df_read_no {w0 w:World} {L:List As} {f:Nat} {bd:Int} {evs:List Ev} {rds:List Nat} (hs:St w0 (DfB f bd evs rds::L) w) {r:Int} (hr:r < 0∨(rds.length:Int)≤r):
  Calls Tryz.prog 156 #[.pointer (some ⟨f,0,none⟩), .int .i64 r] w fun e w'=>e= .returned (.tuple #[.slice none 0 0, .bool false, .int .i64 8])∧w=w':=by
 obtain⟨E,cE,B,cB,hs⟩:=hs.dfopen
 obtain⟨m,hm⟩:∃ n,Hid (rds.length=n):=⟨_,rfl⟩
 rw[hm.out] at hs hr
 have c2:=Rd.df2 _ hs
 clear hs
 by_cases h1:r < 0
 ·go_enter Tryz.func156,Tryz.ntmps156
  go_wp2
  go_ret3
  exact⟨rfl,rfl⟩
 ·have h2:(m:Int)≤r:=by omega
  clear hr
  go_enter Tryz.func156,Tryz.ntmps156
  go_wp2
  go_ret3
  exact⟨rfl,rfl⟩
theorem ds_read_no {w0 w:World} {L:List As} {D f:Nat} {s:SlS} (hs:St w0 (DsB D s::L) w) (hF:s.F=some f) {r:Int} (hr:r < 0∨(s.rds.length:Int)≤r):
  Calls Tryz.prog 156 #[.pointer (some ⟨f,0,none⟩), .int .i64 r] w fun e w'=>e= .returned (.tuple #[.slice none 0 0, .bool false, .int .i64 8])∧St w0 (DsB D s::L) w':=by
 obtain⟨R,h1,h2⟩:=hs.dsfl hF
 exact (df_read_no h1 hr).mono fun e w' ⟨h3,h4⟩=>⟨h3,h4 ▸ hs⟩
theorem WoS.slot_at {s:WoS} {c:Int} {x:Cmp} (h:s.e.slot c=some x):∃ j:Nat,c=(j:Int)∧s.e.l[j]? =some x:=by
 by_cases h0:0≤c
 ·obtain⟨j,rfl⟩:=Int.eq_ofNat_of_zero_le h0
  rw[EnS.slot_nat] at h
  exact⟨j,rfl,h⟩
 ·unfold EnS.slot at h
  rw[if_neg h0] at h
  cases h
theorem WoS.free_13 {s:WoS} (h:s.held=true):s.free=13:=by unfold WoS.free;rw[h];rfl
set_option maxHeartbeats 2000000 in
theorem dw_reader {w0 w:World} {L:List As} {M:Nat} {s:WoS} (hs:St w0 (DwB M s::L) w) (hm:∀ x∈s.e.l,x.2.rds.length < 100) {c m x:Int} {s':WoS} (HV:Hid (s.reader c=(m,x,s'))):
  Calls Tryz.prog 120 #[.pointer (some ⟨M,0,none⟩), .int .i64 c] w fun r w'=>r= .returned (.tuple #[.int .i64 m, .int .i64 x])∧St w0 (DwB M s'::L) w':=by
 obtain⟨A,n,c',B,cB,C,cC,D,cD,hp,ho⟩:=hs.dwopen
 have k4:=Rd.blk (k:=4) (v:= .bool s.held) (by rfl) _ ho
 clear hp ho
 obtain⟨held,HH⟩:∃ z,Hid (s.held=z):=⟨_,rfl⟩
 rw[HH.out] at k4
 have h1:=HV.out
 clear HV
 cases held with
 | true=>
  rw[WoS.reader_bad (by rw[WoS.free_13 HH.out];decide),WoS.free_13 HH.out] at h1
  cases h1
  go_enter Tryz.func120,Tryz.ntmps120
  go_wp2
  go_ret2
  exact⟨rfl,hs⟩
 | false=>
  have h0:=WoS.free_free HH.out
  cases hsl:s.e.slot c with
  | none=>
   rw[WoS.reader_comp h0 hsl] at h1
   cases h1
   have HC:=Lib.hid (WoS.cmpD_none hsl)
   clear h0 hsl hm HH
   go_enter Tryz.func120,Tryz.ntmps120
   go_wp2_with (first
    | (go_at_call 136;refine (dw_comp hs HC).mono ?_;rintro r w' ⟨rfl,rfl⟩))
   go_ret2
   exact⟨rfl,hs⟩
  | some y=>
   obtain⟨X,t⟩:=y
   have HC:=Lib.hid (WoS.cmpD_some hsl)
   obtain⟨j,rfl,hj⟩:=WoS.slot_at hsl
   go_enter Tryz.func120,Tryz.ntmps120
   go_upto_region 5 with (first
    | (go_at_call 136;refine (dw_comp hs HC).mono ?_;rintro r w' ⟨rfl,rfl⟩))
   clear k4 HC HH
   obtain⟨K,gB,m2,cB2,P,R,hK,hjm,hP,hs,hback⟩:=hs.dwslot hj
   have c1:World.cell? _ ⟨M,1,none⟩=some (.slice (some ⟨gB,0,none⟩) m2 cB2):=Rd.blk hK _ hs
   have c2:World.cell? w ⟨gB,j,none⟩=some (.pointer (some ⟨X,0,none⟩)):=by
    have:=(Rd.own (w0:=w0) (g:=gB) (n:=m2) (cap:=cB2) (e:=146) (size:=1) (L:=DsB X t::R::L) hP).tail (p:=blk M K 59) _ hs
    exact this
   have c3':World.cell? _ ⟨X,4,none⟩=some (fpV t.F):=(Rd.dsf (w0:=w0) (L:=R::L)).tail.tail _ hs
   have HB:=Lib.hid hback
   have hjm2:(j:Int) < (m2:Int):=by omega
   clear hback hK hP
   cases hF:t.F with
   | none=>
    rw[hF] at c3'
    simp only[fpV,Option.map_none] at c3'
    rw[WoS.reader_flag h0 hsl hF] at h1
    cases h1
    have hs2:=HB.out t _ _ hs
    rw[show s.e.l.set j (X,t)=s.e.l by (obtain⟨q1,q2⟩:=List.getElem?_eq_some_iff.1 hj;rw[← q2,List.set_getElem_self])] at hs2
    clear h0 hsl hF hm hs hj HB
    go_wp2
    go_ret2
    exact⟨rfl,hs2⟩
   | some f=>
    rw[hF] at c3'
    simp only[fpV,Option.map_some] at c3'
    have hr:t.rds.length < 100:=hm _ (List.mem_of_getElem? hj)
    rw[WoS.reader_ok h0 hj hF hr] at h1
    have HF:=Lib.hid hF
    have HR:=Lib.hid hr
    obtain⟨n2,HN⟩:∃ z,Hid (t.rds.length=z):=⟨_,rfl⟩
    obtain⟨t',HT⟩:∃ z,Hid (({ t with rds:=t.rds++[t.evs.length] }:SlS)=z):=⟨_,rfl⟩
    rw[HT.out,HN.out] at h1
    cases h1
    clear h0 hsl hF hm hr hj
    go_wp2_with (first
     | (go_at_call 155;refine (ds_reader hs.up2 HF.out HR.out HN HT).mono ?_;clear hs c1 c2 c3';rintro r w ⟨rfl,hs⟩))
    go_ret2
    exact⟨rfl,HB.out t' _ _ (hs.pm)⟩
set_option maxHeartbeats 2000000 in
theorem dw_read {w0 w:World} {L:List As} {M:Nat} {s:WoS} (hs:St w0 (DwB M s::L) w) (hev:∀ x∈s.e.l,x.2.evs.length≤4000000000) (hrd:∀ x∈s.e.l,∀ k∈x.2.rds,k≤x.2.evs.length) {c r x:Int} {l:List Ev} {b:Bool} {s':WoS} (HV:Hid (s.read c r=(l,b,x,s'))):
  Calls Tryz.prog 121 #[.pointer (some ⟨M,0,none⟩), .int .i64 c, .int .i64 r] w fun e w'=>∃ A cap n,Hid (l.length=n)∧e= .returned (.tuple #[.slice A n cap, .bool b, .int .i64 x])∧St w0 (own A n cap 121 2 (es2 l)::DwB M s'::L) w':=by
 have h1:=HV.out
 clear HV
 cases hsl:s.e.slot c with
 | none=>
  rw[WoS.read_comp hsl] at h1
  cases h1
  have HC:=Lib.hid (WoS.cmpD_none hsl)
  have hs2:=Lib.hid (hs.own_nil 121 2)
  clear hsl hev hrd
  go_enter Tryz.func121,Tryz.ntmps121
  go_wp2_with (first
   | (go_at_call 136;refine (dw_comp hs HC).mono ?_;rintro r w' ⟨rfl,rfl⟩))
  go_ret3
  exact⟨none,0,0,rfl,rfl,hs2.out⟩
 | some y=>
  obtain⟨X,t⟩:=y
  have HC:=Lib.hid (WoS.cmpD_some hsl)
  obtain⟨j,rfl,hj⟩:=WoS.slot_at hsl
  go_enter Tryz.func121,Tryz.ntmps121
  go_upto_region 3 with (first
   | (go_at_call 136;refine (dw_comp hs HC).mono ?_;rintro r w' ⟨rfl,rfl⟩))
  clear HC
  obtain⟨K,gB,m2,cB2,P,R,hK,hjm,hP,hs,hback⟩:=hs.dwslot hj
  have c1:World.cell? w ⟨M,1,none⟩=some (.slice (some ⟨gB,0,none⟩) m2 cB2):=Rd.blk hK _ hs
  have c2:World.cell? w ⟨gB,j,none⟩=some (.pointer (some ⟨X,0,none⟩)):=by
   have:=(Rd.own (w0:=w0) (g:=gB) (n:=m2) (cap:=cB2) (e:=146) (size:=1) (L:=DsB X t::R::L) hP).tail (p:=blk M K 59) _ hs
   exact this
  have c3':World.cell? w ⟨X,4,none⟩=some (fpV t.F):=(Rd.dsf (w0:=w0) (L:=R::L)).tail.tail _ hs
  have HB:=Lib.hid hback
  have hjm2:(j:Int) < (m2:Int):=by omega
  clear hback hK hP
  have hself:s.e.l.set j (X,t)=s.e.l:=by
   obtain⟨q1,q2⟩:=List.getElem?_eq_some_iff.1 hj
   rw[← q2,List.set_getElem_self]
  cases hF:t.F with
  | none=>
   rw[hF] at c3'
   simp only[fpV,Option.map_none] at c3'
   rw[WoS.read_flag hsl hF] at h1
   cases h1
   have hs2:=HB.out t _ _ hs
   rw[hself] at hs2
   have hs3:=Lib.hid (hs2.own_nil 121 2)
   clear hsl hF hs hj HB hev hrd hs2 hself
   go_wp2
   go_ret3
   exact⟨none,0,0,rfl,rfl,hs3.out⟩
  | some f=>
   rw[hF] at c3'
   simp only[fpV,Option.map_some] at c3'
   have he:t.evs.length≤4000000000:=hev _ (List.mem_of_getElem? hj)
   by_cases hbad:r < 0∨(t.rds.length:Int)≤r
   ·rw[WoS.read_no hsl hF hbad] at h1
    cases h1
    have HBD:=Lib.hid hbad
    have HF:=Lib.hid hF
    have HSelf:=Lib.hid hself
    clear hsl hF hj hev hrd hself he hbad
    go_wp2_with (first
     | (go_at_call 156;refine (ds_read_no hs.up2 HF.out HBD.out).mono ?_;clear hs c1 c2 c3';rintro r w ⟨rfl,hs⟩))
    go_ret3
    have hs2:=HB.out t _ L (hs.pm)
    rw[HSelf.out] at hs2
    exact⟨none,0,0,rfl,rfl,hs2.own_nil 121 2⟩
   ·obtain⟨i,rfl⟩:=Int.eq_ofNat_of_zero_le (show 0≤r by omega)
    have hil:i < t.rds.length:=by omega
    obtain⟨k,hk⟩:∃ k,t.rds[i]? =some k:=⟨_,List.getElem?_eq_getElem hil⟩
    have hke:k≤t.evs.length:=hrd _ (List.mem_of_getElem? hj) k (List.mem_of_getElem? hk)
    rw[WoS.read_ok hj hF hk] at h1
    have HF:=Lib.hid hF
    have HK:=Lib.hid hk
    have HKE:=Lib.hid hke
    have HE:=Lib.hid he
    obtain⟨t',HT⟩:∃ z,Hid (({ t with rds:=t.rds.set i t.evs.length }:SlS)=z):=⟨_,rfl⟩
    obtain⟨bb,HBB⟩:∃ z,Hid (lagE t.d.b.toNat t.evs k=z):=⟨_,rfl⟩
    obtain⟨ll,HLL⟩:∃ z,Hid (newE t.d.b.toNat t.evs k=z):=⟨_,rfl⟩
    rw[HT.out,HBB.out,HLL.out] at h1
    cases h1
    clear hsl hF hj hev hrd hself he hbad hk hke hil
    go_wp2_with (first
     | (go_at_call 156;refine (ds_read hs.up2 HF.out HK.out HKE.out HE.out HBB HLL HT).mono ?_;clear hs c1 c2 c3';rintro r w ⟨A9,c9,n9,hn9,rfl,hs⟩))
    go_ret3
    have hs2:=HB.out t' _ (own A9 n9 c9 121 2 (es2 l)::L) (hs.pm)
    exact⟨A9,c9,n9,hn9,rfl,hs2.pm⟩
end
end Go.Proofs.YtiafdlofcjbllaaGreatDoor
