/-
  Things with parts (ent.Ents), 4: Insert, Set, Remove.
-/
import Derived.Test.YtiafdlofcjbllaaGreatDoorZE1
import Derived.Deep.DeepCutAuto
import Derived.Deep.CutBlock
set_option maxRecDepth 100000
namespace Go.Proofs.YtiafdlofcjbllaaGreatDoor
section
open Go Go.RowKit
section
variable {s:EnS} {h:Hdl} {c:Int} {v:V3}
theorem EnS.ins_no (h0:s.live h ≠ 0):s.ins h c v=(V3.z,false,s.live h,s):=by unfold EnS.ins;rw[if_neg h0]
theorem EnS.ins_comp (h0:s.live h=0) (hc:s.slot c=none):s.ins h c v=(V3.z,false,11,s):=by unfold EnS.ins;rw[if_pos h0,hc]
theorem EnS.ins_in (h0:s.live h=0) {x:Cmp} (hc:s.slot c=some x):s.ins h c v=(x.2.putU h.1 v,x.2.putB h.1 v,x.2.err h.1 v,⟨s.top,s.cs,s.l.set c.toNat (x.1,x.2.put h.1 v)⟩):=by unfold EnS.ins;rw[if_pos h0,hc]
theorem EnS.set_no (h0:s.live h ≠ 0):s.set h c v=(s.live h,s):=by unfold EnS.set;rw[if_neg h0]
theorem EnS.set_comp (h0:s.live h=0) (hc:s.slot c=none):s.set h c v=(11,s):=by unfold EnS.set;rw[if_pos h0,hc]
theorem EnS.set_in (h0:s.live h=0) {x:Cmp} (hc:s.slot c=some x):s.set h c v=(x.2.errSet h.1 v,⟨s.top,s.cs,s.l.set c.toNat (x.1,x.2.set h.1 v)⟩):=by unfold EnS.set;rw[if_pos h0,hc]
theorem EnS.rem_no {u:V3} {e:Int} (hg:s.get h c=(u,e)) (h0:e ≠ 0):s.rem h c=(V3.z,e,s):=by
 unfold EnS.get at hg
 unfold EnS.rem
 by_cases h1:s.live h=0
 ·rw[if_pos h1] at hg ⊢
  cases hc:s.slot c with
  | none=>rw[hc] at hg;cases hg;rfl
  | some x=>
   rw[hc] at hg
   simp only at hg ⊢
   by_cases h2:x.2.has h.1
   ·rw[if_pos h2] at hg;cases hg;exact absurd rfl h0
   ·rw[if_neg h2] at hg ⊢;cases hg;rfl
 ·rw[if_neg h1] at hg ⊢;cases hg;rfl
theorem EnS.rem_in {u:V3} (hg:s.get h c=(u,0)):s.live h=0∧∃ x,s.slot c=some x∧x.2.has h.1=true∧x.2.get h.1=u∧s.rem h c=(u,0,⟨s.top,s.cs,s.l.set c.toNat (x.1,x.2.take h.1)⟩):=by
 unfold EnS.get at hg
 unfold EnS.rem
 by_cases h1:s.live h=0
 ·rw[if_pos h1] at hg ⊢
  refine⟨h1,?_⟩
  cases hc:s.slot c with
  | none=>rw[hc] at hg;cases hg
  | some x=>
   rw[hc] at hg
   simp only at hg ⊢
   by_cases h2:x.2.has h.1
   ·rw[if_pos h2] at hg
    injection hg with h3
    subst h3
    exact⟨x,rfl,h2,rfl,by rw[if_pos h2]⟩
   ·rw[if_neg h2] at hg;cases hg
 ·rw[if_neg h1] at hg;injection hg with _ h3;exact absurd h3 h1
end
attribute [local irreducible] wpList Calls Code.wp okI okN pS tS memS getG pG insS delS getV pV tV okVal newSl SlS.put SlS.err SlS.putU SlS.putB descE SlS.take SlS.set SlS.errSet SlS.get SlS.has stV EnS.live EnS.get EnS.slot EnS.ins EnS.set EnS.rem
set_option maxHeartbeats 4000000 in
theorem en_ins {w0 w:World} {L:List As} {E A R:Nat} {s:EnS} (hs:St w0 (EnB E A R s::L) w) (hev:∀ x∈s.l,x.2.evs.length < 4611686018427387904) {h:Hdl} {c:Int} {v u:V3} {b:Bool} {e:Int} {s':EnS} (HV:Hid (s.ins h c v=(u,b,e,s'))):
  Calls Tryz.prog 25 #[.pointer (some ⟨E,0,none⟩),hv h, .int .i64 c,val3 v] w fun r w'=>r= .returned (.tuple #[val3 u, .bool b, .int .i64 e])∧St w0 (EnB E A R s'::L) w':=by
 obtain⟨f,HL⟩:∃ z,Hid (s.live h=z):=⟨_,rfl⟩
 obtain⟨i,g⟩:=h
 by_cases h0:f=0
 ·subst h0
  cases hc:s.slot c with
  | none=>
   have hno:=EnS.slot_none hc
   have h1:=HV.out
   rw[EnS.ins_comp HL.out hc] at h1
   cases h1
   clear HV hc hev
   go_enter Tryz.func25,Tryz.ntmps25
   go_upto_region 4 with (first
    | (refine wpl_box_v (v:=hv (i,g)) rfl hs ?_;clear hs;intro g5 w hs;replace hs:St w0 (blk g5 (h2 (i,g)).toArray 40::_) w:=hs)
    | (refine wpl_box_v (v:=val3 v) rfl hs ?_;clear hs;intro g7 w hs)
    | (refine wpl_load_agg (cs:=h2 (i,g)) (b:=g5) (o:=0) rfl aggH (sizeHd _) hs ?hh ?_;case hh=>exact fun j x hx=>(Rd.blk (by simpa using hx)).tail.tail)
    | (go_at_call 80;refine (en_live (h:=(i,g)) hs.drop.drop.drop HL).mono ?_;rintro r w' ⟨rfl,hg⟩;replace hs:=hs.grew hg;clear hg)
    | (refine wpl_alloc zero3 hs ?_;clear hs;intro g8 w hs))
   have k1:=Rd.en1 _ hs.drop.drop.drop
   (go_wp2_with (first
    | (go_at_call 86;refine (rg_slot_no hs.drop.drop.drop.enopen.rot hno).mono ?_;clear k1 hno;rintro r w' ⟨rfl,rfl⟩)
    | (refine wpl_buildS build3 rfl ?_)
    | (refine wpl_store_agg (v:=val3 V3.z) rfl rfl (size3 _) hs WrA.slot3 ?_;clear hs;intro w hs)))
   refine bodyPost_at (results_cell_tmp2 Tryz.results25 rfl (hs.slot_run agg3 (size3 _))) rfl ?_
   exact⟨rfl,hs.drop.drop.drop⟩
  | some x=>
   obtain⟨j,rfl,hj⟩:=EnS.slot_some hc
   have h1:=HV.out
   rw[EnS.ins_in HL.out hc] at h1
   have hx:=hev _ (EnS.slot_mem hc)
   obtain⟨X,t⟩:=x
   have HX:=Lib.hid hj
   simp only[Int.toNat_natCast] at h1 hx
   obtain⟨l',HL'⟩:∃ z,Hid (s.l.set j (X,t.put i v)=z):=⟨_,rfl⟩
   obtain⟨u2,HU⟩:∃ z,Hid (t.putU i v=z):=⟨_,rfl⟩
   obtain⟨b2,HB⟩:∃ z,Hid (t.putB i v=z):=⟨_,rfl⟩
   obtain⟨e2,HE⟩:∃ z,Hid (t.err i v=z):=⟨_,rfl⟩
   rw[HL'.out,HU.out,HB.out,HE.out] at h1
   cases h1
   clear HV hc hj hev
   have HEV:=Lib.hid hx
   clear hx
   go_enter Tryz.func25,Tryz.ntmps25
   go_upto_region 4 with (first
    | (refine wpl_box_v (v:=hv (i,g)) rfl hs ?_;clear hs;intro g5 w hs;replace hs:St w0 (blk g5 (h2 (i,g)).toArray 40::_) w:=hs)
    | (refine wpl_box_v (v:=val3 v) rfl hs ?_;clear hs;intro g7 w hs)
    | (refine wpl_load_agg (cs:=h2 (i,g)) (b:=g5) (o:=0) rfl aggH (sizeHd _) hs ?hh ?_;case hh=>exact fun j x hx=>(Rd.blk (by simpa using hx)).tail.tail)
    | (go_at_call 80;refine (en_live (h:=(i,g)) hs.drop.drop.drop HL).mono ?_;rintro r w' ⟨rfl,hg⟩;replace hs:=hs.grew hg;clear hg)
    | (refine wpl_alloc zero3 hs ?_;clear hs;intro g8 w hs))
   have k1:=Rd.en1 _ hs.drop.drop.drop
   go_upto_region 7 with (first
    | (go_at_call 86;refine (rg_slot hs.drop.drop.drop.enopen.rot HX.out (X:=X) (Lib.hid rfl)).mono ?_;clear k1;rintro r w' ⟨rfl,rfl⟩))
   replace hs:St w0 (RgB R s.l::blk g5 (h2 (i,g)).toArray 40::blk g7 (c3 v).toArray 38::blk g8 (c3 V3.z).toArray 38::AlB A s.top s.cs::blk E (enC A R) 53::L) _:=(hs.pm (M:=EnB E A R s::blk g5 (h2 (i,g)).toArray 40::blk g7 (c3 v).toArray 38::blk g8 (c3 V3.z).toArray 38::L)).enopen.pm
   have k2:World.cell? _ ⟨g5,0,none⟩=some (.int .i64 i):=Rd.blk (by rfl) _ hs.drop
   (go_wp2_with (first
    | (refine wpl_load3 (v:=v) (g:=g7) rfl (has3_tail (has3_tail (has3_slot (t:=38)))) agg3 size3n hs ?_)
    | (go_at_call 87;refine (rg_put hs HX HEV.out HU HB HE HL').mono ?_;clear hs k2;rintro r w ⟨rfl,hs⟩;replace hs:St w0 (blk g8 (c3 V3.z).toArray 38::RgB R l'::blk g5 (h2 (i,g)).toArray 40::blk g7 (c3 v).toArray 38::AlB A s.top s.cs::blk E (enC A R) 53::L) _:=hs.pm)
    | (refine wpl_store_agg (v:=val3 u) rfl rfl (size3 _) hs WrA.slot3 ?_;clear hs;intro w hs)))
   refine bodyPost_at (results_cell_tmp2 Tryz.results25 rfl (hs.slot_run agg3 (size3 _))) rfl ?_
   exact⟨rfl,St.enshut (s:=⟨s.top,s.cs,l'⟩) (hs.pm (M:=blk g8 (c3 u).toArray 38::blk g5 (h2 (i,g)).toArray 40::blk g7 (c3 v).toArray 38::AlB A s.top s.cs::RgB R l'::blk E (enC A R) 53::L)).drop.drop.drop⟩
 ·have e1:(f==0)=false:=by simpa using h0
  have e2:(f !=0)=true:=by simpa using h0
  have h1:=HV.out
  rw[EnS.ins_no (by rw[HL.out];exact h0),HL.out] at h1
  cases h1
  clear HV h0 hev
  go_enter Tryz.func25,Tryz.ntmps25
  (go_wp2_with (first
   | (refine wpl_box_v (v:=hv (i,g)) rfl hs ?_;clear hs;intro g5 w hs;replace hs:St w0 (blk g5 (h2 (i,g)).toArray 40::_) w:=hs)
   | (refine wpl_box_v (v:=val3 v) rfl hs ?_;clear hs;intro g7 w hs)
   | (refine wpl_load_agg (cs:=h2 (i,g)) (b:=g5) (o:=0) rfl aggH (sizeHd _) hs ?hh ?_;case hh=>exact fun j x hx=>(Rd.blk (by simpa using hx)).tail.tail)
   | (go_at_call 80;refine (en_live (h:=(i,g)) hs.drop.drop.drop HL).mono ?_;rintro r w' ⟨rfl,hg⟩;replace hs:=hs.grew hg;clear hg)
   | (refine wpl_alloc zero3 hs ?_;clear hs;intro g8 w hs)
   | (refine wpl_buildS build3 rfl ?_)
   | (refine wpl_store_agg (v:=val3 V3.z) rfl rfl (size3 _) hs WrA.slot3 ?_;clear hs;intro w hs)))
  refine bodyPost_at (results_cell_tmp2 Tryz.results25 rfl (hs.slot_run agg3 (size3 _))) rfl ?_
  exact⟨rfl,hs.drop.drop.drop⟩
set_option maxHeartbeats 4000000 in
theorem en_set {w0 w:World} {L:List As} {E A R:Nat} {s:EnS} (hs:St w0 (EnB E A R s::L) w) (hev:∀ x∈s.l,x.2.evs.length < 4611686018427387904) {h:Hdl} {c:Int} {v:V3} {e:Int} {s':EnS} (HV:Hid (s.set h c v=(e,s'))):
  Calls Tryz.prog 31 #[.pointer (some ⟨E,0,none⟩),hv h, .int .i64 c,val3 v] w fun r w'=>r= .returned (.int .i64 e)∧St w0 (EnB E A R s'::L) w':=by
 obtain⟨f,HL⟩:∃ z,Hid (s.live h=z):=⟨_,rfl⟩
 obtain⟨i,g⟩:=h
 by_cases h0:f=0
 ·subst h0
  cases hc:s.slot c with
  | none=>
   have hno:=EnS.slot_none hc
   have h1:=HV.out
   rw[EnS.set_comp HL.out hc] at h1
   cases h1
   clear HV hc hev
   go_enter Tryz.func31,Tryz.ntmps31
   go_upto_region 4 with (first
    | (refine wpl_box_v (v:=hv (i,g)) rfl hs ?_;clear hs;intro g5 w hs;replace hs:St w0 (blk g5 (h2 (i,g)).toArray 40::_) w:=hs)
    | (refine wpl_box_v (v:=val3 v) rfl hs ?_;clear hs;intro g7 w hs)
    | (refine wpl_load_agg (cs:=h2 (i,g)) (b:=g5) (o:=0) rfl aggH (sizeHd _) hs ?hh ?_;case hh=>exact fun j x hx=>(Rd.blk (by simpa using hx)).tail)
    | (go_at_call 80;refine (en_live (h:=(i,g)) hs.drop.drop HL).mono ?_;rintro r w' ⟨rfl,hg⟩;replace hs:=hs.grew hg;clear hg))
   have k1:=Rd.en1 _ hs.drop.drop
   (go_wp2_with (first
    | (go_at_call 86;refine (rg_slot_no hs.drop.drop.enopen.rot hno).mono ?_;clear k1 hno;rintro r w' ⟨rfl,rfl⟩)))
   go_ret
   exact⟨rfl,hs.drop.drop⟩
  | some x=>
   obtain⟨j,rfl,hj⟩:=EnS.slot_some hc
   have h1:=HV.out
   rw[EnS.set_in HL.out hc] at h1
   have hx:=hev _ (EnS.slot_mem hc)
   obtain⟨X,t⟩:=x
   have HX:=Lib.hid hj
   simp only[Int.toNat_natCast] at h1 hx
   obtain⟨l',HL'⟩:∃ z,Hid (s.l.set j (X,t.set i v)=z):=⟨_,rfl⟩
   obtain⟨e2,HE⟩:∃ z,Hid (t.errSet i v=z):=⟨_,rfl⟩
   rw[HL'.out,HE.out] at h1
   cases h1
   clear HV hc hj hev
   have HEV:=Lib.hid hx
   clear hx
   go_enter Tryz.func31,Tryz.ntmps31
   go_upto_region 4 with (first
    | (refine wpl_box_v (v:=hv (i,g)) rfl hs ?_;clear hs;intro g5 w hs;replace hs:St w0 (blk g5 (h2 (i,g)).toArray 40::_) w:=hs)
    | (refine wpl_box_v (v:=val3 v) rfl hs ?_;clear hs;intro g7 w hs)
    | (refine wpl_load_agg (cs:=h2 (i,g)) (b:=g5) (o:=0) rfl aggH (sizeHd _) hs ?hh ?_;case hh=>exact fun j x hx=>(Rd.blk (by simpa using hx)).tail)
    | (go_at_call 80;refine (en_live (h:=(i,g)) hs.drop.drop HL).mono ?_;rintro r w' ⟨rfl,hg⟩;replace hs:=hs.grew hg;clear hg))
   have k1:=Rd.en1 _ hs.drop.drop
   go_upto_region 7 with (first
    | (go_at_call 86;refine (rg_slot hs.drop.drop.enopen.rot HX.out (X:=X) (Lib.hid rfl)).mono ?_;clear k1;rintro r w' ⟨rfl,rfl⟩))
   replace hs:St w0 (RgB R s.l::blk g5 (h2 (i,g)).toArray 40::blk g7 (c3 v).toArray 38::AlB A s.top s.cs::blk E (enC A R) 53::L) _:=(hs.pm (M:=EnB E A R s::blk g5 (h2 (i,g)).toArray 40::blk g7 (c3 v).toArray 38::L)).enopen.pm
   have k2:World.cell? _ ⟨g5,0,none⟩=some (.int .i64 i):=Rd.blk (by rfl) _ hs.drop
   (go_wp2_with (first
    | (refine wpl_load3 (v:=v) (g:=g7) rfl (has3_tail (has3_tail (has3_slot (t:=38)))) agg3 size3n hs ?_)
    | (go_at_call 92;refine (rg_set hs HX HEV.out HE HL').mono ?_;clear hs k2;rintro r w ⟨rfl,hs⟩)))
   go_ret
   exact⟨rfl,St.enshut (s:=⟨s.top,s.cs,l'⟩) (hs.pm (M:=blk g5 (h2 (i,g)).toArray 40::blk g7 (c3 v).toArray 38::AlB A s.top s.cs::RgB R l'::blk E (enC A R) 53::L)).drop.drop⟩
 ·have e1:(f==0)=false:=by simpa using h0
  have e2:(f !=0)=true:=by simpa using h0
  have h1:=HV.out
  rw[EnS.set_no (by rw[HL.out];exact h0),HL.out] at h1
  cases h1
  clear HV h0 hev
  go_enter Tryz.func31,Tryz.ntmps31
  (go_wp2_with (first
   | (refine wpl_box_v (v:=hv (i,g)) rfl hs ?_;clear hs;intro g5 w hs;replace hs:St w0 (blk g5 (h2 (i,g)).toArray 40::_) w:=hs)
   | (refine wpl_box_v (v:=val3 v) rfl hs ?_;clear hs;intro g7 w hs)
   | (refine wpl_load_agg (cs:=h2 (i,g)) (b:=g5) (o:=0) rfl aggH (sizeHd _) hs ?hh ?_;case hh=>exact fun j x hx=>(Rd.blk (by simpa using hx)).tail)
   | (go_at_call 80;refine (en_live (h:=(i,g)) hs.drop.drop HL).mono ?_;rintro r w' ⟨rfl,hg⟩;replace hs:=hs.grew hg;clear hg)))
  go_ret
  exact⟨rfl,hs.drop.drop⟩
set_option maxHeartbeats 4000000 in
theorem en_rem {w0 w:World} {L:List As} {E A R:Nat} {s:EnS} (hs:St w0 (EnB E A R s::L) w) (hev:∀ x∈s.l,x.2.evs.length < 4611686018427387904) {h:Hdl} {c:Int} {u:V3} {e:Int} {s':EnS} (HV:Hid (s.rem h c=(u,e,s'))):
  Calls Tryz.prog 27 #[.pointer (some ⟨E,0,none⟩),hv h, .int .i64 c] w fun r w'=>r= .returned (.tuple #[val3 u, .int .i64 e])∧St w0 (EnB E A R s'::L) w':=by
 obtain⟨⟨u1,f⟩,HG⟩:∃ z,Hid (s.get h c=z):=⟨_,rfl⟩
 have hfew:=en_few hs
 obtain⟨i,g⟩:=h
 by_cases h0:f=0
 ·subst h0
  obtain⟨hl0,x,hc,hb,hu,hr⟩:=EnS.rem_in HG.out
  have HW:(Lit.int .i64 i).wf=true:=EnS.live_wf hl0 hfew
  have h1:=HV.out
  rw[hr] at h1
  have hx:=hev _ (EnS.slot_mem hc)
  obtain⟨j,rfl,hj⟩:=EnS.slot_some hc
  obtain⟨X,t⟩:=x
  have HX:=Lib.hid hj
  simp only[Int.toNat_natCast] at h1 hx hb hu
  obtain⟨l',HL'⟩:∃ z,Hid (s.l.set j (X,t.take i)=z):=⟨_,rfl⟩
  have HB:=Lib.hid hb
  have HU:=Lib.hid hu
  rw[HL'.out] at h1
  cases h1
  have HEV:=Lib.hid hx
  clear HV hc hj hev hr hb hu hl0 hx hfew
  go_enter Tryz.func27,Tryz.ntmps27
  go_upto_region 1 with (first
   | (refine wpl_box_v (v:=hv (i,g)) rfl hs ?_;clear hs;intro g4 w hs;replace hs:St w0 (blk g4 (h2 (i,g)).toArray 40::_) w:=hs)
   | (refine wpl_alloc zero3 hs ?_;clear hs;intro g6 w hs))
  go_upto_region 4 with (first
   | (refine wpl_load_agg (cs:=h2 (i,g)) (b:=g4) (o:=0) rfl aggH (sizeHd _) hs ?hh ?_;case hh=>exact fun j x hx=>(Rd.blk (by simpa using hx)).tail)
   | (go_at_call 29;refine (en_get (h:=(i,g)) hs.up2 HG).mono ?_;clear hs;rintro r w ⟨rfl,hs⟩;replace hs:=hs.dn2)
   | (refine wpl_store_agg (v:=val3 u) rfl rfl (size3 _) hs WrA.slot3 ?_;clear hs;intro w hs)
   | (refine wpl_alloc zero3 hs ?_;clear hs;intro g8 w hs;replace hs:St w0 (_::blk g6 (c3 V3.z).toArray 38::_) w:=hs))
  have k1:=Rd.en1 _ hs.drop.drop.drop
  go_upto_region 5 with (first
   | (go_at_call 86;refine (rg_slot hs.drop.drop.drop.enopen.rot HX.out (X:=X) (Lib.hid rfl)).mono ?_;clear k1;rintro r w' ⟨rfl,rfl⟩))
  replace hs:St w0 (RgB R s.l::blk g4 (h2 (i,g)).toArray 40::blk g8 (c3 u).toArray 38::blk g6 (c3 V3.z).toArray 38::AlB A s.top s.cs::blk E (enC A R) 53::L) _:=(hs.pm (M:=EnB E A R s::blk g4 (h2 (i,g)).toArray 40::blk g8 (c3 u).toArray 38::blk g6 (c3 V3.z).toArray 38::L)).enopen.pm
  have k2:World.cell? _ ⟨g4,0,none⟩=some (.int .i64 i):=Rd.blk (by rfl) _ hs.drop
  go_upto_region 6 with (first
   | (go_at_call 90;refine (rg_take hs HX HW HEV.out HU HB HL').mono ?_;clear hs k2;rintro r w ⟨rfl,hs⟩)
   | (refine wpl_alloc zero3 hs ?_;clear hs;intro g12 w hs)
   | (refine wpl_store_agg (v:=val3 u) rfl rfl (size3 _) hs WrA.slot3 ?_;clear hs;intro w hs))
  replace hs:St w0 (blk g6 (c3 V3.z).toArray 38::blk g12 (c3 u).toArray 38::blk g8 (c3 u).toArray 38::blk g4 (h2 (i,g)).toArray 40::AlB A s.top s.cs::RgB R l'::blk E (enC A R) 53::L) _:=hs.pm
  (go_wp2_with (first
   | (refine wpl_load3 (v:=u) (g:=g12) rfl (has3_tail (has3_slot (t:=38))) agg3 size3n hs ?_)
   | (refine wpl_store_agg (v:=val3 u) rfl rfl (size3 _) hs WrA.slot3 ?_;clear hs;intro w hs)))
  refine bodyPost_at (results_cell_tmp Tryz.results27 rfl (hs.slot_run agg3 (size3 _))) rfl ?_
  exact⟨rfl,St.enshut (s:=⟨s.top,s.cs,l'⟩) hs.drop.drop.drop.drop⟩
 ·have e1:(f==0)=false:=by simpa using h0
  have e2:(f !=0)=true:=by simpa using h0
  have h1:=HV.out
  rw[EnS.rem_no HG.out h0] at h1
  cases h1
  clear HV h0 hev hfew
  go_enter Tryz.func27,Tryz.ntmps27
  (go_wp2_with (first
   | (refine wpl_box_v (v:=hv (i,g)) rfl hs ?_;clear hs;intro g4 w hs;replace hs:St w0 (blk g4 (h2 (i,g)).toArray 40::_) w:=hs)
   | (refine wpl_load_agg (cs:=h2 (i,g)) (b:=g4) (o:=0) rfl aggH (sizeHd _) hs ?hh ?_;case hh=>exact fun j x hx=>(Rd.blk (by simpa using hx)).tail)
   | (go_at_call 29;refine (en_get (h:=(i,g)) hs.up2 HG).mono ?_;clear hs;rintro r w ⟨rfl,hs⟩;replace hs:=hs.dn2)
   | (refine wpl_alloc zero3 hs ?_;clear hs;intro g6 w hs)
   | (refine wpl_buildS build3 rfl ?_)
   | (refine wpl_store_agg (v:=val3 u1) rfl rfl (size3 _) hs WrA.slot3 ?_;clear hs;intro w hs)
   | (refine wpl_store_agg (v:=val3 V3.z) rfl rfl (size3 _) hs WrA.slot3.tail ?_;clear hs;intro w hs)))
  refine bodyPost_at (results_cell_tmp Tryz.results27 rfl (hs.rot.slot_run agg3 (size3 _))) rfl ?_
  exact⟨rfl,hs.drop.drop.drop⟩
end
section
open Go Go.RowKit
section
variable {s:EnS} {h:Hdl}
theorem EnS.parts_no (h0:s.live h ≠ 0):s.parts h=([],s.live h):=by unfold EnS.parts;rw[if_neg h0]
theorem EnS.parts_in (h0:s.live h=0):s.parts h=(ofN s.l h.1 s.l.length,0):=by unfold EnS.parts;rw[if_pos h0]
theorem EnS.del_no (h0:s.live h ≠ 0):s.del h=(0,s.live h,s):=by unfold EnS.del;rw[if_neg h0]
theorem EnS.del_in (h0:s.live h=0):s.del h=((((ofN s.l h.1 s.l.length).length:Nat):Int),0,⟨s.top,(delA s.top s.cs h).2,strL s.l h.1⟩):=by unfold EnS.del;rw[if_pos h0]
end
attribute [local irreducible] wpList Calls Code.wp okI okN pS tS memS getG pG insS delS getV pV tV okVal newSl SlS.put SlS.err SlS.putU SlS.putB descE SlS.take SlS.set SlS.errSet SlS.get SlS.has stV EnS.live EnS.get EnS.slot EnS.ins EnS.set EnS.rem EnS.parts EnS.del ofN strL delA
set_option maxHeartbeats 4000000 in
theorem en_parts {w0 w:World} {L:List As} {E A R:Nat} {s:EnS} (hs:St w0 (EnB E A R s::L) w) {h:Hdl} {o:List Nat} {e:Int} (HV:Hid (s.parts h=(o,e))):
  Calls Tryz.prog 33 #[.pointer (some ⟨E,0,none⟩),hv h] w fun r w'=>∃ B m cap,Hid (o.length=m)∧r= .returned (.tuple #[.slice B m cap, .int .i64 e])∧St w0 (own B m cap 3 1 (nsV o)::EnB E A R s::L) w':=by
 obtain⟨f,HL⟩:∃ z,Hid (s.live h=z):=⟨_,rfl⟩
 have hfew:=en_few hs
 obtain⟨i,g⟩:=h
 by_cases h0:f=0
 ·subst h0
  have HW:(Lit.int .i64 i).wf=true:=EnS.live_wf HL.out hfew
  have h1:=HV.out
  rw[EnS.parts_in HL.out] at h1
  injection h1 with h1 h2
  subst h2
  have HO:=Lib.hid h1
  clear HV h1 hfew
  go_enter Tryz.func33,Tryz.ntmps33
  go_upto_region 4 with (first
   | (refine wpl_box_v (v:=hv (i,g)) rfl hs ?_;clear hs;intro g3 w hs;replace hs:St w0 (blk g3 (h2 (i,g)).toArray 40::_) w:=hs)
   | (refine wpl_load_agg (cs:=h2 (i,g)) (b:=g3) (o:=0) rfl aggH (sizeHd _) hs ?hh ?_;case hh=>exact fun j x hx=>(Rd.blk (by simpa using hx)))
   | (go_at_call 80;refine (en_live (h:=(i,g)) hs.drop HL).mono ?_;rintro r w' ⟨rfl,hg⟩;replace hs:=hs.grew hg;clear hg))
  replace hs:St w0 (blk E (enC A R) 53::blk g3 (h2 (i,g)).toArray 40::RgB R s.l::AlB A s.top s.cs::L) _:=(hs.rot.enopen).pm
  have r0:=((Rd.blk (w0:=w0) (g:=E) (k:=0) (cs:=enC A R) (v:= .pointer (some ⟨A,0,none⟩)) (t:=53) (L:=[blk g3 (h2 (i,g)).toArray 40]) (by rfl))).alln
  have r1:=((Rd.blk (w0:=w0) (g:=E) (k:=1) (cs:=enC A R) (v:= .pointer (some ⟨R,0,none⟩)) (t:=53) (L:=[blk g3 (h2 (i,g)).toArray 40]) (by rfl))).alln
  have r2:=((Rd.blk (w0:=w0) (g:=g3) (k:=0) (cs:=(h2 (i,g)).toArray) (v:= .int .i64 i) (t:=40) (L:=[]) (by rfl)).tail (p:=blk E (enC A R) 53)).alln
  have r3:=((Rd.blk (w0:=w0) (g:=g3) (k:=1) (cs:=(h2 (i,g)).toArray) (v:= .int .i64 g) (t:=40) (L:=[]) (by rfl)).tail (p:=blk E (enC A R) 53)).alln
  refine wp_region_plain [false,false,false,false,false,false,false,true,true,true] hs.only2 (by kernel_rfl) (by kernel_rfl) fun hne=>?_
  simp only[pickOps]
  repeat (go_big_quiet_step (fail))
  refine wpQuiet_nil ?_
  clear hne r0 r1 r2 r3
  simp only[chainIx]
  replace hs:=hs.drew
  refine wpChainP_next rfl ?_
  (go_wp2_with (first
   | (go_at_call 94;refine (rg_of hs.up2 HW HO).mono ?_;clear hs;rintro r w ⟨B,m,cap,hm,rfl,hs⟩;replace hs:St w0 (blk E (enC A R) 53::blk g3 (h2 (i,g)).toArray 40::RgB R s.l::AlB A s.top s.cs::own B m cap 3 1 (nsV o)::L) w:=hs.pm)))
  refine⟨hs.only2,?_⟩
  refine wpChainP_next rfl ?_
  go_wp2
  refine⟨hs.only2,?_⟩
  refine wpChain_last rfl ?_
  go_wp2
  go_ret2
  exact⟨B,m,cap,hm,rfl,(St.enshut (hs.pm (M:=blk g3 (h2 (i,g)).toArray 40::AlB A s.top s.cs::RgB R s.l::blk E (enC A R) 53::own B m cap 3 1 (nsV o)::L)).drop).rot⟩
 ·have h1:=HV.out
  rw[EnS.parts_no (by rw[HL.out];exact h0),HL.out] at h1
  injection h1 with h1 h2
  subst h1
  subst h2
  clear HV hfew
  have e1:(f==0)=false:=by simpa using h0
  have e2:(f !=0)=true:=by simpa using h0
  clear h0
  go_enter Tryz.func33,Tryz.ntmps33
  (go_wp2_with (first
   | (refine wpl_box_v (v:=hv (i,g)) rfl hs ?_;clear hs;intro g3 w hs;replace hs:St w0 (blk g3 (h2 (i,g)).toArray 40::_) w:=hs)
   | (refine wpl_load_agg (cs:=h2 (i,g)) (b:=g3) (o:=0) rfl aggH (sizeHd _) hs ?hh ?_;case hh=>exact fun j x hx=>(Rd.blk (by simpa using hx)))
   | (go_at_call 80;refine (en_live (h:=(i,g)) hs.drop HL).mono ?_;rintro r w' ⟨rfl,hg⟩;replace hs:=hs.grew hg;clear hg)))
  go_ret2
  exact⟨none,0,0,rfl,rfl,hs.drop.own_nil 3 1⟩
set_option maxHeartbeats 4000000 in
theorem en_del {w0 w:World} {L:List As} {E A R:Nat} {s:EnS} (hs:St w0 (EnB E A R s::L) w) (hev:∀ x∈s.l,x.2.evs.length < 4611686018427387904) {h:Hdl} {n e:Int} {s':EnS} (HV:Hid (s.del h=(n,e,s'))):
  Calls Tryz.prog 23 #[.pointer (some ⟨E,0,none⟩),hv h] w fun r w'=>r= .returned (.tuple #[.int .i64 n, .int .i64 e])∧St w0 (EnB E A R s'::L) w':=by
 obtain⟨f,HL⟩:∃ z,Hid (s.live h=z):=⟨_,rfl⟩
 have hfew:=en_few hs
 obtain⟨i,g⟩:=h
 by_cases h0:f=0
 ·subst h0
  have HW:(Lit.int .i64 i).wf=true:=EnS.live_wf HL.out hfew
  have h1:=HV.out
  rw[EnS.del_in HL.out] at h1
  obtain⟨⟨x,c⟩,HD⟩:∃ z,Hid (delA s.top s.cs (i,g)=z):=⟨_,rfl⟩
  obtain⟨m,HM⟩:∃ z,Hid ((ofN s.l i s.l.length).length=z):=⟨_,rfl⟩
  obtain⟨l',HL'⟩:∃ z,Hid (strL s.l i=z):=⟨_,rfl⟩
  rw[HD.out] at h1
  simp only at h1
  rw[HM.out,HL'.out] at h1
  cases h1
  have HEV:=Lib.hid hev
  clear HV hfew hev
  go_enter Tryz.func23,Tryz.ntmps23
  go_upto_region 4 with (first
   | (refine wpl_box_v (v:=hv (i,g)) rfl hs ?_;clear hs;intro g3 w hs;replace hs:St w0 (blk g3 (h2 (i,g)).toArray 40::_) w:=hs)
   | (refine wpl_load_agg (cs:=h2 (i,g)) (b:=g3) (o:=0) rfl aggH (sizeHd _) hs ?hh ?_;case hh=>exact fun j x hx=>(Rd.blk (by simpa using hx)))
   | (go_at_call 80;refine (en_live (h:=(i,g)) hs.drop HL).mono ?_;rintro r w' ⟨rfl,hg⟩;replace hs:=hs.grew hg;clear hg))
  replace hs:St w0 (blk E (enC A R) 53::blk g3 (h2 (i,g)).toArray 40::RgB R s.l::AlB A s.top s.cs::L) _:=(hs.rot.enopen).pm
  have r0:=((Rd.blk (w0:=w0) (g:=E) (k:=0) (cs:=enC A R) (v:= .pointer (some ⟨A,0,none⟩)) (t:=53) (L:=[blk g3 (h2 (i,g)).toArray 40]) (by rfl))).alln
  have r1:=((Rd.blk (w0:=w0) (g:=E) (k:=1) (cs:=enC A R) (v:= .pointer (some ⟨R,0,none⟩)) (t:=53) (L:=[blk g3 (h2 (i,g)).toArray 40]) (by rfl))).alln
  have r2:=((Rd.blk (w0:=w0) (g:=g3) (k:=0) (cs:=(h2 (i,g)).toArray) (v:= .int .i64 i) (t:=40) (L:=[]) (by rfl)).tail (p:=blk E (enC A R) 53)).alln
  have r3:=((Rd.blk (w0:=w0) (g:=g3) (k:=1) (cs:=(h2 (i,g)).toArray) (v:= .int .i64 g) (t:=40) (L:=[]) (by rfl)).tail (p:=blk E (enC A R) 53)).alln
  refine wp_region_plain [false,false,false,false,false,false,false,true,true] hs.only2 (by kernel_rfl) (by kernel_rfl) fun hne=>?_
  simp only[pickOps]
  repeat (go_big_quiet_step (fail))
  refine wpQuiet_nil ?_
  clear hne
  simp only[chainIx]
  replace hs:=hs.drew
  refine wpChainP_next rfl ?_
  (go_wp2_with (first
   | (go_at_call 81;refine (rg_strip hs.up2 HW HEV.out HM HL').mono ?_;clear hs;rintro r w ⟨rfl,hs⟩;replace hs:=hs.dn2)))
  refine⟨hs.only2,?_⟩
  refine wpChain_last rfl ?_
  go_upto_region 5 with (fail)
  refine wp_region_plain [false,false,false,false,false,false,true] hs.only2 (by kernel_rfl) (by kernel_rfl) fun hne=>?_
  simp only[pickOps]
  repeat (go_big_quiet_step (fail))
  refine wpQuiet_nil ?_
  clear hne r0 r1 r2 r3
  simp only[chainIx]
  replace hs:=hs.drew
  refine wpChain_last rfl ?_
  (go_wp2_with (first
   | (go_at_call 82;refine (delete_c hs.up3 HD).mono ?_;clear hs;rintro r w ⟨rfl,hs⟩;replace hs:=hs.dn3)))
  go_ret2
  exact⟨rfl,St.enshut (s:=⟨s.top,c,l'⟩) (hs.pm (M:=blk g3 (h2 (i,g)).toArray 40::AlB A s.top c::RgB R l'::blk E (enC A R) 53::L)).drop⟩
 ·have h1:=HV.out
  rw[EnS.del_no (by rw[HL.out];exact h0),HL.out] at h1
  injection h1 with h1 h2
  injection h2 with h2 h3
  subst h1
  subst h2
  subst h3
  clear HV hfew hev
  have e1:(f==0)=false:=by simpa using h0
  have e2:(f !=0)=true:=by simpa using h0
  clear h0
  go_enter Tryz.func23,Tryz.ntmps23
  (go_wp2_with (first
   | (refine wpl_box_v (v:=hv (i,g)) rfl hs ?_;clear hs;intro g3 w hs;replace hs:St w0 (blk g3 (h2 (i,g)).toArray 40::_) w:=hs)
   | (refine wpl_load_agg (cs:=h2 (i,g)) (b:=g3) (o:=0) rfl aggH (sizeHd _) hs ?hh ?_;case hh=>exact fun j x hx=>(Rd.blk (by simpa using hx)))
   | (go_at_call 80;refine (en_live (h:=(i,g)) hs.drop HL).mono ?_;rintro r w' ⟨rfl,hg⟩;replace hs:=hs.grew hg;clear hg)))
  go_ret2
  exact⟨rfl,hs.drop⟩
end
end Go.Proofs.YtiafdlofcjbllaaGreatDoor
