/-
  A world in memory (world.World): Reader, Read.
-/
import Derived.Test.YtiafdlofcjbllaaGreatDoorZW2
import Derived.Test.YtiafdlofcjbllaaGreatDoorZL
set_option maxRecDepth 100000
namespace Go.Proofs.YtiafdlofcjbllaaGreatDoor
section
open Go Go.RowKit
attribute [local irreducible] wpList Calls Code.wp stV EnS.live EnS.slot okI okN pS tS memS getG pG insS delS getV pV tV okVal newSl SlS.put SlS.err SlS.putU SlS.putB descE SlS.take SlS.set SlS.errSet SlS.get SlS.has WoS.reader WoS.read newE lagE
theorem fl_reader_many {w0 w:World} {L:List As} {F bd:Nat} {evs:List Ev} {rds:List Nat} (hs:St w0 (FlB F bd evs rds::L) w) (hr:¬ rds.length < 100):
  Calls Tryz.prog 114 #[.pointer (some ⟨F,0,none⟩)] w fun e w'=>e= .returned (.tuple #[.int .i64 0, .int .i64 2])∧w=w':=by
 obtain⟨A,cap,B,cap2,hok,hs⟩:=hs.flopen
 obtain⟨m,hm⟩:∃ m,Hid (rds.length=m):=⟨_,rfl⟩
 obtain⟨nt,hnt⟩:∃ nt,Hid (evs.length=nt):=⟨_,rfl⟩
 obtain⟨n,hn⟩:∃ n,Hid ((lastE bd evs).length=n):=⟨_,rfl⟩
 rw[hm.out] at hr
 have hr2:¬ (m:Int) < 100:=by omega
 rw[hm.out,hnt.out,hn.out] at hs
 have hc3:=Rd.fl3 _ hs
 clear hok hs
 go_enter Tryz.func114,Tryz.ntmps114
 go_wp2
 go_ret2
 exact⟨rfl,rfl⟩
section
variable {w0 w:World} {L:List As} {R:Nat} {l:List Cmp} {c:Nat} {X:Nat} {t:SlS}
theorem flagOf_e {w:World} {p:Value} {e:Int} (h0:Hid (e ≠ 0)):Calls Tryz.prog 113 #[p, .int .i64 e] w fun r w'=>r= .returned (.tuple #[.pointer none, .int .i64 e])∧w=w':=by
 have e1:(e==0)=false:=by simpa using h0.out
 have e2:(e !=0)=true:=by simpa using h0.out
 go_enter Tryz.func113,Tryz.ntmps113
 go_wp2
 go_ret2
 exact⟨rfl,rfl⟩
theorem flagOf_n (hs:St w0 (RgB R l::L) w) (hc:Hid (l[c]? =some (X,t))) (hF:t.F=none):Calls Tryz.prog 113 #[.pointer (some ⟨X,0,none⟩), .int .i64 0] w fun r w'=>r= .returned (.tuple #[.pointer none, .int .i64 14])∧w=w':=by
 have HB:=Lib.hid (rg_flag hs hc (p:= .pointer none) (by rw[Hid,hF];rfl))
 clear hs hc hF
 go_enter Tryz.func113,Tryz.ntmps113
 go_wp2_with (first
  | (go_at_call 150;refine HB.out.mono ?_;rintro r w' ⟨rfl,rfl⟩))
 go_ret2
 exact⟨rfl,rfl⟩
theorem flagOf_f (hs:St w0 (RgB R l::L) w) (hc:Hid (l[c]? =some (X,t))) {f:Nat} (hF:t.F=some f):Calls Tryz.prog 113 #[.pointer (some ⟨X,0,none⟩), .int .i64 0] w fun r w'=>r= .returned (.tuple #[.pointer (some ⟨f,0,none⟩), .int .i64 0])∧w=w':=by
 have HB:=Lib.hid (rg_flag hs hc (p:= .pointer (some ⟨f,0,none⟩)) (by rw[Hid,hF];rfl))
 clear hs hc hF
 go_enter Tryz.func113,Tryz.ntmps113
 go_wp2_with (first
  | (go_at_call 150;refine HB.out.mono ?_;rintro r w' ⟨rfl,rfl⟩))
 go_ret2
 exact⟨rfl,rfl⟩
theorem rg_reader_many (hs:St w0 (RgB R l::L) w) (hc:Hid (l[c]? =some (X,t))) {f:Nat} (hF:t.F=some f) (hr:¬ t.rds.length < 100):
  Calls Tryz.prog 114 #[.pointer (some ⟨f,0,none⟩)] w fun e w'=>e= .returned (.tuple #[.int .i64 0, .int .i64 2])∧w=w':=by
 obtain⟨T,h,_⟩:=hs.rgAt hc.out
 obtain⟨R2,h1,_⟩:=h.slfl hF
 exact fl_reader_many h1 hr
theorem rg_read_no (hs:St w0 (RgB R l::L) w) (hc:Hid (l[c]? =some (X,t))) {f:Nat} (hF:t.F=some f) {r:Int} (hr:r < 0∨(t.rds.length:Int)≤r):
  Calls Tryz.prog 115 #[.pointer (some ⟨f,0,none⟩), .int .i64 r] w fun e w'=>e= .returned (.tuple #[.slice none 0 0, .bool false, .int .i64 8])∧w=w':=by
 obtain⟨T,h,_⟩:=hs.rgAt hc.out
 obtain⟨R2,h1,_⟩:=h.slfl hF
 exact fl_read_no h1 hr
end
set_option maxHeartbeats 4000000 in
theorem wo_reader {w0 w:World} {L:List As} {W E A R X Q n:Nat} {s:WoS} (hs:St w0 (WoB W E A R X Q n s::L) w) {c m x:Int} {s':WoS} (HV:Hid (s.reader c=(m,x,s'))):
  Calls Tryz.prog 59 #[.pointer (some ⟨W,0,none⟩), .int .i64 c] w fun r w'=>r= .returned (.tuple #[.int .i64 m, .int .i64 x])∧St w0 (WoB W E A R X Q n s'::L) w':=by
 obtain⟨f,HM⟩:∃ z,Hid (s.free=z):=⟨_,rfl⟩
 by_cases h0:f=0
 ·subst h0
  cases hc:s.e.slot c with
  | none=>
   have h1:=HV.out
   rw[WoS.reader_comp HM.out hc] at h1
   cases h1
   have hno:=EnS.slot_none hc
   clear HV hc
   have HFR:=Lib.hid (wofree_c hs)
   rw[HM.out] at HFR
   replace hs:=hs.woopen
   go_enter Tryz.func59,Tryz.ntmps59
   go_wp2_with (first
    | (go_at_call 104;refine HFR.out.mono ?_;rintro r w' ⟨rfl,hg⟩;replace hs:=hs.grew hg;have kW:=Rd.blk (k:=0) (v:= .pointer (some ⟨E,0,none⟩)) (by rfl) _ hs;have k1:=Rd.en1 _ hs.drop)
    | (go_at_call 86;refine (rg_slot_no hs.drop.enopen.rot hno).mono ?_;clear kW k1 hno;rintro r w' ⟨rfl,rfl⟩)
    | (go_at_call 113;refine (flagOf_e (by rw[Hid];decide)).mono ?_;rintro r w' ⟨rfl,rfl⟩))
   go_ret2
   exact⟨rfl,hs.woshut⟩
  | some y=>
   obtain⟨j,rfl,hj⟩:=EnS.slot_some hc
   obtain⟨Y,t⟩:=y
   have HX:=Lib.hid hj
   cases hF:t.F with
   | none=>
    have h1:=HV.out
    rw[WoS.reader_flag HM.out hc hF] at h1
    cases h1
    have HF:=Lib.hid hF
    clear HV hc hj hF
    have HFR:=Lib.hid (wofree_c hs)
    rw[HM.out] at HFR
    replace hs:=hs.woopen
    go_enter Tryz.func59,Tryz.ntmps59
    go_wp2_with (first
     | (go_at_call 104;refine HFR.out.mono ?_;rintro r w' ⟨rfl,hg⟩;replace hs:=hs.grew hg;have kW:=Rd.blk (k:=0) (v:= .pointer (some ⟨E,0,none⟩)) (by rfl) _ hs;have k1:=Rd.en1 _ hs.drop)
     | (go_at_call 86;refine (rg_slot hs.drop.enopen.rot HX.out (X:=Y) (Lib.hid rfl)).mono ?_;clear kW k1;rintro r w' ⟨rfl,rfl⟩)
     | (go_at_call 113;refine (flagOf_n hs.drop.enopen.rot HX HF.out).mono ?_;rintro r w' ⟨rfl,rfl⟩))
    go_ret2
    exact⟨rfl,hs.woshut⟩
   | some q=>
    have HF:=Lib.hid hF
    by_cases hr:t.rds.length < 100
    ·have h1:=HV.out
     rw[WoS.reader_ok HM.out hj hF hr] at h1
     obtain⟨k,HK⟩:∃ z,Hid (t.rds.length=z):=⟨_,rfl⟩
     obtain⟨l',HL'⟩:∃ z,Hid (s.e.l.set j (Y,{ t with rds:=t.rds++[t.evs.length] })=z):=⟨_,rfl⟩
     rw[HK.out,HL'.out] at h1
     cases h1
     have HRD:=Lib.hid hr
     clear HV hc hj hF hr
     have HFR:=Lib.hid (wofree_c hs)
     rw[HM.out] at HFR
     replace hs:=hs.woopen
     go_enter Tryz.func59,Tryz.ntmps59
     go_wp2_with (first
      | (go_at_call 104;refine HFR.out.mono ?_;rintro r w' ⟨rfl,hg⟩;replace hs:=hs.grew hg;have kW:=Rd.blk (k:=0) (v:= .pointer (some ⟨E,0,none⟩)) (by rfl) _ hs;have k1:=Rd.en1 _ hs.drop)
      | (go_at_call 86;refine (rg_slot hs.drop.enopen.rot HX.out (X:=Y) (Lib.hid rfl)).mono ?_;rintro r w' ⟨rfl,rfl⟩)
      | (go_at_call 113;refine (flagOf_f hs.drop.enopen.rot HX HF.out).mono ?_;rintro r w' ⟨rfl,rfl⟩)
      | (go_at_call 114;refine (rg_reader hs.rot.enopen.rot HX HF.out HRD.out HK HL').mono ?_;clear hs kW k1;rintro r w ⟨rfl,hs⟩))
     go_ret2
     exact⟨rfl,St.woshut (s:={ s with e:=⟨s.e.top,s.e.cs,l'⟩ }) (St.enshut (s:=⟨s.e.top,s.e.cs,l'⟩) hs.rot).rot⟩
    ·have h1:=HV.out
     rw[WoS.reader_many HM.out hc hF hr] at h1
     cases h1
     have HRD:=Lib.hid hr
     clear HV hc hj hF hr
     have HFR:=Lib.hid (wofree_c hs)
     rw[HM.out] at HFR
     replace hs:=hs.woopen
     go_enter Tryz.func59,Tryz.ntmps59
     go_wp2_with (first
      | (go_at_call 104;refine HFR.out.mono ?_;rintro r w' ⟨rfl,hg⟩;replace hs:=hs.grew hg;have kW:=Rd.blk (k:=0) (v:= .pointer (some ⟨E,0,none⟩)) (by rfl) _ hs;have k1:=Rd.en1 _ hs.drop)
      | (go_at_call 86;refine (rg_slot hs.drop.enopen.rot HX.out (X:=Y) (Lib.hid rfl)).mono ?_;rintro r w' ⟨rfl,rfl⟩)
      | (go_at_call 113;refine (flagOf_f hs.drop.enopen.rot HX HF.out).mono ?_;rintro r w' ⟨rfl,rfl⟩)
      | (go_at_call 114;refine (rg_reader_many hs.drop.enopen.rot HX HF.out HRD.out).mono ?_;rintro r w' ⟨rfl,rfl⟩))
     go_ret2
     exact⟨rfl,hs.woshut⟩
 ·have e1:(f==0)=false:=by simpa using h0
  have e2:(f !=0)=true:=by simpa using h0
  have h1:=HV.out
  rw[WoS.reader_bad (by rw[HM.out];exact h0),HM.out] at h1
  cases h1
  have HFR:=Lib.hid (wofree_c hs)
  rw[HM.out] at HFR
  clear HV h0
  go_enter Tryz.func59,Tryz.ntmps59
  go_wp2_with (first
   | (go_at_call 104;refine HFR.out.mono ?_;rintro r w' ⟨rfl,hg⟩;replace hs:=hs.grew hg))
  go_ret2
  exact⟨rfl,hs⟩
set_option maxHeartbeats 4000000 in
theorem wo_read {w0 w:World} {L:List As} {W E A R X Q n:Nat} {s:WoS} (hs:St w0 (WoB W E A R X Q n s::L) w) (hev:∀ x∈s.e.l,x.2.evs.length < 4611686018427387904) {c r x:Int} {ev:List Ev} {b:Bool} {s':WoS} (HV:Hid (s.read c r=(ev,b,x,s'))):
  Calls Tryz.prog 60 #[.pointer (some ⟨W,0,none⟩), .int .i64 c, .int .i64 r] w fun e w'=>∃ D m cap,Hid (ev.length=m)∧e= .returned (.tuple #[.slice D m cap, .bool b, .int .i64 x])∧St w0 (own D m cap 121 2 (es2 ev)::WoB W E A R X Q n s'::L) w':=by
 cases hc:s.e.slot c with
 | none=>
  have h1:=HV.out
  rw[WoS.read_comp hc] at h1
  cases h1
  have hno:=EnS.slot_none hc
  clear HV hc hev
  replace hs:=hs.woopen
  have kW:=Rd.blk (k:=0) (v:= .pointer (some ⟨E,0,none⟩)) (by rfl) _ hs
  have k1:=Rd.en1 _ hs.drop
  go_enter Tryz.func60,Tryz.ntmps60
  go_wp2_with (first
   | (go_at_call 86;refine (rg_slot_no hs.drop.enopen.rot hno).mono ?_;clear hno;rintro r w' ⟨rfl,rfl⟩)
   | (go_at_call 113;refine (flagOf_e (by rw[Hid];decide)).mono ?_;rintro r w' ⟨rfl,rfl⟩))
  go_ret3
  exact⟨none,0,0,rfl,rfl,hs.woshut.own_nil _ _⟩
 | some y=>
  obtain⟨j,rfl,hj⟩:=EnS.slot_some hc
  obtain⟨Y,t⟩:=y
  have HX:=Lib.hid hj
  cases hF:t.F with
  | none=>
   have h1:=HV.out
   rw[WoS.read_flag hc hF] at h1
   cases h1
   have HF:=Lib.hid hF
   clear HV hc hj hF hev
   replace hs:=hs.woopen
   have kW:=Rd.blk (k:=0) (v:= .pointer (some ⟨E,0,none⟩)) (by rfl) _ hs
   have k1:=Rd.en1 _ hs.drop
   go_enter Tryz.func60,Tryz.ntmps60
   go_wp2_with (first
    | (go_at_call 86;refine (rg_slot hs.drop.enopen.rot HX.out (X:=Y) (Lib.hid rfl)).mono ?_;rintro r w' ⟨rfl,rfl⟩)
    | (go_at_call 113;refine (flagOf_n hs.drop.enopen.rot HX HF.out).mono ?_;rintro r w' ⟨rfl,rfl⟩))
   go_ret3
   exact⟨none,0,0,rfl,rfl,hs.woshut.own_nil _ _⟩
  | some q=>
   have HF:=Lib.hid hF
   by_cases hr:r < 0∨(t.rds.length:Int)≤r
   ·have h1:=HV.out
    rw[WoS.read_no hc hF hr] at h1
    cases h1
    have HRD:=Lib.hid hr
    clear HV hc hj hF hr hev
    replace hs:=hs.woopen
    have kW:=Rd.blk (k:=0) (v:= .pointer (some ⟨E,0,none⟩)) (by rfl) _ hs
    have k1:=Rd.en1 _ hs.drop
    go_enter Tryz.func60,Tryz.ntmps60
    go_wp2_with (first
     | (go_at_call 86;refine (rg_slot hs.drop.enopen.rot HX.out (X:=Y) (Lib.hid rfl)).mono ?_;rintro r w' ⟨rfl,rfl⟩)
     | (go_at_call 113;refine (flagOf_f hs.drop.enopen.rot HX HF.out).mono ?_;rintro r w' ⟨rfl,rfl⟩)
     | (go_at_call 115;refine (rg_read_no hs.drop.enopen.rot HX HF.out HRD.out).mono ?_;rintro r w' ⟨rfl,rfl⟩))
    go_ret3
    exact⟨none,0,0,rfl,rfl,hs.woshut.own_nil _ _⟩
   ·obtain⟨i,rfl⟩:=Int.eq_ofNat_of_zero_le (show 0≤r by omega)
    obtain⟨k,hk⟩:∃ k,t.rds[i]? =some k:=⟨_,List.getElem?_eq_getElem (by omega)⟩
    have h1:=HV.out
    rw[WoS.read_ok hj hF hk] at h1
    have hx:=hev _ (List.mem_of_getElem? hj)
    obtain⟨ev2,HN⟩:∃ z,Hid (newE t.d.b.toNat t.evs k=z):=⟨_,rfl⟩
    obtain⟨b2,HB⟩:∃ z,Hid (lagE t.d.b.toNat t.evs k=z):=⟨_,rfl⟩
    obtain⟨l',HL'⟩:∃ z,Hid (s.e.l.set j (Y,{ t with rds:=t.rds.set i t.evs.length })=z):=⟨_,rfl⟩
    rw[HN.out,HB.out,HL'.out] at h1
    cases h1
    have HEV:Hid (t.evs.length < 4611686018427387904):=hx
    have HRD:=Lib.hid hk
    clear HV hc hj hF hr hev hk hx
    replace hs:=hs.woopen
    have kW:=Rd.blk (k:=0) (v:= .pointer (some ⟨E,0,none⟩)) (by rfl) _ hs
    have k1:=Rd.en1 _ hs.drop
    go_enter Tryz.func60,Tryz.ntmps60
    go_wp2_with (first
     | (go_at_call 86;refine (rg_slot hs.drop.enopen.rot HX.out (X:=Y) (Lib.hid rfl)).mono ?_;rintro r w' ⟨rfl,rfl⟩)
     | (go_at_call 113;refine (flagOf_f hs.drop.enopen.rot HX HF.out).mono ?_;rintro r w' ⟨rfl,rfl⟩)
     | (go_at_call 115;refine (rg_read hs.rot.enopen.rot HX HF.out HRD.out HEV.out HB HN HL').mono ?_;clear hs kW k1;rintro r w ⟨D,cap,m,hm,rfl,hs⟩))
    go_ret3
    exact⟨D,m,cap,hm,rfl,(St.woshut (s:={ s with e:=⟨s.e.top,s.e.cs,l'⟩ }) (St.enshut (s:=⟨s.e.top,s.e.cs,l'⟩) (hs.pm (M:=AlB A s.e.top s.e.cs::RgB R l'::blk E (enC A R) 53::blk W (woC E X Q s.held n s.e.top) 132::ReB X s.r::QuB Q s.q::own D m cap 121 2 (es2 ev)::L))).rot).rot⟩
end
end Go.Proofs.YtiafdlofcjbllaaGreatDoor
