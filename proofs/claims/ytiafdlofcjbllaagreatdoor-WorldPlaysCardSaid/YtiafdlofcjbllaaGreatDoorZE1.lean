/-
  Things with parts (ent.Ents), 1: what its calls answer and leave behind. No function of the program is walked here.
-/
import Derived.Test.YtiafdlofcjbllaaGreatDoorZV
import Derived.Test.YtiafdlofcjbllaaGreatDoorZW
import Derived.Deep.DeepCutAuto
import Derived.Deep.CutBlock
import Derived.Deep.CutRange
set_option maxRecDepth 100000
namespace Go.Proofs.YtiafdlofcjbllaaGreatDoor
section
open Go Go.RowKit
structure EnS where
 top:Int
 cs:List ACell
 l:List Cmp
def EnS.live (s:EnS) (h:Hdl):Int:=if stV s.cs h=0 then 4 else if stV s.cs h=2 then 5 else 0
def EnS.slot (s:EnS) (c:Int):Option Cmp:=if 0≤c then s.l[c.toNat]? else none
def EnS.del (s:EnS) (h:Hdl):Int × Int × EnS:=if s.live h=0 then (((ofN s.l h.1 s.l.length).length:Nat),0,⟨s.top,(delA s.top s.cs h).2,strL s.l h.1⟩) else (0,s.live h,s)
def EnS.ins (s:EnS) (h:Hdl) (c:Int) (v:V3):V3 × Bool × Int × EnS:=if s.live h=0 then (match s.slot c with
 | some x=>(x.2.putU h.1 v,x.2.putB h.1 v,x.2.err h.1 v,⟨s.top,s.cs,s.l.set c.toNat (x.1,x.2.put h.1 v)⟩)
 | none=>(V3.z,false,11,s)) else (V3.z,false,s.live h,s)
def EnS.get (s:EnS) (h:Hdl) (c:Int):V3 × Int:=if s.live h=0 then (match s.slot c with
 | some x=>if x.2.has h.1 then (x.2.get h.1,0) else (V3.z,10)
 | none=>(V3.z,11)) else (V3.z,s.live h)
def EnS.rem (s:EnS) (h:Hdl) (c:Int):V3 × Int × EnS:=if s.live h=0 then (match s.slot c with
 | some x=>if x.2.has h.1 then (x.2.get h.1,0,⟨s.top,s.cs,s.l.set c.toNat (x.1,x.2.take h.1)⟩) else (V3.z,10,s)
 | none=>(V3.z,11,s)) else (V3.z,s.live h,s)
def EnS.set (s:EnS) (h:Hdl) (c:Int) (v:V3):Int × EnS:=if s.live h=0 then (match s.slot c with
 | some x=>(x.2.errSet h.1 v,⟨s.top,s.cs,s.l.set c.toNat (x.1,x.2.set h.1 v)⟩)
 | none=>(11,s)) else (s.live h,s)
def EnS.parts (s:EnS) (h:Hdl):List Nat × Int:=if s.live h=0 then (ofN s.l h.1 s.l.length,0) else ([],s.live h)
def EvL (k:Nat) (l:List Cmp):Prop:=∀ x∈l,x.2.evs.length≤k
section
variable {s:EnS} {h:Hdl} {c:Int} {v:V3} {k:Nat}
theorem EnS.live_cases (s:EnS) (h:Hdl):s.live h=0∨s.live h=4∨s.live h=5:=by
 unfold EnS.live
 split
 ·exact .inr (.inl rfl)
 ·split
  ·exact .inr (.inr rfl)
  ·exact .inl rfl
theorem EnS.live_zero:s.live h=0↔stV s.cs h=1:=by
 unfold EnS.live
 rcases stV_cases s.cs h with e | e | e <;> simp[e]
theorem EnS.live_wf (h0:s.live h=0) (hl:s.cs.length≤65536):(Lit.int .i64 h.1).wf=true:=by
 obtain⟨j,h1,h2,_⟩:=stV_one (EnS.live_zero.1 h0)
 rw[h1]
 exact wf_nat (by omega)
theorem EnS.slot_none (h0:s.slot c=none):c < 0∨(s.l.length:Int)≤c:=by
 unfold EnS.slot at h0
 split at h0
 ·have:=List.getElem?_eq_none_iff.1 h0
  omega
 ·omega
theorem EnS.slot_some {x:Cmp} (h0:s.slot c=some x):∃ j:Nat,c=(j:Int)∧s.l[j]? =some x:=by
 unfold EnS.slot at h0
 split at h0
 ·exact⟨c.toNat,by omega,h0⟩
 ·cases h0
theorem EnS.slot_nat {j:Nat}:s.slot (j:Int)=s.l[j]? :=by
 unfold EnS.slot
 rw[if_pos (by omega)]
 rfl
theorem EvL.set {l:List Cmp} (h:EvL k l) {j:Nat} {x:Cmp} (hx:x.2.evs.length≤k):EvL k (l.set j x):=fun y hy=>by
 rcases List.mem_or_eq_of_mem_set hy with h1 | rfl
 ·exact h y h1
 ·exact hx
theorem EvL.more {l:List Cmp} (h:EvL k l):EvL (k+1) l:=fun y hy=>Nat.le_succ_of_le (h y hy)
theorem EvL.strip {l:List Cmp} (h:EvL k l) (i:Int):EvL (k+1) (strL l i):=fun y hy=>by
 obtain⟨x,hx,rfl⟩:=List.mem_map.1 hy
 have:=h x hx
 have:=SlS.take_len x.2 i
 show (x.2.take i).evs.length≤_
 omega
theorem EnS.slot_mem {x:Cmp} (h0:s.slot c=some x):x∈s.l:=by
 obtain⟨j,_,h1⟩:=EnS.slot_some h0
 exact List.mem_of_getElem? h1
theorem EvL.ins (h0:EvL k s.l):EvL (k+1) (s.ins h c v).2.2.2.l:=by
 unfold EnS.ins
 split
 ·split
  ·rename_i x hx
   have:=h0 x (EnS.slot_mem hx)
   have:=SlS.put_len x.2 h.1 v
   exact h0.more.set (by show (x.2.put h.1 v).evs.length≤_;omega)
  ·exact h0.more
 ·exact h0.more
theorem EvL.rem (h0:EvL k s.l):EvL (k+1) (s.rem h c).2.2.l:=by
 unfold EnS.rem
 split
 ·split
  ·rename_i x hx
   split
   ·have:=h0 x (EnS.slot_mem hx)
    have:=SlS.take_len x.2 h.1
    exact h0.more.set (by show (x.2.take h.1).evs.length≤_;omega)
   ·exact h0.more
  ·exact h0.more
 ·exact h0.more
theorem EvL.sets (h0:EvL k s.l):EvL (k+1) (s.set h c v).2.l:=by
 unfold EnS.set
 split
 ·split
  ·rename_i x hx
   have:=h0 x (EnS.slot_mem hx)
   have:=SlS.set_len x.2 h.1 v
   exact h0.more.set (by show (x.2.set h.1 v).evs.length≤_;omega)
  ·exact h0.more
 ·exact h0.more
theorem EvL.del (h0:EvL k s.l):EvL (k+1) (s.del h).2.2.l:=by
 unfold EnS.del
 split
 ·exact h0.strip _
 ·exact h0.more
theorem EvL.lt {l:List Cmp} (h:EvL k l) (hk:k < 4000000000):∀ x∈l,x.2.evs.length < 4611686018427387904:=fun x hx=>by
 have:=h x hx
 omega
end
end
section
open Go Go.RowKit
def enC (A R:Nat):Array Value:=#[.pointer (some ⟨A,0,none⟩), .pointer (some ⟨R,0,none⟩)]
def EnB (E A R:Nat) (s:EnS):As:=star (blk E (enC A R) 53) (star (AlB A s.top s.cs) (RgB R s.l))
section
variable {w0 w:World} {L:List As} {E A R:Nat} {s:EnS}
theorem St.enopen (hs:St w0 (EnB E A R s::L) w):St w0 (AlB A s.top s.cs::RgB R s.l::YtiafdlofcjbllaaGreatDoor.blk E (enC A R) 53::L) w:=
 (hs.ent ((Ent.open2 fun _ h=>h).trans (Ent.cons _ (Ent.open2 fun _ h=>h)))).up2.up2
theorem St.enshut (hs:St w0 (AlB A s.top s.cs::RgB R s.l::YtiafdlofcjbllaaGreatDoor.blk E (enC A R) 53::L) w):St w0 (EnB E A R s::L) w:=
 (St.dn2 (St.dn2 hs)).ent ((Ent.cons _ (Ent.shut2 fun _ h=>h)).trans (Ent.shut2 fun _ h=>h))
theorem Rd.en0:Rd w0 (EnB E A R s::L) ⟨E,0,none⟩ (.pointer (some ⟨A,0,none⟩)):=fun w hs=>Rd.blk rfl w hs.enopen.up2
theorem Rd.en1:Rd w0 (EnB E A R s::L) ⟨E,1,none⟩ (.pointer (some ⟨R,0,none⟩)):=fun w hs=>Rd.blk rfl w hs.enopen.up2
theorem en_few (hs:St w0 (EnB E A R s::L) w):s.cs.length≤65536:=(hs.enopen.alopen).1.few
end
attribute [local irreducible] wpList Calls Code.wp stV EnS.live
set_option maxHeartbeats 1000000 in
theorem en_live {w0 w:World} {L:List As} {E A R:Nat} {s:EnS} (hs:St w0 (EnB E A R s::L) w) {h:Hdl} {e:Int} (he:Hid (s.live h=e)):
  Calls Tryz.prog 80 #[.pointer (some ⟨E,0,none⟩),hv h] w fun r w'=>r= .returned (.int .i64 e)∧Grew w w':=by
 obtain⟨i,g⟩:=h
 rcases stV_cases s.cs (i,g) with h1 | h1 | h1
 ·obtain rfl:e=4:=by rw[← he.out];unfold EnS.live;rw[if_pos h1]
  have HS:=Lib.hid h1
  clear h1
  have hw:=St.start w
  go_enter Tryz.func80,Tryz.ntmps80
  go_upto_region 1 with (first
   | (refine wpl_box_v (v:=hv (i,g)) rfl hw ?_;clear hw;intro g3 w1 hw;replace hw:St w [blk g3 (h2 (i,g)).toArray 40] w1:=hw))
  have hs1:=hs.grew hw.made_grew
  have hs2:=hs1.enopen
  have k0:=Rd.en0 _ hs1
  have k1:World.cell? _ ⟨g3,0,none⟩=some (.int .i64 i):=Rd.blk (by rfl) _ hw
  have k2:World.cell? _ ⟨g3,1,none⟩=some (.int .i64 g):=Rd.blk (by rfl) _ hw
  refine wp_region_grow (by kernel_rfl) (by kernel_rfl) fun hne=>?_
  have g0:=fun p:GW _=>p.grew.cell k0
  have g1:=fun p:GW _=>p.grew.cell k1
  have g2:=fun p:GW _=>p.grew.cell k2
  repeat (go_big_quiet_step (first
   | (go_at_call 41;exact in_grew (state_c (h:=(i,g)) (hs2.grew (GW.grew _)) HS))))
  refine wpQuiet_nil ?_
  clear hne g0 g1 g2 k0 k1 k2
  intro u hu
  replace hw:=hw.grew hu
  clear hu
  go_wp2
  go_ret
  exact⟨rfl,hw.made_grew⟩
 ·obtain rfl:e=5:=by rw[← he.out];unfold EnS.live;rw[if_neg (by rw[h1];decide),if_pos h1]
  have HS:=Lib.hid h1
  clear h1
  have hw:=St.start w
  go_enter Tryz.func80,Tryz.ntmps80
  go_upto_region 1 with (first
   | (refine wpl_box_v (v:=hv (i,g)) rfl hw ?_;clear hw;intro g3 w1 hw;replace hw:St w [blk g3 (h2 (i,g)).toArray 40] w1:=hw))
  have hs1:=hs.grew hw.made_grew
  have hs2:=hs1.enopen
  have k0:=Rd.en0 _ hs1
  have k1:World.cell? _ ⟨g3,0,none⟩=some (.int .i64 i):=Rd.blk (by rfl) _ hw
  have k2:World.cell? _ ⟨g3,1,none⟩=some (.int .i64 g):=Rd.blk (by rfl) _ hw
  refine wp_region_grow (by kernel_rfl) (by kernel_rfl) fun hne=>?_
  have g0:=fun p:GW _=>p.grew.cell k0
  have g1:=fun p:GW _=>p.grew.cell k1
  have g2:=fun p:GW _=>p.grew.cell k2
  repeat (go_big_quiet_step (first
   | (go_at_call 41;exact in_grew (state_c (h:=(i,g)) (hs2.grew (GW.grew _)) HS))))
  refine wpQuiet_nil ?_
  clear hne g0 g1 g2 k0 k1 k2
  intro u hu
  replace hw:=hw.grew hu
  clear hu
  go_wp2
  go_ret
  exact⟨rfl,hw.made_grew⟩
 ·obtain rfl:e=0:=by rw[← he.out];exact EnS.live_zero.2 h1
  have HS:=Lib.hid h1
  clear h1
  have hw:=St.start w
  go_enter Tryz.func80,Tryz.ntmps80
  go_upto_region 1 with (first
   | (refine wpl_box_v (v:=hv (i,g)) rfl hw ?_;clear hw;intro g3 w1 hw;replace hw:St w [blk g3 (h2 (i,g)).toArray 40] w1:=hw))
  have hs1:=hs.grew hw.made_grew
  have hs2:=hs1.enopen
  have k0:=Rd.en0 _ hs1
  have k1:World.cell? _ ⟨g3,0,none⟩=some (.int .i64 i):=Rd.blk (by rfl) _ hw
  have k2:World.cell? _ ⟨g3,1,none⟩=some (.int .i64 g):=Rd.blk (by rfl) _ hw
  refine wp_region_grow (by kernel_rfl) (by kernel_rfl) fun hne=>?_
  have g0:=fun p:GW _=>p.grew.cell k0
  have g1:=fun p:GW _=>p.grew.cell k1
  have g2:=fun p:GW _=>p.grew.cell k2
  repeat (go_big_quiet_step (first
   | (go_at_call 41;exact in_grew (state_c (h:=(i,g)) (hs2.grew (GW.grew _)) HS))))
  refine wpQuiet_nil ?_
  clear hne g0 g1 g2 k0 k1 k2
  intro u hu
  replace hw:=hw.grew hu
  clear hu
  go_wp2
  go_ret
  exact⟨rfl,hw.made_grew⟩
section
variable {w0 w:World} {L:List As} {E A R:Nat} {s:EnS}
theorem en_create (hT:Tab w0) (hs:St w0 (EnB E A R s::L) w) {v:Hdl} {x:Int} {c:List ACell} (HV:Hid (giveV 1 s.cs=(v,x,c))):
  Calls Tryz.prog 19 #[.pointer (some ⟨A,0,none⟩)] w fun e w'=>e= .returned (.tuple #[hv v, .int .i64 x])∧St w0 (EnB E A R ⟨s.top,c,s.l⟩::L) w':=
 (create_c hT hs.enopen HV).mono fun _ _ ⟨h1,h2⟩=>⟨h1,St.enshut (s:=⟨s.top,c,s.l⟩) h2⟩
theorem en_raise (hT:Tab w0) (hs:St w0 (EnB E A R s::L) w) {v:Hdl} {x:Int} {c:List ACell} (HV:Hid (giveV 2 s.cs=(v,x,c))):
  Calls Tryz.prog 21 #[.pointer (some ⟨A,0,none⟩)] w fun e w'=>e= .returned (.tuple #[hv v, .int .i64 x])∧St w0 (EnB E A R ⟨s.top,c,s.l⟩::L) w':=
 (raise_c hT hs.enopen HV).mono fun _ _ ⟨h1,h2⟩=>⟨h1,St.enshut (s:=⟨s.top,c,s.l⟩) h2⟩
theorem en_merge (hT:Tab w0) (hs:St w0 (EnB E A R s::L) w) {n:Nat} (hn:Hid ((idxS 2 s.cs).length=n)):
  Calls Tryz.prog 37 #[.pointer (some ⟨A,0,none⟩)] w fun e w'=>∃ B cap,e= .returned (.slice B n cap)∧St w0 (own B n cap 40 2 (hsV (allH s.cs (idxS 2 s.cs)))::EnB E A R ⟨s.top,mergeA s.cs,s.l⟩::L) w':=
 (merge_c hT hs.enopen hn).mono fun _ _ ⟨B,cap,h1,h2⟩=>⟨B,cap,h1,(St.enshut (s:=⟨s.top,mergeA s.cs,s.l⟩) (h2.ent (Ent.push _ [_,_,_] _))).rot⟩
end
end
section
open Go Go.RowKit
section
variable {s:EnS} {h:Hdl} {c:Int} {u:V3} {e:Int}
theorem EnS.get_no (h0:s.live h ≠ 0):s.get h c=(V3.z,s.live h):=by unfold EnS.get;rw[if_neg h0]
theorem EnS.get_comp (h0:s.live h=0) (hc:s.slot c=none):s.get h c=(V3.z,11):=by unfold EnS.get;rw[if_pos h0,hc]
theorem EnS.get_in (h0:s.live h=0) {x:Cmp} (hc:s.slot c=some x):s.get h c=if x.2.has h.1 then (x.2.get h.1,0) else (V3.z,10):=by unfold EnS.get;rw[if_pos h0,hc]
end
attribute [local irreducible] wpList Calls Code.wp okI okN pS tS memS getG pG insS delS getV pV tV okVal newSl SlS.put SlS.err SlS.putU SlS.putB descE SlS.take SlS.set SlS.errSet SlS.get SlS.has stV EnS.live EnS.get EnS.slot
set_option maxHeartbeats 4000000 in
theorem en_get {w0 w:World} {L:List As} {E A R:Nat} {s:EnS} (hs:St w0 (EnB E A R s::L) w) {h:Hdl} {c:Int} {u:V3} {e:Int} (HV:Hid (s.get h c=(u,e))):
  Calls Tryz.prog 29 #[.pointer (some ⟨E,0,none⟩),hv h, .int .i64 c] w fun r w'=>r= .returned (.tuple #[val3 u, .int .i64 e])∧St w0 (EnB E A R s::L) w':=by
 obtain⟨f,HL⟩:∃ z,Hid (s.live h=z):=⟨_,rfl⟩
 have hwf:=fun h0:s.live h=0=>EnS.live_wf h0 (en_few hs)
 obtain⟨i,g⟩:=h
 by_cases h0:f=0
 ·subst h0
  have HW:(Lit.int .i64 i).wf=true:=hwf HL.out
  clear hwf
  cases hc:s.slot c with
  | none=>
   have hno:=EnS.slot_none hc
   have h1:=HV.out
   rw[EnS.get_comp HL.out hc] at h1
   cases h1
   clear HV hc
   go_enter Tryz.func29,Tryz.ntmps29
   go_upto_region 4 with (first
    | (refine wpl_box_v (v:=hv (i,g)) rfl hs ?_;clear hs;intro g4 w hs;replace hs:St w0 (blk g4 (h2 (i,g)).toArray 40::_) w:=hs)
    | (refine wpl_load_agg (cs:=h2 (i,g)) (b:=g4) (o:=0) rfl aggH (sizeHd _) hs ?hh ?_;case hh=>exact fun j x hx=>(Rd.blk (by simpa using hx)).tail)
    | (go_at_call 80;refine (en_live (h:=(i,g)) hs.drop.drop HL).mono ?_;rintro r w' ⟨rfl,hg⟩;replace hs:=hs.grew hg;clear hg)
    | (refine wpl_alloc zero3 hs ?_;clear hs;intro g6 w hs))
   have k1:=Rd.en1 _ hs.drop.drop
   (go_wp2_with (first
    | (go_at_call 86;refine (rg_slot_no hs.drop.drop.enopen.rot hno).mono ?_;clear k1 hno;rintro r w' ⟨rfl,rfl⟩)
    | (refine wpl_buildS build3 rfl ?_)
    | (refine wpl_store_agg (v:=val3 V3.z) rfl rfl (size3 _) hs WrA.slot3 ?_;clear hs;intro w hs)))
   refine bodyPost_at (results_cell_tmp Tryz.results29 rfl (hs.slot_run agg3 (size3 _))) rfl ?_
   exact⟨rfl,hs.drop.drop⟩
  | some x=>
   obtain⟨j,rfl,hj⟩:=EnS.slot_some hc
   have h1:=HV.out
   rw[EnS.get_in HL.out hc] at h1
   obtain⟨X,t⟩:=x
   have HX:=Lib.hid hj
   simp only at h1
   obtain⟨pv,HPV⟩:∃ z,Hid (t.pv=z):=⟨_,rfl⟩
   obtain⟨b,HB⟩:∃ z,Hid (t.has i=z):=⟨_,rfl⟩
   obtain⟨v,HU⟩:∃ z,Hid (t.get i=z):=⟨_,rfl⟩
   rw[HB.out,HU.out] at h1
   have H1:=Lib.hid h1
   clear h1 HV hc hj
   go_enter Tryz.func29,Tryz.ntmps29
   go_upto_region 4 with (first
    | (refine wpl_box_v (v:=hv (i,g)) rfl hs ?_;clear hs;intro g4 w hs;replace hs:St w0 (blk g4 (h2 (i,g)).toArray 40::_) w:=hs)
    | (refine wpl_load_agg (cs:=h2 (i,g)) (b:=g4) (o:=0) rfl aggH (sizeHd _) hs ?hh ?_;case hh=>exact fun j x hx=>(Rd.blk (by simpa using hx)).tail)
    | (go_at_call 80;refine (en_live (h:=(i,g)) hs.drop.drop HL).mono ?_;rintro r w' ⟨rfl,hg⟩;replace hs:=hs.grew hg;clear hg)
    | (refine wpl_alloc zero3 hs ?_;clear hs;intro g6 w hs))
   have k1:=Rd.en1 _ hs.drop.drop
   go_upto_region 7 with (first
    | (go_at_call 86;refine (rg_slot hs.drop.drop.enopen.rot HX.out (X:=X) (Lib.hid rfl)).mono ?_;clear k1;rintro r w' ⟨rfl,rfl⟩))
   replace hs:St w0 (RgB R s.l::blk g4 (h2 (i,g)).toArray 40::blk g6 (c3 V3.z).toArray 38::AlB A s.top s.cs::blk E (enC A R) 53::L) _:=hs.drop.drop.enopen |> fun _=>(hs.pm (M:=EnB E A R s::blk g6 (c3 V3.z).toArray 38::blk g4 (h2 (i,g)).toArray 40::L)).enopen.pm
   go_cut [11,12] from 34 to 43 (fun pv hv wx=>∃ g11,pv= .pointer (some ⟨g11,0,none⟩)∧hv= .bool b∧St w0 (blk g6 (c3 V3.z).toArray 38::blk g11 (c3 v).toArray 38::blk g4 (h2 (i,g)).toArray 40::EnB E A R s::L) wx)
   case first=>
    refine wp_all_plain (n:=7) [false,false,false,false,false,false,true,true,true,true,true,true,true] hs.only2 (by kernel_rfl) (by kernel_rfl) (by kernel_rfl) fun hne=>?_
    have c0:=(Rd.rgp (w0:=w0) (R:=R) (L:=[blk g4 (h2 (i,g)).toArray 40]) HX HPV).alln
    have c1:=((Rd.blk (w0:=w0) (g:=g4) (k:=0) (cs:=(h2 (i,g)).toArray) (v:= .int .i64 i) (t:=40) (L:=[]) (by rfl)).tail (p:=RgB R s.l)).alln
    simp only[pickOps]
    repeat (go_big_quiet_step (fail))
    refine wpQuiet_nil ?_
    clear hne c0 c1
    replace hs:=hs.drew
    refine wpAllP_next [6,10] (by kernel_rfl) (fun c hc=>?_)
    simp only[List.mem_cons,List.not_mem_nil,or_false] at hc
    rcases hc with rfl | rfl
    ·skip
     refine⟨_,rfl,?_⟩
     refine wpl_inv1 (v:=pv) (v1:= .int .i64 i) rfl rfl (rg_get hs HX HPV HW HU HB) ?_
     rintro r w ⟨rfl,hg⟩
     replace hs:=hs.grew hg
     clear hg
     refine wpList_nil ⟨rfl,hs.only2,?_⟩
     refine wpAllP_next [7,10] (by kernel_rfl) (fun c hc=>?_)
     simp only[List.mem_cons,List.not_mem_nil,or_false] at hc
     rcases hc with rfl | rfl
     ·skip
      refine⟨_,rfl,?_⟩
      go_wp2
      refine⟨hs.only2,?_⟩
      refine wpAllP_next [8,9,10] (by kernel_rfl) (fun c hc=>?_)
      simp only[List.mem_cons,List.not_mem_nil,or_false] at hc
      rcases hc with rfl | rfl | rfl
      ·skip
       refine⟨_,rfl,?_⟩
       go_wp2
       refine⟨hs.only2,?_⟩
       refine wpAllP_next [9,10] (by kernel_rfl) (fun c hc=>?_)
       simp only[List.mem_cons,List.not_mem_nil,or_false] at hc
       rcases hc with rfl | rfl
       ·skip
        refine⟨_,rfl,?_⟩
        go_wp2
        refine⟨hs.only2,?_⟩
        refine wpAllP_next [10] (by kernel_rfl) (fun c hc=>?_)
        simp only[List.mem_singleton] at hc
        subst hc
        refine⟨_,rfl,?_⟩
        refine wpl_alloc zero3 hs ?_
        clear hs
        intro g11 w hs
        replace hs:St w0 (blk g11 (c3 V3.z).toArray 38::_) w:=hs
        replace hs:St w0 (RgB R s.l::blk g4 (h2 (i,g)).toArray 40::blk g11 (c3 V3.z).toArray 38::blk g6 (c3 V3.z).toArray 38::AlB A s.top s.cs::blk E (enC A R) 53::L) w:=hs.pm
        refine wpList_nil ⟨rfl,hs.only2,?_⟩
        refine wpAllP_next [11] (by kernel_rfl) (fun c hc=>?_)
        simp only[List.mem_singleton] at hc
        subst hc
        refine⟨_,rfl,?_⟩
        refine wpl_store_agg (v:=val3 v) rfl rfl (size3 _) (hs.pm (M:=blk g11 (c3 V3.z).toArray 38::RgB R s.l::blk g4 (h2 (i,g)).toArray 40::blk g6 (c3 V3.z).toArray 38::AlB A s.top s.cs::blk E (enC A R) 53::L)) WrA.slot3 ?_
        clear hs
        intro w hs
        replace hs:St w0 (RgB R s.l::blk g4 (h2 (i,g)).toArray 40::blk g11 (c3 v).toArray 38::blk g6 (c3 V3.z).toArray 38::AlB A s.top s.cs::blk E (enC A R) 53::L) w:=hs.pm
        refine wpList_nil ⟨rfl,hs.only2,?_⟩
        refine wpAll_last [12] (by kernel_rfl) (fun c hc=>?_)
        simp only[List.mem_singleton] at hc
        subst hc
        refine⟨_,rfl,?_⟩
        go_wp2
        go_meet
        exact⟨g11,rfl,rfl,(St.enshut (hs.pm (M:=AlB A s.top s.cs::RgB R s.l::blk E (enC A R) 53::blk g6 (c3 V3.z).toArray 38::blk g11 (c3 v).toArray 38::blk g4 (h2 (i,g)).toArray 40::L))).pm⟩
       ·skip
        refine⟨_,rfl,?_⟩
        refine wpl_alloc zero3 hs ?_
        clear hs
        intro g11 w hs
        replace hs:St w0 (blk g11 (c3 V3.z).toArray 38::_) w:=hs
        replace hs:St w0 (RgB R s.l::blk g4 (h2 (i,g)).toArray 40::blk g11 (c3 V3.z).toArray 38::blk g6 (c3 V3.z).toArray 38::AlB A s.top s.cs::blk E (enC A R) 53::L) w:=hs.pm
        refine wpList_nil ⟨rfl,hs.only2,?_⟩
        refine wpAllP_next [9,11] (by kernel_rfl) (fun c hc=>?_)
        simp only[List.mem_cons,List.not_mem_nil,or_false] at hc
        rcases hc with rfl | rfl
        ·skip
         refine⟨_,rfl,?_⟩
         go_wp2
         refine⟨hs.only2,?_⟩
         refine wpAllP_next [11] (by kernel_rfl) (fun c hc=>?_)
         simp only[List.mem_singleton] at hc
         subst hc
         refine⟨_,rfl,?_⟩
         refine wpl_store_agg (v:=val3 v) rfl rfl (size3 _) (hs.pm (M:=blk g11 (c3 V3.z).toArray 38::RgB R s.l::blk g4 (h2 (i,g)).toArray 40::blk g6 (c3 V3.z).toArray 38::AlB A s.top s.cs::blk E (enC A R) 53::L)) WrA.slot3 ?_
         clear hs
         intro w hs
         replace hs:St w0 (RgB R s.l::blk g4 (h2 (i,g)).toArray 40::blk g11 (c3 v).toArray 38::blk g6 (c3 V3.z).toArray 38::AlB A s.top s.cs::blk E (enC A R) 53::L) w:=hs.pm
         refine wpList_nil ⟨rfl,hs.only2,?_⟩
         refine wpAll_last [12] (by kernel_rfl) (fun c hc=>?_)
         simp only[List.mem_singleton] at hc
         subst hc
         refine⟨_,rfl,?_⟩
         go_wp2
         go_meet
         exact⟨g11,rfl,rfl,(St.enshut (hs.pm (M:=AlB A s.top s.cs::RgB R s.l::blk E (enC A R) 53::blk g6 (c3 V3.z).toArray 38::blk g11 (c3 v).toArray 38::blk g4 (h2 (i,g)).toArray 40::L))).pm⟩
        ·skip
         refine⟨_,rfl,?_⟩
         refine wpl_store_agg (v:=val3 v) rfl rfl (size3 _) (hs.pm (M:=blk g11 (c3 V3.z).toArray 38::RgB R s.l::blk g4 (h2 (i,g)).toArray 40::blk g6 (c3 V3.z).toArray 38::AlB A s.top s.cs::blk E (enC A R) 53::L)) WrA.slot3 ?_
         clear hs
         intro w hs
         replace hs:St w0 (RgB R s.l::blk g4 (h2 (i,g)).toArray 40::blk g11 (c3 v).toArray 38::blk g6 (c3 V3.z).toArray 38::AlB A s.top s.cs::blk E (enC A R) 53::L) w:=hs.pm
         refine wpList_nil ⟨rfl,hs.only2,?_⟩
         refine wpAllP_next [9] (by kernel_rfl) (fun c hc=>?_)
         simp only[List.mem_singleton] at hc
         subst hc
         refine⟨_,rfl,?_⟩
         go_wp2
         refine⟨hs.only2,?_⟩
         refine wpAll_last [12] (by kernel_rfl) (fun c hc=>?_)
         simp only[List.mem_singleton] at hc
         subst hc
         refine⟨_,rfl,?_⟩
         go_wp2
         go_meet
         exact⟨g11,rfl,rfl,(St.enshut (hs.pm (M:=AlB A s.top s.cs::RgB R s.l::blk E (enC A R) 53::blk g6 (c3 V3.z).toArray 38::blk g11 (c3 v).toArray 38::blk g4 (h2 (i,g)).toArray 40::L))).pm⟩
      ·skip
       refine⟨_,rfl,?_⟩
       go_wp2
       refine⟨hs.only2,?_⟩
       refine wpAllP_next [8,10] (by kernel_rfl) (fun c hc=>?_)
       simp only[List.mem_cons,List.not_mem_nil,or_false] at hc
       rcases hc with rfl | rfl
       ·skip
        refine⟨_,rfl,?_⟩
        go_wp2
        refine⟨hs.only2,?_⟩
        refine wpAllP_next [10] (by kernel_rfl) (fun c hc=>?_)
        simp only[List.mem_singleton] at hc
        subst hc
        refine⟨_,rfl,?_⟩
        refine wpl_alloc zero3 hs ?_
        clear hs
        intro g11 w hs
        replace hs:St w0 (blk g11 (c3 V3.z).toArray 38::_) w:=hs
        replace hs:St w0 (RgB R s.l::blk g4 (h2 (i,g)).toArray 40::blk g11 (c3 V3.z).toArray 38::blk g6 (c3 V3.z).toArray 38::AlB A s.top s.cs::blk E (enC A R) 53::L) w:=hs.pm
        refine wpList_nil ⟨rfl,hs.only2,?_⟩
        refine wpAllP_next [11] (by kernel_rfl) (fun c hc=>?_)
        simp only[List.mem_singleton] at hc
        subst hc
        refine⟨_,rfl,?_⟩
        refine wpl_store_agg (v:=val3 v) rfl rfl (size3 _) (hs.pm (M:=blk g11 (c3 V3.z).toArray 38::RgB R s.l::blk g4 (h2 (i,g)).toArray 40::blk g6 (c3 V3.z).toArray 38::AlB A s.top s.cs::blk E (enC A R) 53::L)) WrA.slot3 ?_
        clear hs
        intro w hs
        replace hs:St w0 (RgB R s.l::blk g4 (h2 (i,g)).toArray 40::blk g11 (c3 v).toArray 38::blk g6 (c3 V3.z).toArray 38::AlB A s.top s.cs::blk E (enC A R) 53::L) w:=hs.pm
        refine wpList_nil ⟨rfl,hs.only2,?_⟩
        refine wpAll_last [12] (by kernel_rfl) (fun c hc=>?_)
        simp only[List.mem_singleton] at hc
        subst hc
        refine⟨_,rfl,?_⟩
        go_wp2
        go_meet
        exact⟨g11,rfl,rfl,(St.enshut (hs.pm (M:=AlB A s.top s.cs::RgB R s.l::blk E (enC A R) 53::blk g6 (c3 V3.z).toArray 38::blk g11 (c3 v).toArray 38::blk g4 (h2 (i,g)).toArray 40::L))).pm⟩
       ·skip
        refine⟨_,rfl,?_⟩
        refine wpl_alloc zero3 hs ?_
        clear hs
        intro g11 w hs
        replace hs:St w0 (blk g11 (c3 V3.z).toArray 38::_) w:=hs
        replace hs:St w0 (RgB R s.l::blk g4 (h2 (i,g)).toArray 40::blk g11 (c3 V3.z).toArray 38::blk g6 (c3 V3.z).toArray 38::AlB A s.top s.cs::blk E (enC A R) 53::L) w:=hs.pm
        refine wpList_nil ⟨rfl,hs.only2,?_⟩
        refine wpAllP_next [8] (by kernel_rfl) (fun c hc=>?_)
        simp only[List.mem_singleton] at hc
        subst hc
        refine⟨_,rfl,?_⟩
        go_wp2
        refine⟨hs.only2,?_⟩
        refine wpAllP_next [11] (by kernel_rfl) (fun c hc=>?_)
        simp only[List.mem_singleton] at hc
        subst hc
        refine⟨_,rfl,?_⟩
        refine wpl_store_agg (v:=val3 v) rfl rfl (size3 _) (hs.pm (M:=blk g11 (c3 V3.z).toArray 38::RgB R s.l::blk g4 (h2 (i,g)).toArray 40::blk g6 (c3 V3.z).toArray 38::AlB A s.top s.cs::blk E (enC A R) 53::L)) WrA.slot3 ?_
        clear hs
        intro w hs
        replace hs:St w0 (RgB R s.l::blk g4 (h2 (i,g)).toArray 40::blk g11 (c3 v).toArray 38::blk g6 (c3 V3.z).toArray 38::AlB A s.top s.cs::blk E (enC A R) 53::L) w:=hs.pm
        refine wpList_nil ⟨rfl,hs.only2,?_⟩
        refine wpAll_last [12] (by kernel_rfl) (fun c hc=>?_)
        simp only[List.mem_singleton] at hc
        subst hc
        refine⟨_,rfl,?_⟩
        go_wp2
        go_meet
        exact⟨g11,rfl,rfl,(St.enshut (hs.pm (M:=AlB A s.top s.cs::RgB R s.l::blk E (enC A R) 53::blk g6 (c3 V3.z).toArray 38::blk g11 (c3 v).toArray 38::blk g4 (h2 (i,g)).toArray 40::L))).pm⟩
      ·skip
       refine⟨_,rfl,?_⟩
       refine wpl_alloc zero3 hs ?_
       clear hs
       intro g11 w hs
       replace hs:St w0 (blk g11 (c3 V3.z).toArray 38::_) w:=hs
       replace hs:St w0 (RgB R s.l::blk g4 (h2 (i,g)).toArray 40::blk g11 (c3 V3.z).toArray 38::blk g6 (c3 V3.z).toArray 38::AlB A s.top s.cs::blk E (enC A R) 53::L) w:=hs.pm
       refine wpList_nil ⟨rfl,hs.only2,?_⟩
       refine wpAllP_next [8,9] (by kernel_rfl) (fun c hc=>?_)
       simp only[List.mem_cons,List.not_mem_nil,or_false] at hc
       rcases hc with rfl | rfl
       ·skip
        refine⟨_,rfl,?_⟩
        go_wp2
        refine⟨hs.only2,?_⟩
        refine wpAllP_next [9,11] (by kernel_rfl) (fun c hc=>?_)
        simp only[List.mem_cons,List.not_mem_nil,or_false] at hc
        rcases hc with rfl | rfl
        ·skip
         refine⟨_,rfl,?_⟩
         go_wp2
         refine⟨hs.only2,?_⟩
         refine wpAllP_next [11] (by kernel_rfl) (fun c hc=>?_)
         simp only[List.mem_singleton] at hc
         subst hc
         refine⟨_,rfl,?_⟩
         refine wpl_store_agg (v:=val3 v) rfl rfl (size3 _) (hs.pm (M:=blk g11 (c3 V3.z).toArray 38::RgB R s.l::blk g4 (h2 (i,g)).toArray 40::blk g6 (c3 V3.z).toArray 38::AlB A s.top s.cs::blk E (enC A R) 53::L)) WrA.slot3 ?_
         clear hs
         intro w hs
         replace hs:St w0 (RgB R s.l::blk g4 (h2 (i,g)).toArray 40::blk g11 (c3 v).toArray 38::blk g6 (c3 V3.z).toArray 38::AlB A s.top s.cs::blk E (enC A R) 53::L) w:=hs.pm
         refine wpList_nil ⟨rfl,hs.only2,?_⟩
         refine wpAll_last [12] (by kernel_rfl) (fun c hc=>?_)
         simp only[List.mem_singleton] at hc
         subst hc
         refine⟨_,rfl,?_⟩
         go_wp2
         go_meet
         exact⟨g11,rfl,rfl,(St.enshut (hs.pm (M:=AlB A s.top s.cs::RgB R s.l::blk E (enC A R) 53::blk g6 (c3 V3.z).toArray 38::blk g11 (c3 v).toArray 38::blk g4 (h2 (i,g)).toArray 40::L))).pm⟩
        ·skip
         refine⟨_,rfl,?_⟩
         refine wpl_store_agg (v:=val3 v) rfl rfl (size3 _) (hs.pm (M:=blk g11 (c3 V3.z).toArray 38::RgB R s.l::blk g4 (h2 (i,g)).toArray 40::blk g6 (c3 V3.z).toArray 38::AlB A s.top s.cs::blk E (enC A R) 53::L)) WrA.slot3 ?_
         clear hs
         intro w hs
         replace hs:St w0 (RgB R s.l::blk g4 (h2 (i,g)).toArray 40::blk g11 (c3 v).toArray 38::blk g6 (c3 V3.z).toArray 38::AlB A s.top s.cs::blk E (enC A R) 53::L) w:=hs.pm
         refine wpList_nil ⟨rfl,hs.only2,?_⟩
         refine wpAllP_next [9] (by kernel_rfl) (fun c hc=>?_)
         simp only[List.mem_singleton] at hc
         subst hc
         refine⟨_,rfl,?_⟩
         go_wp2
         refine⟨hs.only2,?_⟩
         refine wpAll_last [12] (by kernel_rfl) (fun c hc=>?_)
         simp only[List.mem_singleton] at hc
         subst hc
         refine⟨_,rfl,?_⟩
         go_wp2
         go_meet
         exact⟨g11,rfl,rfl,(St.enshut (hs.pm (M:=AlB A s.top s.cs::RgB R s.l::blk E (enC A R) 53::blk g6 (c3 V3.z).toArray 38::blk g11 (c3 v).toArray 38::blk g4 (h2 (i,g)).toArray 40::L))).pm⟩
       ·skip
        refine⟨_,rfl,?_⟩
        go_wp2
        refine⟨hs.only2,?_⟩
        refine wpAllP_next [8] (by kernel_rfl) (fun c hc=>?_)
        simp only[List.mem_singleton] at hc
        subst hc
        refine⟨_,rfl,?_⟩
        go_wp2
        refine⟨hs.only2,?_⟩
        refine wpAllP_next [11] (by kernel_rfl) (fun c hc=>?_)
        simp only[List.mem_singleton] at hc
        subst hc
        refine⟨_,rfl,?_⟩
        refine wpl_store_agg (v:=val3 v) rfl rfl (size3 _) (hs.pm (M:=blk g11 (c3 V3.z).toArray 38::RgB R s.l::blk g4 (h2 (i,g)).toArray 40::blk g6 (c3 V3.z).toArray 38::AlB A s.top s.cs::blk E (enC A R) 53::L)) WrA.slot3 ?_
        clear hs
        intro w hs
        replace hs:St w0 (RgB R s.l::blk g4 (h2 (i,g)).toArray 40::blk g11 (c3 v).toArray 38::blk g6 (c3 V3.z).toArray 38::AlB A s.top s.cs::blk E (enC A R) 53::L) w:=hs.pm
        refine wpList_nil ⟨rfl,hs.only2,?_⟩
        refine wpAll_last [12] (by kernel_rfl) (fun c hc=>?_)
        simp only[List.mem_singleton] at hc
        subst hc
        refine⟨_,rfl,?_⟩
        go_wp2
        go_meet
        exact⟨g11,rfl,rfl,(St.enshut (hs.pm (M:=AlB A s.top s.cs::RgB R s.l::blk E (enC A R) 53::blk g6 (c3 V3.z).toArray 38::blk g11 (c3 v).toArray 38::blk g4 (h2 (i,g)).toArray 40::L))).pm⟩
     ·skip
      refine⟨_,rfl,?_⟩
      refine wpl_alloc zero3 hs ?_
      clear hs
      intro g11 w hs
      replace hs:St w0 (blk g11 (c3 V3.z).toArray 38::_) w:=hs
      replace hs:St w0 (RgB R s.l::blk g4 (h2 (i,g)).toArray 40::blk g11 (c3 V3.z).toArray 38::blk g6 (c3 V3.z).toArray 38::AlB A s.top s.cs::blk E (enC A R) 53::L) w:=hs.pm
      refine wpList_nil ⟨rfl,hs.only2,?_⟩
      refine wpAllP_next [7] (by kernel_rfl) (fun c hc=>?_)
      simp only[List.mem_singleton] at hc
      subst hc
      refine⟨_,rfl,?_⟩
      go_wp2
      refine⟨hs.only2,?_⟩
      refine wpAllP_next [8,9] (by kernel_rfl) (fun c hc=>?_)
      simp only[List.mem_cons,List.not_mem_nil,or_false] at hc
      rcases hc with rfl | rfl
      ·skip
       refine⟨_,rfl,?_⟩
       go_wp2
       refine⟨hs.only2,?_⟩
       refine wpAllP_next [9,11] (by kernel_rfl) (fun c hc=>?_)
       simp only[List.mem_cons,List.not_mem_nil,or_false] at hc
       rcases hc with rfl | rfl
       ·skip
        refine⟨_,rfl,?_⟩
        go_wp2
        refine⟨hs.only2,?_⟩
        refine wpAllP_next [11] (by kernel_rfl) (fun c hc=>?_)
        simp only[List.mem_singleton] at hc
        subst hc
        refine⟨_,rfl,?_⟩
        refine wpl_store_agg (v:=val3 v) rfl rfl (size3 _) (hs.pm (M:=blk g11 (c3 V3.z).toArray 38::RgB R s.l::blk g4 (h2 (i,g)).toArray 40::blk g6 (c3 V3.z).toArray 38::AlB A s.top s.cs::blk E (enC A R) 53::L)) WrA.slot3 ?_
        clear hs
        intro w hs
        replace hs:St w0 (RgB R s.l::blk g4 (h2 (i,g)).toArray 40::blk g11 (c3 v).toArray 38::blk g6 (c3 V3.z).toArray 38::AlB A s.top s.cs::blk E (enC A R) 53::L) w:=hs.pm
        refine wpList_nil ⟨rfl,hs.only2,?_⟩
        refine wpAll_last [12] (by kernel_rfl) (fun c hc=>?_)
        simp only[List.mem_singleton] at hc
        subst hc
        refine⟨_,rfl,?_⟩
        go_wp2
        go_meet
        exact⟨g11,rfl,rfl,(St.enshut (hs.pm (M:=AlB A s.top s.cs::RgB R s.l::blk E (enC A R) 53::blk g6 (c3 V3.z).toArray 38::blk g11 (c3 v).toArray 38::blk g4 (h2 (i,g)).toArray 40::L))).pm⟩
       ·skip
        refine⟨_,rfl,?_⟩
        refine wpl_store_agg (v:=val3 v) rfl rfl (size3 _) (hs.pm (M:=blk g11 (c3 V3.z).toArray 38::RgB R s.l::blk g4 (h2 (i,g)).toArray 40::blk g6 (c3 V3.z).toArray 38::AlB A s.top s.cs::blk E (enC A R) 53::L)) WrA.slot3 ?_
        clear hs
        intro w hs
        replace hs:St w0 (RgB R s.l::blk g4 (h2 (i,g)).toArray 40::blk g11 (c3 v).toArray 38::blk g6 (c3 V3.z).toArray 38::AlB A s.top s.cs::blk E (enC A R) 53::L) w:=hs.pm
        refine wpList_nil ⟨rfl,hs.only2,?_⟩
        refine wpAllP_next [9] (by kernel_rfl) (fun c hc=>?_)
        simp only[List.mem_singleton] at hc
        subst hc
        refine⟨_,rfl,?_⟩
        go_wp2
        refine⟨hs.only2,?_⟩
        refine wpAll_last [12] (by kernel_rfl) (fun c hc=>?_)
        simp only[List.mem_singleton] at hc
        subst hc
        refine⟨_,rfl,?_⟩
        go_wp2
        go_meet
        exact⟨g11,rfl,rfl,(St.enshut (hs.pm (M:=AlB A s.top s.cs::RgB R s.l::blk E (enC A R) 53::blk g6 (c3 V3.z).toArray 38::blk g11 (c3 v).toArray 38::blk g4 (h2 (i,g)).toArray 40::L))).pm⟩
      ·skip
       refine⟨_,rfl,?_⟩
       go_wp2
       refine⟨hs.only2,?_⟩
       refine wpAllP_next [8] (by kernel_rfl) (fun c hc=>?_)
       simp only[List.mem_singleton] at hc
       subst hc
       refine⟨_,rfl,?_⟩
       go_wp2
       refine⟨hs.only2,?_⟩
       refine wpAllP_next [11] (by kernel_rfl) (fun c hc=>?_)
       simp only[List.mem_singleton] at hc
       subst hc
       refine⟨_,rfl,?_⟩
       refine wpl_store_agg (v:=val3 v) rfl rfl (size3 _) (hs.pm (M:=blk g11 (c3 V3.z).toArray 38::RgB R s.l::blk g4 (h2 (i,g)).toArray 40::blk g6 (c3 V3.z).toArray 38::AlB A s.top s.cs::blk E (enC A R) 53::L)) WrA.slot3 ?_
       clear hs
       intro w hs
       replace hs:St w0 (RgB R s.l::blk g4 (h2 (i,g)).toArray 40::blk g11 (c3 v).toArray 38::blk g6 (c3 V3.z).toArray 38::AlB A s.top s.cs::blk E (enC A R) 53::L) w:=hs.pm
       refine wpList_nil ⟨rfl,hs.only2,?_⟩
       refine wpAll_last [12] (by kernel_rfl) (fun c hc=>?_)
       simp only[List.mem_singleton] at hc
       subst hc
       refine⟨_,rfl,?_⟩
       go_wp2
       go_meet
       exact⟨g11,rfl,rfl,(St.enshut (hs.pm (M:=AlB A s.top s.cs::RgB R s.l::blk E (enC A R) 53::blk g6 (c3 V3.z).toArray 38::blk g11 (c3 v).toArray 38::blk g4 (h2 (i,g)).toArray 40::L))).pm⟩
    ·skip
     refine⟨_,rfl,?_⟩
     refine wpl_alloc zero3 hs ?_
     clear hs
     intro g11 w hs
     replace hs:St w0 (blk g11 (c3 V3.z).toArray 38::_) w:=hs
     replace hs:St w0 (RgB R s.l::blk g4 (h2 (i,g)).toArray 40::blk g11 (c3 V3.z).toArray 38::blk g6 (c3 V3.z).toArray 38::AlB A s.top s.cs::blk E (enC A R) 53::L) w:=hs.pm
     refine wpList_nil ⟨rfl,hs.only2,?_⟩
     refine wpAllP_next [6] (by kernel_rfl) (fun c hc=>?_)
     simp only[List.mem_singleton] at hc
     subst hc
     refine⟨_,rfl,?_⟩
     refine wpl_inv1 (v:=pv) (v1:= .int .i64 i) rfl rfl (rg_get hs HX HPV HW HU HB) ?_
     rintro r w ⟨rfl,hg⟩
     replace hs:=hs.grew hg
     clear hg
     refine wpList_nil ⟨rfl,hs.only2,?_⟩
     refine wpAllP_next [7] (by kernel_rfl) (fun c hc=>?_)
     simp only[List.mem_singleton] at hc
     subst hc
     refine⟨_,rfl,?_⟩
     go_wp2
     refine⟨hs.only2,?_⟩
     refine wpAllP_next [8,9] (by kernel_rfl) (fun c hc=>?_)
     simp only[List.mem_cons,List.not_mem_nil,or_false] at hc
     rcases hc with rfl | rfl
     ·skip
      refine⟨_,rfl,?_⟩
      go_wp2
      refine⟨hs.only2,?_⟩
      refine wpAllP_next [9,11] (by kernel_rfl) (fun c hc=>?_)
      simp only[List.mem_cons,List.not_mem_nil,or_false] at hc
      rcases hc with rfl | rfl
      ·skip
       refine⟨_,rfl,?_⟩
       go_wp2
       refine⟨hs.only2,?_⟩
       refine wpAllP_next [11] (by kernel_rfl) (fun c hc=>?_)
       simp only[List.mem_singleton] at hc
       subst hc
       refine⟨_,rfl,?_⟩
       refine wpl_store_agg (v:=val3 v) rfl rfl (size3 _) (hs.pm (M:=blk g11 (c3 V3.z).toArray 38::RgB R s.l::blk g4 (h2 (i,g)).toArray 40::blk g6 (c3 V3.z).toArray 38::AlB A s.top s.cs::blk E (enC A R) 53::L)) WrA.slot3 ?_
       clear hs
       intro w hs
       replace hs:St w0 (RgB R s.l::blk g4 (h2 (i,g)).toArray 40::blk g11 (c3 v).toArray 38::blk g6 (c3 V3.z).toArray 38::AlB A s.top s.cs::blk E (enC A R) 53::L) w:=hs.pm
       refine wpList_nil ⟨rfl,hs.only2,?_⟩
       refine wpAll_last [12] (by kernel_rfl) (fun c hc=>?_)
       simp only[List.mem_singleton] at hc
       subst hc
       refine⟨_,rfl,?_⟩
       go_wp2
       go_meet
       exact⟨g11,rfl,rfl,(St.enshut (hs.pm (M:=AlB A s.top s.cs::RgB R s.l::blk E (enC A R) 53::blk g6 (c3 V3.z).toArray 38::blk g11 (c3 v).toArray 38::blk g4 (h2 (i,g)).toArray 40::L))).pm⟩
      ·skip
       refine⟨_,rfl,?_⟩
       refine wpl_store_agg (v:=val3 v) rfl rfl (size3 _) (hs.pm (M:=blk g11 (c3 V3.z).toArray 38::RgB R s.l::blk g4 (h2 (i,g)).toArray 40::blk g6 (c3 V3.z).toArray 38::AlB A s.top s.cs::blk E (enC A R) 53::L)) WrA.slot3 ?_
       clear hs
       intro w hs
       replace hs:St w0 (RgB R s.l::blk g4 (h2 (i,g)).toArray 40::blk g11 (c3 v).toArray 38::blk g6 (c3 V3.z).toArray 38::AlB A s.top s.cs::blk E (enC A R) 53::L) w:=hs.pm
       refine wpList_nil ⟨rfl,hs.only2,?_⟩
       refine wpAllP_next [9] (by kernel_rfl) (fun c hc=>?_)
       simp only[List.mem_singleton] at hc
       subst hc
       refine⟨_,rfl,?_⟩
       go_wp2
       refine⟨hs.only2,?_⟩
       refine wpAll_last [12] (by kernel_rfl) (fun c hc=>?_)
       simp only[List.mem_singleton] at hc
       subst hc
       refine⟨_,rfl,?_⟩
       go_wp2
       go_meet
       exact⟨g11,rfl,rfl,(St.enshut (hs.pm (M:=AlB A s.top s.cs::RgB R s.l::blk E (enC A R) 53::blk g6 (c3 V3.z).toArray 38::blk g11 (c3 v).toArray 38::blk g4 (h2 (i,g)).toArray 40::L))).pm⟩
     ·skip
      refine⟨_,rfl,?_⟩
      go_wp2
      refine⟨hs.only2,?_⟩
      refine wpAllP_next [8] (by kernel_rfl) (fun c hc=>?_)
      simp only[List.mem_singleton] at hc
      subst hc
      refine⟨_,rfl,?_⟩
      go_wp2
      refine⟨hs.only2,?_⟩
      refine wpAllP_next [11] (by kernel_rfl) (fun c hc=>?_)
      simp only[List.mem_singleton] at hc
      subst hc
      refine⟨_,rfl,?_⟩
      refine wpl_store_agg (v:=val3 v) rfl rfl (size3 _) (hs.pm (M:=blk g11 (c3 V3.z).toArray 38::RgB R s.l::blk g4 (h2 (i,g)).toArray 40::blk g6 (c3 V3.z).toArray 38::AlB A s.top s.cs::blk E (enC A R) 53::L)) WrA.slot3 ?_
      clear hs
      intro w hs
      replace hs:St w0 (RgB R s.l::blk g4 (h2 (i,g)).toArray 40::blk g11 (c3 v).toArray 38::blk g6 (c3 V3.z).toArray 38::AlB A s.top s.cs::blk E (enC A R) 53::L) w:=hs.pm
      refine wpList_nil ⟨rfl,hs.only2,?_⟩
      refine wpAll_last [12] (by kernel_rfl) (fun c hc=>?_)
      simp only[List.mem_singleton] at hc
      subst hc
      refine⟨_,rfl,?_⟩
      go_wp2
      go_meet
      exact⟨g11,rfl,rfl,(St.enshut (hs.pm (M:=AlB A s.top s.cs::RgB R s.l::blk E (enC A R) 53::blk g6 (c3 V3.z).toArray 38::blk g11 (c3 v).toArray 38::blk g4 (h2 (i,g)).toArray 40::L))).pm⟩
   case rest=>
   clear hs
   obtain⟨g11,rfl,rfl,hs⟩:=hcut
   cases b
   ·obtain⟨rfl,rfl⟩:u=V3.z∧e=10:=by have:=H1.out;simp at this;exact⟨this.1.symm,this.2.symm⟩
    clear H1
    (go_wp2_with (first
     | (refine wpl_buildS build3 rfl ?_)
     | (refine wpl_store_agg (v:=val3 V3.z) rfl rfl (size3 _) hs WrA.slot3 ?_;clear hs;intro w hs)))
    refine bodyPost_at (results_cell_tmp Tryz.results29 rfl (hs.slot_run agg3 (size3 _))) rfl ?_
    exact⟨rfl,hs.drop.drop.drop⟩
   ·obtain⟨rfl,rfl⟩:u=v∧e=0:=by have:=H1.out;simp at this;exact⟨this.1.symm,this.2.symm⟩
    clear H1
    (go_wp2_with (first
     | (refine wpl_load3 (v:=u) (g:=g11) rfl (has3_tail (has3_slot (t:=38))) agg3 size3n hs ?_)
     | (refine wpl_store_agg (v:=val3 u) rfl rfl (size3 _) hs WrA.slot3 ?_;clear hs;intro w hs)))
    refine bodyPost_at (results_cell_tmp Tryz.results29 rfl (hs.slot_run agg3 (size3 _))) rfl ?_
    exact⟨rfl,hs.drop.drop.drop⟩
 ·have e1:(f==0)=false:=by simpa using h0
  have e2:(f !=0)=true:=by simpa using h0
  have h1:=HV.out
  rw[EnS.get_no (by rw[HL.out];exact h0),HL.out] at h1
  cases h1
  clear HV hwf h0
  go_enter Tryz.func29,Tryz.ntmps29
  (go_wp2_with (first
   | (refine wpl_box_v (v:=hv (i,g)) rfl hs ?_;clear hs;intro g4 w hs;replace hs:St w0 (blk g4 (h2 (i,g)).toArray 40::_) w:=hs)
   | (refine wpl_load_agg (cs:=h2 (i,g)) (b:=g4) (o:=0) rfl aggH (sizeHd _) hs ?hh ?_;case hh=>exact fun j x hx=>(Rd.blk (by simpa using hx)).tail)
   | (go_at_call 80;refine (en_live (h:=(i,g)) hs.drop.drop HL).mono ?_;rintro r w' ⟨rfl,hg⟩;replace hs:=hs.grew hg;clear hg)
   | (refine wpl_alloc zero3 hs ?_;clear hs;intro g6 w hs)
   | (refine wpl_buildS build3 rfl ?_)
   | (refine wpl_store_agg (v:=val3 V3.z) rfl rfl (size3 _) hs WrA.slot3 ?_;clear hs;intro w hs)))
  refine bodyPost_at (results_cell_tmp Tryz.results29 rfl (hs.slot_run agg3 (size3 _))) rfl ?_
  exact⟨rfl,hs.drop.drop⟩
end
end Go.Proofs.YtiafdlofcjbllaaGreatDoor
