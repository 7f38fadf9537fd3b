/-
  A world in memory (world.World): apply, Maintain. (Printed by gen_wo10.py.)
-/
import Derived.Test.YtiafdlofcjbllaaGreatDoorZW3
import Derived.Deep.CutRange
set_option maxRecDepth 100000
namespace Go.Proofs.YtiafdlofcjbllaaGreatDoor
section
open Go Go.RowKit
section
variable {s:WoS} {o:OpW} {m x:Int} {u:V3} {b:Bool} {e:EnS}
theorem WoS.apply_del (h1:o.k=1) (hi:s.e.del o.h=(m,x,e)):s.apply o=(x==0,{ s with e:=e }):=by unfold WoS.apply;rw[if_pos h1,hi];rfl
theorem WoS.apply_ins (h1:o.k=2) (hi:s.e.ins o.h o.c o.v=(u,b,x,e)):s.apply o=(x==0,{ s with e:=e }):=by unfold WoS.apply;rw[if_neg (by omega),if_pos h1,hi];rfl
theorem WoS.apply_rem (h1:o.k ≠ 1) (h2:o.k ≠ 2) (hi:s.e.rem o.h o.c=(u,x,e)):s.apply o=(x==0,{ s with e:=e }):=by unfold WoS.apply;rw[if_neg h1,if_neg h2,hi];rfl
end
attribute [local irreducible] wpList Calls Code.wp stV EnS.live EnS.slot okI okN pS tS memS getG pG insS delS getV pV tV okVal newSl SlS.put SlS.err SlS.putU SlS.putB descE SlS.take SlS.set SlS.errSet SlS.get SlS.has EnS.ins EnS.set EnS.rem EnS.get EnS.del WoS.ins WoS.rem WoS.get WoS.set WoS.may WoS.create WoS.del giveV WoS.apply WoS.run WoS.maint mergeA idxS
set_option maxHeartbeats 4000000 in
theorem wo_apply {w0 w:World} {L:List As} {W E A R X Q n:Nat} {s:WoS} (hs:St w0 (WoB W E A R X Q n s::L) w) (hev:∀ x∈s.e.l,x.2.evs.length < 4611686018427387904) (o:OpW) {a:Bool} {s':WoS} (HV:Hid (s.apply o=(a,s'))):
  Calls Tryz.prog 112 #[.pointer (some ⟨W,0,none⟩),valW o] w fun r w'=>r= .returned (.bool a)∧St w0 (WoB W E A R X Q n s'::L) w':=by
 obtain⟨k,⟨i,g⟩,c,v⟩:=o
 have HEV:=Lib.hid hev
 clear hev
 by_cases h1:k=1
 ·have d1:(k==1)=true:=by simp[h1]
  obtain⟨⟨m2,x2,e2⟩,HI⟩:∃ z,Hid (s.e.del (i,g)=z):=⟨_,rfl⟩
  have h3:=HV.out
  rw[WoS.apply_del (show (⟨k,(i,g),c,v⟩:OpW).k=1 from h1) HI.out] at h3
  cases h3
  have ht:Hid (s.e.top=e2.top):=by have:=EnS.del_top (s:=s.e) (h:=(i,g));rw[HI.out] at this;exact this.symm
  clear HV
  clear h1
  go_enter Tryz.func112,Tryz.ntmps112
  go_upto_region 2 with (first
   | (refine wpl_box_v (v:=valW ⟨k,(i,g),c,v⟩) rfl hs ?_;clear hs;intro g3 w hs;replace hs:St w0 (blk g3 (c7w ⟨k,(i,g),c,v⟩).toArray 99::_) w:=hs))
  have c0:World.cell? _ ⟨g3,0,none⟩=some (.int .i64 k):=Rd.blk (by rfl) _ hs
  go_upto_region 5 with (fail)
  replace hs:St w0 (blk W (woC E X Q s.held n s.e.top) 132::blk g3 (c7w ⟨k,(i,g),c,v⟩).toArray 99::EnB E A R s.e::ReB X s.r::QuB Q s.q::L) _:=(hs.rot.woopen).pm
  clear c0
  refine wp_mix 1 [0,1,2,3,4,5,6] [7,8,9,10,11] hs.only2 (by kernel_rfl) (by kernel_rfl) fun hne=>?_
  have r0:=(show Rd w0 [blk W (woC E X Q s.held n s.e.top) 132,blk g3 (c7w ⟨k,(i,g),c,v⟩).toArray 99] ⟨W,0,none⟩ (.pointer (some ⟨E,0,none⟩)) from Rd.blk (by rfl)).alln
  have r1:=(show Rd w0 [blk W (woC E X Q s.held n s.e.top) 132,blk g3 (c7w ⟨k,(i,g),c,v⟩).toArray 99] ⟨g3,1,none⟩ (.int .i64 i) from (Rd.blk rfl).tail).alln
  have r2:=(show Rd w0 [blk W (woC E X Q s.held n s.e.top) 132,blk g3 (c7w ⟨k,(i,g),c,v⟩).toArray 99] ⟨g3,2,none⟩ (.int .i64 g) from (Rd.blk rfl).tail).alln
  simp only[opsAt,List.getElem?_toArray,List.getElem?_cons_succ,List.getElem?_cons_zero]
  repeat (go_big_quiet_step (fail))
  refine wpQuiet_nil ?_
  clear hne r0 r1 r2
  replace hs:=hs.drew
  refine wpMix_next [7] (by kernel_rfl) (by simp) (fun c hc=>?_)
  simp only[List.mem_singleton] at hc
  subst hc
  refine⟨_,rfl,?_⟩
  go_wp2_with (first
   | (go_at_call 23;refine (en_del (h:=(i,g)) hs.up2 HEV.out HI).mono ?_;clear hs;rintro r w ⟨rfl,hs⟩;replace hs:=hs.dn2))
  replace hs:St w0 (blk W (woC E X Q s.held n s.e.top) 132::blk g3 (c7w ⟨k,(i,g),c,v⟩).toArray 99::EnB E A R e2::ReB X s.r::QuB Q s.q::L) w:=hs.pm
  refine mix_quiet [8,9,10,11] [] hs.only2 (by kernel_rfl) (by kernel_rfl) fun hne=>?_
  simp only[opsAt,List.getElem?_toArray,List.getElem?_cons_succ,List.getElem?_cons_zero]
  repeat (go_big_quiet_step (fail))
  refine wpQuiet_nil ?_
  clear hne
  refine wpMix_end ?_
  go_wp2
  go_ret
  rw[ht.out] at hs
  exact⟨rfl,St.woshut (s:={ s with e:=e2 }) ((hs.pm (M:=blk g3 (c7w ⟨k,(i,g),c,v⟩).toArray 99::blk W (woC E X Q s.held n e2.top) 132::EnB E A R e2::ReB X s.r::QuB Q s.q::L)).drop)⟩
 ·have d1:(k==1)=false:=by simp[h1]
  by_cases h2:k=2
  ·have d2:(k==2)=true:=by simp[h2]
   obtain⟨⟨u2,b2,x2,e2⟩,HI⟩:∃ z,Hid (s.e.ins (i,g) c v=z):=⟨_,rfl⟩
   have h3:=HV.out
   rw[WoS.apply_ins (show (⟨k,(i,g),c,v⟩:OpW).k=2 from h2) HI.out] at h3
   cases h3
   have ht:Hid (s.e.top=e2.top):=by have:=EnS.ins_top (s:=s.e) (h:=(i,g)) (c:=c) (v:=v);rw[HI.out] at this;exact this.symm
   clear HV
   clear h1 h2
   go_enter Tryz.func112,Tryz.ntmps112
   go_upto_region 2 with (first
    | (refine wpl_box_v (v:=valW ⟨k,(i,g),c,v⟩) rfl hs ?_;clear hs;intro g3 w hs;replace hs:St w0 (blk g3 (c7w ⟨k,(i,g),c,v⟩).toArray 99::_) w:=hs))
   have c0:World.cell? _ ⟨g3,0,none⟩=some (.int .i64 k):=Rd.blk (by rfl) _ hs
   go_upto_region 7 with (fail)
   replace hs:St w0 (blk W (woC E X Q s.held n s.e.top) 132::blk g3 (c7w ⟨k,(i,g),c,v⟩).toArray 99::EnB E A R s.e::ReB X s.r::QuB Q s.q::L) _:=(hs.rot.woopen).pm
   clear c0
   refine wp_mix 1 [0,1,2,3,4,5,6,7,8,9,10] [11,12,13,14,15,16] hs.only2 (by kernel_rfl) (by kernel_rfl) fun hne=>?_
   have r0:=(show Rd w0 [blk W (woC E X Q s.held n s.e.top) 132,blk g3 (c7w ⟨k,(i,g),c,v⟩).toArray 99] ⟨W,0,none⟩ (.pointer (some ⟨E,0,none⟩)) from Rd.blk (by rfl)).alln
   have r1:=(show Rd w0 [blk W (woC E X Q s.held n s.e.top) 132,blk g3 (c7w ⟨k,(i,g),c,v⟩).toArray 99] ⟨g3,1,none⟩ (.int .i64 i) from (Rd.blk rfl).tail).alln
   have r2:=(show Rd w0 [blk W (woC E X Q s.held n s.e.top) 132,blk g3 (c7w ⟨k,(i,g),c,v⟩).toArray 99] ⟨g3,2,none⟩ (.int .i64 g) from (Rd.blk rfl).tail).alln
   have r3:=(show Rd w0 [blk W (woC E X Q s.held n s.e.top) 132,blk g3 (c7w ⟨k,(i,g),c,v⟩).toArray 99] ⟨g3,3,none⟩ (.int .i64 c) from (Rd.blk rfl).tail).alln
   have r4:=(show Rd w0 [blk W (woC E X Q s.held n s.e.top) 132,blk g3 (c7w ⟨k,(i,g),c,v⟩).toArray 99] ⟨g3,4,none⟩ (.int .i64 v.k) from (Rd.blk rfl).tail).alln
   have r5:=(show Rd w0 [blk W (woC E X Q s.held n s.e.top) 132,blk g3 (c7w ⟨k,(i,g),c,v⟩).toArray 99] ⟨g3,5,none⟩ (.int .i64 v.a) from (Rd.blk rfl).tail).alln
   have r6:=(show Rd w0 [blk W (woC E X Q s.held n s.e.top) 132,blk g3 (c7w ⟨k,(i,g),c,v⟩).toArray 99] ⟨g3,6,none⟩ (.int .i64 v.b) from (Rd.blk rfl).tail).alln
   simp only[opsAt,List.getElem?_toArray,List.getElem?_cons_succ,List.getElem?_cons_zero]
   repeat (go_big_quiet_step (fail))
   refine wpQuiet_nil ?_
   clear hne r0 r1 r2 r3 r4 r5 r6
   replace hs:=hs.drew
   refine wpMix_next [11] (by kernel_rfl) (by simp) (fun c hc=>?_)
   simp only[List.mem_singleton] at hc
   subst hc
   refine⟨_,rfl,?_⟩
   go_wp2_with (first
    | (go_at_call 25;refine (en_ins (h:=(i,g)) hs.up2 HEV.out HI).mono ?_;clear hs;rintro r w ⟨rfl,hs⟩;replace hs:=hs.dn2))
   replace hs:St w0 (blk W (woC E X Q s.held n s.e.top) 132::blk g3 (c7w ⟨k,(i,g),c,v⟩).toArray 99::EnB E A R e2::ReB X s.r::QuB Q s.q::L) w:=hs.pm
   refine mix_quiet [12,13,14,15,16] [] hs.only2 (by kernel_rfl) (by kernel_rfl) fun hne=>?_
   simp only[opsAt,List.getElem?_toArray,List.getElem?_cons_succ,List.getElem?_cons_zero]
   repeat (go_big_quiet_step (fail))
   refine wpQuiet_nil ?_
   clear hne
   refine wpMix_end ?_
   go_wp2
   go_ret
   rw[ht.out] at hs
   exact⟨rfl,St.woshut (s:={ s with e:=e2 }) ((hs.pm (M:=blk g3 (c7w ⟨k,(i,g),c,v⟩).toArray 99::blk W (woC E X Q s.held n e2.top) 132::EnB E A R e2::ReB X s.r::QuB Q s.q::L)).drop)⟩
  ·have d2:(k==2)=false:=by simp[h2]
   obtain⟨⟨u2,x2,e2⟩,HI⟩:∃ z,Hid (s.e.rem (i,g) c=z):=⟨_,rfl⟩
   have h3:=HV.out
   rw[WoS.apply_rem (show (⟨k,(i,g),c,v⟩:OpW).k ≠ 1 from h1) h2 HI.out] at h3
   cases h3
   have ht:Hid (s.e.top=e2.top):=by have:=EnS.rem_top (s:=s.e) (h:=(i,g)) (c:=c);rw[HI.out] at this;exact this.symm
   clear HV
   clear h1 h2
   go_enter Tryz.func112,Tryz.ntmps112
   go_upto_region 2 with (first
    | (refine wpl_box_v (v:=valW ⟨k,(i,g),c,v⟩) rfl hs ?_;clear hs;intro g3 w hs;replace hs:St w0 (blk g3 (c7w ⟨k,(i,g),c,v⟩).toArray 99::_) w:=hs))
   have c0:World.cell? _ ⟨g3,0,none⟩=some (.int .i64 k):=Rd.blk (by rfl) _ hs
   go_upto_region 3 with (fail)
   replace hs:St w0 (blk W (woC E X Q s.held n s.e.top) 132::blk g3 (c7w ⟨k,(i,g),c,v⟩).toArray 99::EnB E A R s.e::ReB X s.r::QuB Q s.q::L) _:=(hs.rot.woopen).pm
   clear c0
   refine wp_mix 1 [0,1,2,3,4,5,6,7,8] [9,10,11,12,13] hs.only2 (by kernel_rfl) (by kernel_rfl) fun hne=>?_
   have r0:=(show Rd w0 [blk W (woC E X Q s.held n s.e.top) 132,blk g3 (c7w ⟨k,(i,g),c,v⟩).toArray 99] ⟨W,0,none⟩ (.pointer (some ⟨E,0,none⟩)) from Rd.blk (by rfl)).alln
   have r1:=(show Rd w0 [blk W (woC E X Q s.held n s.e.top) 132,blk g3 (c7w ⟨k,(i,g),c,v⟩).toArray 99] ⟨g3,1,none⟩ (.int .i64 i) from (Rd.blk rfl).tail).alln
   have r2:=(show Rd w0 [blk W (woC E X Q s.held n s.e.top) 132,blk g3 (c7w ⟨k,(i,g),c,v⟩).toArray 99] ⟨g3,2,none⟩ (.int .i64 g) from (Rd.blk rfl).tail).alln
   have r3:=(show Rd w0 [blk W (woC E X Q s.held n s.e.top) 132,blk g3 (c7w ⟨k,(i,g),c,v⟩).toArray 99] ⟨g3,3,none⟩ (.int .i64 c) from (Rd.blk rfl).tail).alln
   simp only[opsAt,List.getElem?_toArray,List.getElem?_cons_succ,List.getElem?_cons_zero]
   repeat (go_big_quiet_step (fail))
   refine wpQuiet_nil ?_
   clear hne r0 r1 r2 r3
   replace hs:=hs.drew
   refine wpMix_next [9] (by kernel_rfl) (by simp) (fun c hc=>?_)
   simp only[List.mem_singleton] at hc
   subst hc
   refine⟨_,rfl,?_⟩
   go_wp2_with (first
    | (go_at_call 27;refine (en_rem (h:=(i,g)) hs.up2 HEV.out HI).mono ?_;clear hs;rintro r w ⟨rfl,hs⟩;replace hs:=hs.dn2))
   replace hs:St w0 (blk W (woC E X Q s.held n s.e.top) 132::blk g3 (c7w ⟨k,(i,g),c,v⟩).toArray 99::EnB E A R e2::ReB X s.r::QuB Q s.q::L) w:=hs.pm
   refine mix_quiet [10,11,12,13] [] hs.only2 (by kernel_rfl) (by kernel_rfl) fun hne=>?_
   simp only[opsAt,List.getElem?_toArray,List.getElem?_cons_succ,List.getElem?_cons_zero]
   repeat (go_big_quiet_step (fail))
   refine wpQuiet_nil ?_
   clear hne
   refine wpMix_end ?_
   go_wp2
   go_ret
   rw[ht.out] at hs
   exact⟨rfl,St.woshut (s:={ s with e:=e2 }) ((hs.pm (M:=blk g3 (c7w ⟨k,(i,g),c,v⟩).toArray 99::blk W (woC E X Q s.held n e2.top) 132::EnB E A R e2::ReB X s.r::QuB Q s.q::L)).drop)⟩
section
variable {s t u:WoS} {o:OpW} {a b:Nat} {c:Bool}
theorem WoS.run_snoc:∀ {l:List OpW} {s:WoS} {a b:Nat},s.run l=(a,b,t)→t.apply o=(c,u)→s.run (l++[o])=(if c then a+1 else a,if c then b else b+1,u)
 | [],s,a,b,h1,h2=>by
  unfold WoS.run at h1
  cases h1
  rw[List.nil_append]
  unfold WoS.run
  rw[h2]
  unfold WoS.run
  rfl
 | p::l,s,a,b,h1,h2=>by
  unfold WoS.run at h1
  rw[List.cons_append]
  unfold WoS.run
  cases hp:s.apply p with
  | mk y s2=>
   rw[hp] at h1
   simp only at h1 ⊢
   cases hr:s2.run l with
   | mk a2 r2=>
    obtain⟨b2,t2⟩:=r2
    rw[hr] at h1
    simp only at h1
    cases h1
    rw[WoS.run_snoc hr h2]
    cases y <;> cases c <;> rfl
theorem EvL.apply {k:Nat} (h:EvL k s.e.l) (ha:s.apply o=(c,u)):EvL (k+1) u.e.l:=by
 by_cases h1:o.k=1
 ·have:=WoS.apply_del (s:=s) h1 rfl
  rw[this] at ha
  cases ha
  exact h.del
 ·by_cases h2:o.k=2
  ·have:=WoS.apply_ins (s:=s) h2 rfl
   rw[this] at ha
   cases ha
   exact h.ins
  ·have:=WoS.apply_rem (s:=s) h1 h2 rfl
   rw[this] at ha
   cases ha
   exact h.rem
theorem EvL.run:∀ {l:List OpW} {s t:WoS} {k a b:Nat},EvL k s.e.l→s.run l=(a,b,t)→EvL (k+l.length) t.e.l
 | [],s,t,k,a,b,h,hr=>by
  unfold WoS.run at hr
  cases hr
  exact h
 | o::l,s,t,k,a,b,h,hr=>by
  unfold WoS.run at hr
  cases hp:s.apply o with
  | mk y s2=>
   rw[hp] at hr
   simp only at hr
   cases h2:s2.run l with
   | mk a2 r2=>
    obtain⟨b2,t2⟩:=r2
    rw[h2] at hr
    simp only at hr
    cases hr
    have:=EvL.run (EvL.apply h hp) h2
    rwa [List.length_cons,show k+(l.length+1)=k+1+l.length by omega]
theorem WoS.maint_bad (h0:s.free ≠ 0):s.maint=(V3.z,s.free,s):=by unfold WoS.maint;rw[if_neg h0]
theorem WoS.maint_ok (h0:s.free=0) (hr:({ s with e:=⟨s.e.top,mergeA s.e.cs,s.e.l⟩,q:=[] }:WoS).run s.q=(a,b,u)):s.maint=(⟨((idxS 2 s.e.cs).length:Nat),(a:Nat),(b:Nat)⟩,0,u):=by unfold WoS.maint;rw[if_pos h0,hr]
end
theorem zeroRp:(Tryz.prog.info? 102).bind (·.zero)=some (val3 V3.z):=by kernel_rfl
theorem sizeRp (v:V3):(Tryz.prog.info? 102).map (·.size)=some (val3 v).cells.size:=by kernel_rfl
theorem sizeRpn:(Tryz.prog.info? 102).map (·.size)=some 3:=by kernel_rfl
theorem aggRp:aggB Tryz.prog 102=true:=by kernel_rfl
theorem build_r0 (w:World):(Instr.build 102 #[]).run Tryz.prog w= .ok (val3 V3.z) w:=by kernel_rfl
theorem build_r1 (m:Int) (w:World):(Instr.build 102 #[(0, .int .i64 m)]).run Tryz.prog w= .ok (val3 ⟨m,0,0⟩) w:=by kernel_rfl
theorem size_in:(Tryz.prog.info? 3).map (·.size)=some 1:=by kernel_rfl
theorem Wr.rp1 {w0:World} {g:Nat} {x y z y':Int} {t:TypeId} {L:List As}:Wr w0 (YtiafdlofcjbllaaGreatDoor.blk g (YtiafdlofcjbllaaGreatDoor.c3 ⟨x,y,z⟩).toArray t::L) ⟨g,1,none⟩ (.int .i64 y') (YtiafdlofcjbllaaGreatDoor.blk g (YtiafdlofcjbllaaGreatDoor.c3 ⟨x,y',z⟩).toArray t::L):=Wr.blk (by simp[YtiafdlofcjbllaaGreatDoor.c3])
theorem Wr.rp2 {w0:World} {g:Nat} {x y z y':Int} {t:TypeId} {L:List As}:Wr w0 (YtiafdlofcjbllaaGreatDoor.blk g (YtiafdlofcjbllaaGreatDoor.c3 ⟨x,y,z⟩).toArray t::L) ⟨g,2,none⟩ (.int .i64 y') (YtiafdlofcjbllaaGreatDoor.blk g (YtiafdlofcjbllaaGreatDoor.c3 ⟨x,y,y'⟩).toArray t::L):=Wr.blk (by simp[YtiafdlofcjbllaaGreatDoor.c3])
set_option maxHeartbeats 8000000 in
theorem wo_maint {w0 w:World} {L:List As} {W E A R X Q n:Nat} {s:WoS} (hT:Tab w0) (hs:St w0 (WoB W E A R X Q n s::L) w) {K:Nat} (hev:EvL K s.e.l) (hK:K≤1000000000) (hq:s.q.length≤10000) {u:V3} {x:Int} {s':WoS} (HV:Hid (s.maint=(u,x,s'))):
  Calls Tryz.prog 54 #[.pointer (some ⟨W,0,none⟩)] w fun r w'=>r= .returned (.tuple #[val3 u, .int .i64 x])∧St w0 (WoB W E A R X Q n s'::L) w':=by
 obtain⟨f,HM⟩:∃ z,Hid (s.free=z):=⟨_,rfl⟩
 by_cases h0:f=0
 ·subst h0
  obtain⟨⟨a2,b2,t2⟩,HR⟩:∃ z,Hid ((({ s with e:=⟨s.e.top,mergeA s.e.cs,s.e.l⟩,q:=[] }:WoS)).run s.q=z):=⟨_,rfl⟩
  obtain⟨m,HN⟩:∃ z,Hid ((idxS 2 s.e.cs).length=z):=⟨_,rfl⟩
  have h1:=HV.out
  rw[WoS.maint_ok HM.out HR.out,HN.out] at h1
  cases h1
  have HEV:=Lib.hid hev
  have HQ:=Lib.hid hq
  obtain⟨s1,HS1⟩:∃ z,Hid (({ s with e:=⟨s.e.top,mergeA s.e.cs,s.e.l⟩,q:=[] }:WoS)=z):=⟨_,rfl⟩
  rw[HS1.out] at HR
  have HEV1:Hid (EvL K s1.e.l):=by rw[← HS1.out];exact hev
  obtain⟨mq,HMQ⟩:∃ z,Hid (s.q.length=z):=⟨_,rfl⟩
  have hmq:mq≤10000:=HMQ.out ▸ hq
  clear HV hev hq
  go_enter Tryz.func54,Tryz.ntmps54
  go_upto_region 4 with (first
   | (refine wpl_alloc zeroRp hs ?_;clear hs;intro g2 w hs;replace hs:St w0 (blk g2 (YtiafdlofcjbllaaGreatDoor.c3 V3.z).toArray 102::_) w:=hs)
   | (go_at_call 104;refine (wofree_c hs.drop).mono ?_;rw[HM.out];rintro r w' ⟨rfl,hg⟩;replace hs:=hs.grew hg;clear hg))
  replace hs:=hs.rot.woopen
  have kW:=Rd.blk (k:=0) (v:= .pointer (some ⟨E,0,none⟩)) (by rfl) _ hs
  have k0:=Rd.en0 _ hs.drop
  replace hs:St w0 (EnB E A R s.e::blk g2 (YtiafdlofcjbllaaGreatDoor.c3 V3.z).toArray 102::blk W (woC E X Q s.held n s.e.top) 132::ReB X s.r::QuB Q s.q::L) _:=hs.pm
  go_upto_region 5 with (first
   | (go_at_call 37;refine (en_merge hT hs HN).mono ?_;clear hs kW k0;rintro r w ⟨B,cB,rfl,hs⟩;replace hs:=hs.drop)
   | (refine wpl_buildS (build_r1 _) rfl ?_)
   | (refine wpl_alloc zeroRp hs ?_;clear hs;intro g5 w hs;replace hs:St w0 (blk g5 (YtiafdlofcjbllaaGreatDoor.c3 V3.z).toArray 102::_) w:=hs)
   | (refine wpl_store_agg (v:=val3 ⟨(m:Nat),0,0⟩) rfl rfl (sizeRp _) hs WrA.slot3 ?_;clear hs;intro w hs))
  replace hs:St w0 (QuB Q s.q::blk W (woC E X Q s.held n s.e.top) 132::blk g5 (YtiafdlofcjbllaaGreatDoor.c3 ⟨(m:Nat),0,0⟩).toArray 102::EnB E A R ⟨s.e.top,mergeA s.e.cs,s.e.l⟩::blk g2 (YtiafdlofcjbllaaGreatDoor.c3 V3.z).toArray 102::ReB X s.r::L) _:=hs.pm
  have kQ:=Rd.blk (k:=2) (v:= .pointer (some ⟨Q,0,none⟩)) (by rfl) _ hs.drop
  go_upto_region 6 with (first
   | (go_at_call 111;refine (qdrain_c hs).mono ?_;rw[HMQ.out];clear hs kQ;rintro r w ⟨D,cD,rfl,hs⟩))
  replace hs:=St.woshut (s:=({ s with e:=⟨s.e.top,mergeA s.e.cs,s.e.l⟩,q:=[] }:WoS)) (hs.pm (M:=blk W (woC E X Q s.held n s.e.top) 132::EnB E A R ⟨s.e.top,mergeA s.e.cs,s.e.l⟩::ReB X s.r::QuB Q []::own D mq cD 99 7 (s.q.flatMap c7w)::blk g5 (YtiafdlofcjbllaaGreatDoor.c3 ⟨(m:Nat),0,0⟩).toArray 102::blk g2 (YtiafdlofcjbllaaGreatDoor.c3 V3.z).toArray 102::L))
  rw[HS1.out] at hs
  replace hs:St w0 (WoB W E A R X Q n s1::blk g5 (YtiafdlofcjbllaaGreatDoor.c3 ⟨(m:Nat),0,0⟩).toArray 102::own D mq cD 99 7 (s.q.flatMap c7w)::blk g2 (YtiafdlofcjbllaaGreatDoor.c3 V3.z).toArray 102::L) _:=hs.pm
  go_loopw [33] (fun iv wr=>∃ (k a b:Nat) (t:WoS),k≤mq∧a≤k∧b≤k∧iv= .int .i64 (k:Nat)∧Hid (s1.run (s.q.take k)=(a,b,t))∧Hid (EvL (K+k) t.e.l)∧St w0 (WoB W E A R X Q n t::blk g5 (YtiafdlofcjbllaaGreatDoor.c3 ⟨(m:Nat),(a:Nat),(b:Nat)⟩).toArray 102::own D mq cD 99 7 (s.q.flatMap c7w)::blk g2 (YtiafdlofcjbllaaGreatDoor.c3 V3.z).toArray 102::L) wr) (fun iv _=>mq - (intOf iv).toNat)
  case atStart=>exact⟨0,0,0,s1,Nat.zero_le _,Nat.le_refl _,Nat.le_refl _,rfl,(by rw[Hid];unfold WoS.run;rfl),HEV1,hs⟩
  case round=>
   clear hs
   obtain⟨k,a,b,t,hk,hak,hbk,rfl,Hr,He,hs⟩:=hrel
   by_cases hlt:k < mq
   ·obtain⟨o,ho⟩:∃ o,Hid (s.q[k]? =some o):=⟨s.q[k]'(by rw[HMQ.out];exact hlt),List.getElem?_eq_getElem _⟩
    obtain⟨gD,rfl⟩:=hs.up2.own_at (by omega)
    obtain⟨⟨y,t'⟩,HA⟩:∃ z,Hid (t.apply o=z):=⟨_,rfl⟩
    have He2:Hid (EvL (K+(k+1)) t'.e.l):=EvL.apply He.out HA.out
    have Hr2:Hid (s1.run (s.q.take (k+1))=(if y then a+1 else a,if y then b else b+1,t')):=by rw[Hid,List.take_add_one,ho.out];exact WoS.run_snoc Hr.out HA.out
    have hlt2:=He.out.lt (by omega)
    have HLT:=Lib.hid hlt2
    clear hlt2
    go_upto_region 8 with (first
     | (refine wpl_load_agg (cs:=c7w o) (b:=gD) (o:=k*7) rfl aggW (sizeW o) hs ?hh ?_;case hh=>exact fun j x hx=>(Rd.own (flat_get c7len ho.out j x hx)).tail.tail)
     | (refine wpl_alloc zeroWo hs ?_;clear hs;intro g7 w hs)
     | (refine wpl_store_agg (v:=valW o) rfl rfl (sizeWv o) hs WrA.slotW ?_;clear hs;intro w hs))
    replace hs:St w0 (blk g7 (c7w o).toArray 99::WoB W E A R X Q n t::_) _:=hs
    cases y
    ·go_wp2_with (first
      | (refine wpl_load_agg (cs:=c7w o) (b:=g7) (o:=0) rfl aggW (sizeW o) hs (opW_rd o) ?_)
      | (go_at_call 112;refine (wo_apply hs.drop HLT.out o HA).mono ?_;clear hs;rintro r w ⟨rfl,hs⟩;replace hs:=hs.rot;have p1:World.cell? _ ⟨g5,2,none⟩=some (.int .i64 (b:Nat)):=Rd.blk (by rfl) _ hs)
      | (refine wpl_store (v:= .int .i64 ((b+1:Nat):Int)) rfl (by go_num) rfl size_in hs Wr.rp2 ?_;clear hs p1;intro w hs))
     go_roundw
     case rel=>exact⟨k+1,a,b+1,t',by omega,by omega,by omega,by first | rfl | go_num,Hr2,He2,hs.rot⟩
     case measure=>simp[intOf];omega
    ·go_wp2_with (first
      | (refine wpl_load_agg (cs:=c7w o) (b:=g7) (o:=0) rfl aggW (sizeW o) hs (opW_rd o) ?_)
      | (go_at_call 112;refine (wo_apply hs.drop HLT.out o HA).mono ?_;clear hs;rintro r w ⟨rfl,hs⟩;replace hs:=hs.rot;have p1:World.cell? _ ⟨g5,1,none⟩=some (.int .i64 (a:Nat)):=Rd.blk (by rfl) _ hs)
      | (refine wpl_store (v:= .int .i64 ((a+1:Nat):Int)) rfl (by go_num) rfl size_in hs Wr.rp1 ?_;clear hs p1;intro w hs))
     go_roundw
     case rel=>exact⟨k+1,a+1,b,t',by omega,by omega,by omega,by first | rfl | go_num,Hr2,He2,hs.rot⟩
     case measure=>simp[intOf];omega
   ·obtain rfl:k=mq:=by omega
    have h9:=Hr.out
    rw[List.take_of_length_le (by rw[HMQ.out];exact Nat.le_refl _),HR.out] at h9
    cases h9
    clear HR Hr He HEV HEV1
    replace hs:St w0 (blk g2 (YtiafdlofcjbllaaGreatDoor.c3 V3.z).toArray 102::blk g5 (YtiafdlofcjbllaaGreatDoor.c3 ⟨(m:Nat),(a2:Nat),(b2:Nat)⟩).toArray 102::WoB W E A R X Q n s'::own D k cD 99 7 (s.q.flatMap c7w)::L) _:=hs.pm
    go_wp2_with (first
     | (refine wpl_load3 (v:=⟨(m:Nat),(a2:Nat),(b2:Nat)⟩) (g:=g5) rfl (has3_tail (has3_slot (t:=102))) aggRp sizeRpn hs ?_)
     | (refine wpl_store_agg (v:=val3 ⟨(m:Nat),(a2:Nat),(b2:Nat)⟩) rfl rfl (sizeRp _) hs WrA.slot3 ?_;clear hs;intro w hs))
    refine bodyPost_at (results_cell_tmp Tryz.results54 rfl (hs.slot_run aggRp (sizeRp _))) rfl ?_
    exact⟨rfl,hs.drop.drop.rot.drop⟩
 ·have e1:(f==0)=false:=by simpa using h0
  have e2:(f !=0)=true:=by simpa using h0
  have h1:=HV.out
  rw[WoS.maint_bad (by rw[HM.out];exact h0),HM.out] at h1
  cases h1
  clear HV h0 hev hq
  go_enter Tryz.func54,Tryz.ntmps54
  (go_wp2_with (first
   | (refine wpl_alloc zeroRp hs ?_;clear hs;intro g2 w hs;replace hs:St w0 (blk g2 (YtiafdlofcjbllaaGreatDoor.c3 V3.z).toArray 102::_) w:=hs)
   | (go_at_call 104;refine (wofree_c hs.drop).mono ?_;rw[HM.out];rintro r w' ⟨rfl,hg⟩;replace hs:=hs.grew hg;clear hg)
   | (refine wpl_buildS build_r0 rfl ?_)
   | (refine wpl_store_agg (v:=val3 V3.z) rfl rfl (sizeRp _) hs WrA.slot3 ?_;clear hs;intro w hs)))
  refine bodyPost_at (results_cell_tmp Tryz.results54 rfl (hs.slot_run aggRp (sizeRp _))) rfl ?_
  exact⟨rfl,hs.drop⟩
end
end Go.Proofs.YtiafdlofcjbllaaGreatDoor
