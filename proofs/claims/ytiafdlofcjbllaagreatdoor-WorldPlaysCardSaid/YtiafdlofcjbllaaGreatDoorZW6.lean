/-
  A world in memory (world.World): Queue, Ents, Res, New; the statements' Config.
-/
import Derived.Test.YtiafdlofcjbllaaGreatDoorZW2
import Derived.Test.YtiafdlofcjbllaaGreatDoorZL
import Derived.Test.YtiafdlofcjbllaaGreatDoorZG
import Derived.Test.YtiafdlofcjbllaaGreatDoorZE3
set_option maxRecDepth 100000
namespace Go.Proofs.YtiafdlofcjbllaaGreatDoor
section
open Go Go.RowKit
attribute [local irreducible] wpList Calls Code.wp stV EnS.live EnS.slot okVal newSl descE newA cs3 errDs descsL
section
variable {w0 w:World} {L:List As} {W E A R X Q n:Nat} {s:WoS}
theorem wo_queue (hs:St w0 (WoB W E A R X Q n s::L) w):Calls Tryz.prog 56 #[.pointer (some ⟨W,0,none⟩)] w fun r w'=>r= .returned (.pointer (some ⟨Q,0,none⟩))∧w=w':=by
 have kW:=Rd.blk (k:=2) (v:= .pointer (some ⟨Q,0,none⟩)) (by rfl) _ hs.woopen
 clear hs
 go_enter Tryz.func56,Tryz.ntmps56
 go_wp2
 go_ret
 exact⟨rfl,rfl⟩
theorem wo_ents (hs:St w0 (WoB W E A R X Q n s::L) w):Calls Tryz.prog 66 #[.pointer (some ⟨W,0,none⟩)] w fun r w'=>r= .returned (.pointer (some ⟨E,0,none⟩))∧w=w':=by
 have kW:=Rd.blk (k:=0) (v:= .pointer (some ⟨E,0,none⟩)) (by rfl) _ hs.woopen
 clear hs
 go_enter Tryz.func66,Tryz.ntmps66
 go_wp2
 go_ret
 exact⟨rfl,rfl⟩
theorem wo_res (hs:St w0 (WoB W E A R X Q n s::L) w):Calls Tryz.prog 49 #[.pointer (some ⟨W,0,none⟩)] w fun r w'=>r= .returned (.pointer (some ⟨X,0,none⟩))∧w=w':=by
 have kW:=Rd.blk (k:=1) (v:= .pointer (some ⟨X,0,none⟩)) (by rfl) _ hs.woopen
 clear hs
 go_enter Tryz.func49,Tryz.ntmps49
 go_wp2
 go_ret
 exact⟨rfl,rfl⟩
theorem wo_en (hs:St w0 (WoB W E A R X Q n s::L) w):St w0 (EnB E A R s.e::YtiafdlofcjbllaaGreatDoor.blk W (woC E X Q s.held n s.e.top) 132::ReB X s.r::QuB Q s.q::L) w:=hs.woopen.rot
theorem wo_alloc (hs:St w0 (WoB W E A R X Q n s::L) w):Calls Tryz.prog 39 #[.pointer (some ⟨E,0,none⟩)] w fun r w'=>r= .returned (.pointer (some ⟨A,0,none⟩))∧w=w':=by
 have k0:=Rd.en0 _ (wo_en hs)
 clear hs
 go_enter Tryz.func39,Tryz.ntmps39
 go_wp2
 go_ret
 exact⟨rfl,rfl⟩
theorem wo_raise (hT:Tab w0) (hs:St w0 (WoB W E A R X Q n s::L) w) {d:Hdl} {x:Int} {s':WoS} (HV:Hid (s.give 2=(d,x,s'))):
  Calls Tryz.prog 21 #[.pointer (some ⟨A,0,none⟩)] w fun e w'=>e= .returned (.tuple #[hv d, .int .i64 x])∧St w0 (WoB W E A R X Q n s'::L) w':=by
 obtain⟨⟨d2,x2,c⟩,HI⟩:∃ z,Hid (giveV 2 s.e.cs=z):=⟨_,rfl⟩
 have h1:=HV.out
 unfold WoS.give at h1
 rw[HI.out] at h1
 cases h1
 exact (en_raise hT (wo_en hs) HI).mono fun r w' ⟨h1,h2⟩=>⟨h1,St.woshut (s:={ s with e:=⟨s.e.top,c,s.e.l⟩ }) h2.rot⟩
theorem Rd.wo0:Rd w0 (WoB W E A R X Q n s::L) ⟨W,0,none⟩ (.pointer (some ⟨E,0,none⟩)):=fun w hs=>Rd.blk (by rfl) w hs.woopen
theorem Rd.woe0:Rd w0 (WoB W E A R X Q n s::L) ⟨E,0,none⟩ (.pointer (some ⟨A,0,none⟩)):=fun w hs=>Rd.en0 w (wo_en hs)
end
theorem build_th (E:Nat) (w:World):(Instr.build 126 #[(0, .pointer (some ⟨E,0,none⟩))]).run Tryz.prog w= .ok (.agg #[.pointer (some ⟨E,0,none⟩)]) w:=by kernel_rfl
theorem build_on (E:Nat) (w:World):(Instr.build 128 #[(0, .pointer (some ⟨E,0,none⟩))]).run Tryz.prog w= .ok (.agg #[.pointer (some ⟨E,0,none⟩)]) w:=by kernel_rfl
theorem build_wa (E:Nat) (w:World):(Instr.build 130 #[(0, .pointer (some ⟨E,0,none⟩))]).run Tryz.prog w= .ok (.agg #[.pointer (some ⟨E,0,none⟩)]) w:=by kernel_rfl
theorem build_wo (E X Q n:Nat) (top:Int) (w:World):(Instr.build 132 #[(0, .agg #[.pointer (some ⟨E,0,none⟩)]),(1, .agg #[.pointer (some ⟨X,0,none⟩)]),(2, .agg #[.pointer (some ⟨Q,0,none⟩)]),(4, .int .i64 (n:Nat)),(5, .int .i64 top)]).run Tryz.prog w= .ok (.agg (woC E X Q false n top)) w:=by kernel_rfl
theorem build_cf4 (n top:Int) (A:Option Addr) (m cA:Nat) (B:Option Addr) (k cB:Nat) (w:World):(Instr.build 28 #[(0, .int .i64 n),(1, .int .i64 top),(2, .slice A m cA),(3, .slice B k cB)]).run Tryz.prog w= .ok (.agg (cfC n top A m cA B k cB).toArray) w:=by kernel_rfl
set_option maxHeartbeats 4000000 in
theorem wo_new {w0 w:World} {L:List As} (hs:St w0 L w) {n:Nat} {top:Int} (h1:1≤n) (h2:n≤65536) (h3:1≤top) (h4:top≤4294967295) {A:Option Addr} {m cA:Nat} {ds:List V3} (hm:Hid (ds.length=m)) (hmb:m≤140737488355328) (hr:RdS w0 L A (cs3 ds)) (he:Hid (errDs 0 ds=0))
  {B:Option Addr} {k cB:Nat} {rs:List Int} (hB:B=none→k=0∧cB=0) (hk:Hid (rs.length=k)) (hk2:k≤32) (hkc:k≤cB) (hrs:RdS w0 L B (i8v rs)):
  Calls Tryz.prog 47 #[.agg (cfC (n:Nat) top A m cA B k cB).toArray] w fun r w'=>∃ W E A1 R X Q l,Hid (NewL ds l)∧r= .returned (.tuple #[.pointer (some ⟨W,0,none⟩), .int .i64 0])∧St w0 (WoB W E A1 R X Q n ⟨⟨top,newA n,l⟩,[],rs,false⟩::L) w':=by
 have b1:=build_th
 have b2:=build_on
 have b3:=build_wa
 have b4:=build_wo
 go_enter Tryz.func47,Tryz.ntmps47
 go_upto_region 1 with (first
  | (refine wpl_box_v (v:= .agg (cfC (n:Nat) top A m cA B k cB).toArray) rfl hs ?_;clear hs;intro g1 w hs;replace hs:St w0 (blk g1 (cfC (n:Nat) top A m cA B k cB).toArray 28::L) w:=hs))
 have c0:World.cell? _ ⟨g1,0,none⟩=some (.int .i64 (n:Nat)):=Rd.blk (by rfl) _ hs
 have c1:World.cell? _ ⟨g1,1,none⟩=some (.int .i64 top):=Rd.blk (by rfl) _ hs
 have c2:World.cell? _ ⟨g1,2,none⟩=some (.slice A m cA):=Rd.blk (by rfl) _ hs
 go_upto_region 4 with (first
  | (go_at_call 14;refine (en_new_ok hs h1 h2 h3 h4 hm hmb hr.tail he).mono ?_;clear hs c0 c1 c2;rintro r w ⟨E,A1,R,l,HNL,rfl,hs⟩))
 replace hs:St w0 (blk g1 (cfC (n:Nat) top A m cA B k cB).toArray 28::EnB E A1 R ⟨top,newA n,l⟩::L) _:=hs.pm
 refine wp_mix 3 [0,1,2,3,8,9,10,11] [4,5,6,7,12,13,14,15] hs.only (by kernel_rfl) (by kernel_rfl) fun hne=>?_
 have r0:=(show Rd w0 [blk g1 (cfC (n:Nat) top A m cA B k cB).toArray 28] ⟨g1,0,none⟩ (.int .i64 (n:Nat)) from Rd.blk (by rfl)).alln
 have r1:=(show Rd w0 [blk g1 (cfC (n:Nat) top A m cA B k cB).toArray 28] ⟨g1,1,none⟩ (.int .i64 top) from Rd.blk (by rfl)).alln
 have r3:=(show Rd w0 [blk g1 (cfC (n:Nat) top A m cA B k cB).toArray 28] ⟨g1,3,none⟩ (.slice B k cB) from Rd.blk (by rfl)).alln
 simp only[opsAt,List.getElem?_toArray,List.getElem?_cons_succ,List.getElem?_cons_zero]
 repeat (go_big_quiet_step (fail))
 refine wpQuiet_nil ?_
 clear hne r0 r1 r3
 replace hs:=hs.drew
 refine wpMix_next [4] (by kernel_rfl) (by simp) (fun c hc=>?_)
 simp only[List.mem_singleton] at hc
 subst hc
 refine⟨_,rfl,?_⟩
 go_wp2_with (first
  | (go_at_call 100;refine (renew_c hs hB hk hk2 hkc hrs.tail.tail).mono ?_;clear hs;rintro r w ⟨X,rfl,hs⟩))
 replace hs:St w0 (blk g1 (cfC (n:Nat) top A m cA B k cB).toArray 28::EnB E A1 R ⟨top,newA n,l⟩::ReB X rs::L) w:=hs.pm
 replace hs:St w0 (blk g1 (cfC (n:Nat) top A m cA B k cB).toArray 28::EnB E A1 R ⟨top,newA n,l⟩::ReB X rs::L) w:=hs.pm
 refine mix_quiet [5] [6,7,12,13,14,15] hs.only (by kernel_rfl) (by kernel_rfl) fun hne=>?_
 simp only[opsAt,List.getElem?_toArray,List.getElem?_cons_succ,List.getElem?_cons_zero]
 repeat (go_big_quiet_step (fail))
 refine wpQuiet_nil ?_
 clear hne
 refine wpMix_next [6] (by kernel_rfl) (by simp) (fun c hc=>?_)
 simp only[List.mem_singleton] at hc
 subst hc
 refine⟨_,rfl,?_⟩
 go_wp2_with (first
  | (go_at_call 101;refine (qnew_c hs).mono ?_;clear hs;rintro r w ⟨Q,rfl,hs⟩))
 replace hs:St w0 (blk g1 (cfC (n:Nat) top A m cA B k cB).toArray 28::EnB E A1 R ⟨top,newA n,l⟩::ReB X rs::QuB Q []::L) w:=hs.pm
 refine mix_quiet [7,12] [13,14,15] hs.only (by kernel_rfl) (by kernel_rfl) fun hne=>?_
 simp only[opsAt,List.getElem?_toArray,List.getElem?_cons_succ,List.getElem?_cons_zero]
 repeat (go_big_quiet_step (fail))
 refine wpQuiet_nil ?_
 clear hne
 refine wpMix_next [13] (by kernel_rfl) (by simp) (fun c hc=>?_)
 simp only[List.mem_singleton] at hc
 subst hc
 refine⟨_,rfl,?_⟩
 refine wpl_box_v (v:= .agg (woC E X Q false n top)) rfl hs ?_
 clear hs
 intro W w hs
 replace hs:St w0 (blk W (woC E X Q false n top) 132::blk g1 (cfC (n:Nat) top A m cA B k cB).toArray 28::EnB E A1 R ⟨top,newA n,l⟩::ReB X rs::QuB Q []::L) w:=hs
 replace hs:St w0 (blk g1 (cfC (n:Nat) top A m cA B k cB).toArray 28::EnB E A1 R ⟨top,newA n,l⟩::ReB X rs::QuB Q []::blk W (woC E X Q false n top) 132::L) w:=hs.pm
 refine wpList_nil ⟨rfl,?_⟩
 refine mix_quiet [14,15] [] hs.only (by kernel_rfl) (by kernel_rfl) fun hne=>?_
 simp only[opsAt,List.getElem?_toArray,List.getElem?_cons_succ,List.getElem?_cons_zero]
 try simp only[Act.put,List.setIfInBounds_toArray,List.set_cons_succ,List.set_cons_zero]
 repeat (go_big_quiet_step (fail))
 refine wpQuiet_nil ?_
 clear hne
 refine wpMix_end ?_
 go_wp2
 go_ret2
 exact⟨W,E,A1,R,X,Q,l,HNL,rfl,St.woshut (s:=⟨⟨top,newA n,l⟩,[],rs,false⟩) (hs.pm (M:=blk W (woC E X Q false n top) 132::EnB E A1 R ⟨top,newA n,l⟩::ReB X rs::QuB Q []::blk g1 (cfC (n:Nat) top A m cA B k cB).toArray 28::L)) |> fun h=>h.rot.drop⟩
theorem vv2 (a b:Int):∀ v∈[Value.int .i64 a, .int .i64 b],v.cells=#[v]:=by
 intro v hv
 simp only[List.mem_cons,List.not_mem_nil,or_false] at hv
 rcases hv with rfl | rfl <;> rfl
set_option maxHeartbeats 2000000 in
theorem config_c {w0 w:World} {L:List As} (hs:St w0 L w) {A:Option Addr} {n cA:Nat} {zs:List Int} (hn:Hid (zs.length=n)) (hnb:n≤9223372036854775807) (hr:RdS w0 [] A (zs.map (Value.int .i64))) {ds:List V3} (hds:Hid (descsL zs=ds)) {z0 z1:Int} {N q3:Nat} (hN:Hid (lo8 z0 % 14+1=N)) (hq:Hid ((z1 % 4).toNat=q3)):
  Calls Tryz.prog 58 #[.int .i64 z0, .int .i64 z1, .slice A n cA] w fun r w'=>∃ B m cB G,Hid (ds.length=m)∧r= .returned (.agg (cfC (N:Nat) ((q3:Nat)+1) B m cB (some ⟨G,0,none⟩) 2 2).toArray)∧St w0 (own B m cB 97 3 (cs3 ds)::blk G (i8v [3, -7]).toArray 2::L) w':=by
 have h255:bits .and .i64 z0 255=(lo8 z0:Nat):=and_255 z0
 have h3b:bits .and .i64 z1 3=((z1 % 4).toNat:Nat):=and_m (p:=2) (by decide)
 have hN2:=hN.out
 rw[hq.out] at h3b
 have hq4:q3 < 4:=by have:=hq.out;omega
 obtain⟨q8,hq8⟩:∃ q,lo8 z0=q:=⟨_,rfl⟩
 rw[hq8] at h255 hN2
 have hN3:(q8:Int) % 14+1=(N:Int):=by omega
 clear hq8 hN2
 go_enter Tryz.func58,Tryz.ntmps58
 (go_wp2_with (first
  | (refine wpl_alloc zeroCf hs ?_;clear hs;intro g6 w hs;replace hs:St w0 (blk g6 (cfC 0 0 none 0 0 none 0 0).toArray 28::_) w:=hs)
  | (go_at_call 13;refine (descs_c hs hn hnb hr hds).mono ?_;clear hs;rintro r w ⟨B,m,cB,hm,rfl,hs⟩)
  | (refine wpl_buildN (vs:=[.int .i64 3, .int .i64 (-7)]) elem8 rfl rfl (show 2≤16777216 by decide) (show 0 < 2 by decide) (vv2 _ _) hs ?_;clear hs;intro G w hs)
  | (refine wpl_buildS (build_cf4 (N:Nat) ((q3:Nat)+1) B m cB (some ⟨G,0,none⟩) 2 2) rfl ?_)
  | (refine wpl_store_agg (v:= .agg (cfC (N:Nat) ((q3:Nat)+1) B m cB (some ⟨G,0,none⟩) 2 2).toArray) rfl rfl (sizeCfv _ _ _ _ _ _ _ _) (hs.pm (M:=blk g6 (cfC 0 0 none 0 0 none 0 0).toArray 28::blk G (i8v [3, -7]).toArray 2::own B m cB 97 3 (cs3 ds)::L)) WrA.slotCf ?_;clear hs;intro w hs)))
 refine bodyPost_at (results_cell1 Tryz.results58 rfl (hs.slot_run aggCf (sizeCfv _ _ _ _ _ _ _ _))) rfl ?_
 exact⟨B,m,cB,G,hm,rfl,hs.drop.rot⟩
end
end Go.Proofs.YtiafdlofcjbllaaGreatDoor
