/-
  A world in memory (world.World): the statements' own awake; their Config.
-/
import Derived.Test.YtiafdlofcjbllaaGreatDoorZW7
import Derived.Test.YtiafdlofcjbllaaGreatDoorZW3
import Derived.Test.YtiafdlofcjbllaaGreatDoorZW4
import Derived.Test.YtiafdlofcjbllaaGreatDoorZW6
import Derived.Test.YtiafdlofcjbllaaGreatDoorZE3
import Derived.Test.YtiafdlofcjbllaaGreatDoorZW2
set_option maxRecDepth 100000
namespace Go.Proofs.YtiafdlofcjbllaaGreatDoor
section
open Go Go.RowKit
structure Awk16 (s0 s1 s2 s3:WoS):Prop where
 rs:s0.give 2=((0,1),0,s1)
 df:s1.defer [⟨2,(0,1),0,⟨1,4,0⟩⟩]=(0,s2)
 mt:s2.maint=(⟨1,1,0⟩,0,s3)
 gt:s3.get (0,1) 0=(⟨1,4,0⟩,0)
 q1:s1.q.length≤10000
 q2:s2.q.length≤10000
 ev:EvL 0 s2.e.l
theorem awk16 (X:Nat) (v:Value) (F:Option Nat):∃ s1 s2 s3,Awk16 ⟨⟨3,newA 5,[(X,newSl ⟨1,1,0⟩ v F)]⟩,[],[],false⟩ s1 s2 s3:=by
 have h0:EvL 0 [(X,newSl ⟨1,1,0⟩ v F)]:=fun x hx=>by
  simp only[List.mem_singleton] at hx
  rw[hx];exact Nat.le_refl _
 refine⟨⟨⟨3,(newA 5).set 0 (2,1),[(X,newSl ⟨1,1,0⟩ v F)]⟩,[],[],false⟩,⟨⟨3,(newA 5).set 0 (2,1),[(X,newSl ⟨1,1,0⟩ v F)]⟩,[⟨2,(0,1),0,⟨1,4,0⟩⟩],[],false⟩,((⟨⟨3,(newA 5).set 0 (2,1),[(X,newSl ⟨1,1,0⟩ v F)]⟩,[⟨2,(0,1),0,⟨1,4,0⟩⟩],[],false⟩:WoS).maint).2.2,⟨by kernel_rfl,by kernel_rfl,by kernel_rfl,by kernel_rfl,Nat.zero_le _,(show 1≤10000 by decide),h0⟩⟩
theorem eqR_in (a b c d e f:Int) (w:World):(Op.equalIn 10000 102 (.agg #[.int .i64 a, .int .i64 b, .int .i64 c]) (.agg #[.int .i64 d, .int .i64 e, .int .i64 f])).run Tryz.prog w= .ok ((a==d) && ((b==e) && (c==f))) w:=by
 have u3:=Tryz.underlying3
 have a3:=Tryz.isAgg3
 have z3:=Tryz.sizeOf3
 have hS:Tryz.prog.underlying 102=some (.struct (Tryz.prog.fieldsOf 102)):=by kernel_rfl
 have hp:Tryz.prog.stoodInHeld 102=false:=by kernel_rfl
 rw[show (10000:Nat)=9999+1 from rfl,run_equalIn_agg w 9999 102 _ _ hS hp]
 simp only[Program.fieldsOf,Tryz.underlying102]
 go_simp
 by_cases h1:a=d <;> by_cases h2:b=e <;> by_cases h3:c=f <;> simp[h1,h2,h3]
theorem eqR_bin (a b c d e f:Int) (w:World):(binOp .eql 102 (.agg #[.int .i64 a, .int .i64 b, .int .i64 c]) (.agg #[.int .i64 d, .int .i64 e, .int .i64 f])).run Tryz.prog w= .ok (.bool ((a==d) && ((b==e) && (c==f)))) w:=by
 rw[run_eql_struct,eqR_in];rfl
theorem build_op2 (k i g:Int) (v:V3) (w:World):(Instr.build 99 #[(0, .int .i64 k),(1,hv (i,g)),(3,val3 v)]).run Tryz.prog w= .ok (valW ⟨k,(i,g),0,v⟩) w:=by kernel_rfl
theorem build_v14 (w:World):(Instr.build 38 #[(0, .int .i64 1),(1, .int .i64 4)]).run Tryz.prog w= .ok (val3 ⟨1,4,0⟩) w:=by kernel_rfl
theorem build_rp2 (a b:Int) (w:World):(Instr.build 102 #[(0, .int .i64 a),(1, .int .i64 b)]).run Tryz.prog w= .ok (val3 ⟨a,b,0⟩) w:=by kernel_rfl
theorem c7_single (o:OpW):[o].flatMap c7w=c7w o:=by simp
attribute [local irreducible] wpList Calls Code.wp okI okN pS tS memS getG pG insS delS getV pV tV okVal newSl SlS.put SlS.err SlS.putU SlS.putB descE SlS.take SlS.set SlS.errSet SlS.get SlS.has stV EnS.live EnS.get EnS.slot EnS.ins EnS.set EnS.rem EnS.parts EnS.del ofN strL delA newA giveV cs3 errDs WoS.give WoS.defer WoS.maint WoS.get
set_option maxHeartbeats 8000000 in
theorem awake16 {w5:World} (hT:Tab w5):Calls Tryz.prog 46 #[] w5 fun r w'=>r= .returned (.bool true)∧Grew w5 w':=by
 have hs:=St.start w5
 have hm1:Hid (([⟨1,1,0⟩]:List V3).length=1):=rfl
 have hk0:Hid (([]:List Int).length=0):=rfl
 go_enter Tryz.func46,Tryz.ntmps46
 go_upto_region 2 with (first
  | (refine wpl_buildS build_d11 rfl ?_)
  | (refine wpl_build1 (v:=val3 ⟨1,1,0⟩) elemDs (by decide) rfl rfl hs ?_;clear hs;intro G w1 hs;replace hs:St w5 [blk G (c3 ⟨1,1,0⟩).toArray 97] w1:=hs)
  | (refine wpl_buildS (build_cf 5 3 (some ⟨G,0,none⟩) 1 1) rfl ?_)
  | (go_at_call 47;refine (wo_new (n:=5) (top:=3) hs (by decide) (by decide) (by decide) (by decide) (ds:=[⟨1,1,0⟩]) (m:=1) hm1 (by decide) (by rw[cs3_one];exact RdS.blk) err_one (fun _=>⟨rfl,rfl⟩) hk0 (by decide) (by decide) RdS.nil).mono ?_;clear hs;rintro r w ⟨W,E,A,R,X,Q,l,HNL,rfl,hs⟩))
 obtain⟨Y,v,F,rfl⟩:=newL_one HNL.out
 obtain⟨s1,s2,s3,HK⟩:=awk16 Y v F
 have HK:=Lib.hid HK
 clear HNL
 obtain⟨s0,HS0⟩:∃ z,Hid ((⟨⟨3,newA 5,[(Y,newSl ⟨1,1,0⟩ v F)]⟩,[],[],false⟩:WoS)=z):=⟨_,rfl⟩
 rw[HS0.out] at hs HK
 go_upto_region 4 with (fail)
 have kW:=Rd.wo0 _ hs
 have k0:=Rd.woe0 _ hs
 go_upto_region 5 with (first
  | (go_at_call 21;refine (wo_raise hT hs (Lib.hid HK.out.rs)).mono ?_;clear hs k0 kW;rintro r w ⟨rfl,hs⟩)
  | (refine wpl_alloc zeroH hs ?_;clear hs;intro g3 w hs)
  | (refine wpl_store_agg (v:=hv (0,1)) rfl rfl (by rw[sizeHd];rfl) hs WrA.slotH ?_;clear hs;intro w hs))
 go_upto_region 6 with (first
  | (refine wpl_load_agg (cs:=h2 (0,1)) (b:=g3) (o:=0) rfl aggH (sizeHd _) hs ?hh ?_;case hh=>exact fun j x hx=>(Rd.blk (by simpa using hx)))
  | (refine wpl_buildS build_v14 rfl ?_)
  | (refine wpl_buildS (build_op2 2 0 1 ⟨1,4,0⟩) rfl ?_)
  | (refine wpl_build1 (v:=valW ⟨2,(0,1),0,⟨1,4,0⟩⟩) elemW (by decide) rfl rfl hs ?_;clear hs;intro G2 w hs;replace hs:St w5 (WoB W E A R X Q 5 s1::blk G2 (c7w ⟨2,(0,1),0,⟨1,4,0⟩⟩).toArray 99::blk g3 (h2 (0,1)).toArray 40::_) w:=hs.pm)
  | (go_at_call 53;refine (wo_defer (l:=[⟨2,(0,1),0,⟨1,4,0⟩⟩]) HK.out.q1 (by decide) hs (by rw[c7_single];exact RdS.blk) (Lib.hid HK.out.df)).mono ?_;clear hs;rintro r w ⟨rfl,hs⟩))
 go_upto_region 7 with (first
  | (go_at_call 54;refine (wo_maint hT hs HK.out.ev (by decide) HK.out.q2 (Lib.hid HK.out.mt)).mono ?_;clear hs;rintro r w ⟨rfl,hs⟩)
  | (refine wpl_alloc zeroRp hs ?_;clear hs;intro g6 w hs;replace hs:St w5 (blk g6 (c3 V3.z).toArray 102::_) w:=hs)
  | (refine wpl_store_agg (v:=val3 ⟨1,1,0⟩) rfl rfl (sizeRp _) hs WrA.slot3 ?_;clear hs;intro w hs))
 replace hs:St w5 [WoB W E A R X Q 5 s3,blk g6 (c3 ⟨1,1,0⟩).toArray 102,blk G2 (c7w ⟨2,(0,1),0,⟨1,4,0⟩⟩).toArray 99,blk g3 (h2 (0,1)).toArray 40,blk G (c3 ⟨1,1,0⟩).toArray 97] w:=hs.pm
 go_upto_region 8 with (first
  | (refine wpl_load_agg (cs:=h2 (0,1)) (b:=g3) (o:=0) rfl aggH (sizeHd _) hs ?hh ?_;case hh=>exact fun j x hx=>(Rd.blk (by simpa using hx)).tail.tail.tail)
  | (go_at_call 55;refine (wo_get (h:=(0,1)) hs (Lib.hid HK.out.gt)).mono ?_;clear hs;rintro r w ⟨rfl,hs⟩)
  | (refine wpl_alloc zero3 hs ?_;clear hs;intro g8 w hs;replace hs:St w5 (blk g8 (c3 V3.z).toArray 38::_) w:=hs)
  | (refine wpl_store_agg (v:=val3 ⟨1,4,0⟩) rfl rfl (size3 _) hs WrA.slot3 ?_;clear hs;intro w hs))
 have p0:World.cell? _ ⟨g6,0,none⟩=some (.int .i64 1):=Rd.blk (by rfl) _ hs.drop.drop
 have p1:World.cell? _ ⟨g6,1,none⟩=some (.int .i64 1):=Rd.blk (by rfl) _ hs.drop.drop
 have p2:World.cell? _ ⟨g6,2,none⟩=some (.int .i64 0):=Rd.blk (by rfl) _ hs.drop.drop
 have q1:World.cell? _ ⟨g8,1,none⟩=some (.int .i64 4):=Rd.blk (by rfl) _ hs
 have hb:=build_rp2
 have he:=eqR_bin
 go_wp2
 go_ret
 exact⟨rfl,hs.made_grew⟩
end
section
open Go Go.RowKit
section
variable {P:Program} {ops:Array Oper} {Q:Exit→Act→World→Prop} {rest:List Oper} {a:Act} {w0 w:World} {L:List As} {dst:Option Tmp} {ty:TypeId} {pos:String} {after:Array Edge}
end
theorem own_of_blkN {g n C:Nat} {t:TypeId} {cs:List Value} (hn:cs.length=n*C) (hm:n≤maxLen):∀ h,blk g cs.toArray t h→own (some ⟨g,0,none⟩) n n t C cs h:=fun _ hb=>⟨hn, .inr ⟨g,cs.toArray,rfl,Nat.le_refl _,hm,by simp[hn],by simp[← hn],hb⟩⟩
section
variable {w0 w:World} {L:List As} {W E A R X Q n:Nat} {s s':WoS}
theorem wohold_v (hs:St w0 (WoB W E A R X Q n s::L) w) {f:Int} (hf:Hid (s.free=f)) (hs':Hid (({ s with held:=true }:WoS)=s')):Calls Tryz.prog 62 #[.pointer (some ⟨W,0,none⟩)] w fun e w'=>e= .returned (.int .i64 f)∧St w0 (WoB W E A R X Q n s'::L) w':=by
 rw[← hf.out,← hs'.out];exact wohold_c hs
theorem wofreeW_v (hs:St w0 (WoB W E A R X Q n s::L) w) (hs':Hid (({ s with held:=false }:WoS)=s')):Calls Tryz.prog 68 #[.pointer (some ⟨W,0,none⟩)] w fun e w'=>e= .returned (.tuple #[])∧St w0 (WoB W E A R X Q n s'::L) w':=by
 rw[← hs'.out];exact wofreeW_c hs
theorem woheld_v (hs:St w0 (WoB W E A R X Q n s::L) w) {b:Bool} (hb:Hid (s.held=b)):Calls Tryz.prog 51 #[.pointer (some ⟨W,0,none⟩)] w fun e w'=>e= .returned (.bool b)∧Grew w w':=by
 rw[← hb.out];exact woheld_c hs
end
end
end Go.Proofs.YtiafdlofcjbllaaGreatDoor
