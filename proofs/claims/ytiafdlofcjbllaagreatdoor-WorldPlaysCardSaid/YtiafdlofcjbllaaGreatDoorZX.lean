/-
  XJX: joined of XTb5 XDsLaw XDs1 XDs2 XDs3 XDs4 XDs5 XCpy XDs6L XDs6 XDs7 XDs8 XSpPl.
-/
import Derived.Test.YtiafdlofcjbllaaGreatDoorZQ
import Derived.Test.YtiafdlofcjbllaaGreatDoorZU
import Derived.Deep.DeepCutAuto
import Derived.Deep.CutBlock
import Derived.Test.YtiafdlofcjbllaaGreatDoorZC
import Derived.Test.YtiafdlofcjbllaaGreatDoorZA
import Derived.Laws.IdiomCopy
import Derived.Deep.CutRange
import Derived.Test.YtiafdlofcjbllaaGreatDoorZK
import Derived.Test.YtiafdlofcjbllaaGreatDoorZL
set_option maxRecDepth 100000
namespace Go.Proofs.YtiafdlofcjbllaaGreatDoor
section
open Go Go.RowKit
attribute [local irreducible] wpList Calls Code.wp
abbrev tbC (d:V3) (F:Value) (A:Option Addr) (n cap:Nat):Array Value:=#[.int .i64 d.k, .int .i64 d.a, .int .i64 d.b, .slice A n cap,F]
def TbB (D:Nat) (d:V3) (F:Value) (rs:List Row):As:=fun h=>rs.length≤65536∧∃ A cap,star (blk D (tbC d F A rs.length cap) 153) (own A rs.length cap 225 4 (cs4 rs)) h
theorem St.tbopen {w0 w:World} {D:Nat} {d:V3} {F:Value} {rs:List Row} {L:List As} (hs:St w0 (TbB D d F rs::L) w):
  rs.length≤65536∧∃ A cap,St w0 (YtiafdlofcjbllaaGreatDoor.blk D (tbC d F A rs.length cap) 153::own A rs.length cap 225 4 (cs4 rs)::L) w:=by
 obtain⟨hb,h,r,hd,hu,a,b,hab,rfl,⟨hok,A,cap,ht⟩,hl⟩:=hs
 have h1:St w0 (star (YtiafdlofcjbllaaGreatDoor.blk D (tbC d F A rs.length cap) 153) (own A rs.length cap 225 4 (cs4 rs))::L) w:=⟨hb,_,r,hd,hu,a,b,hab,rfl,ht,hl⟩
 exact⟨hok,A,cap,h1.ent (Ent.open2 fun _ h=>h)⟩
theorem St.tbshut {w0 w:World} {D:Nat} {d:V3} {F:Value} {rs:List Row} {L:List As} {A:Option Addr} {cap:Nat} (hok:rs.length≤65536) (hs:St w0 (YtiafdlofcjbllaaGreatDoor.blk D (tbC d F A rs.length cap) 153::own A rs.length cap 225 4 (cs4 rs)::L) w):St w0 (TbB D d F rs::L) w:=
 (hs.ent (Ent.shut2 fun _ h=>h)).conv fun _ h=>⟨hok,A,cap,h⟩
theorem Rd.tb0 {w0:World} {D n cap:Nat} {d:V3} {F:Value} {A:Option Addr} {L:List As} {t:TypeId}:Rd w0 (YtiafdlofcjbllaaGreatDoor.blk D (tbC d F A n cap) t::L) ⟨D,3,none⟩ (.slice A n cap):=Rd.blk rfl
theorem Wr.tb0 {w0:World} {D n cap n' cap':Nat} {d:V3} {F:Value} {A A':Option Addr} {L:List As} {t:TypeId}:Wr w0 (YtiafdlofcjbllaaGreatDoor.blk D (tbC d F A n cap) t::L) ⟨D,3,none⟩ (.slice A' n' cap') (YtiafdlofcjbllaaGreatDoor.blk D (tbC d F A' n' cap') t::L):=Wr.blk (by simp)
def findR (rs:List Row) (i:Int):Int:=match rs.findIdx? (fun r=>r.1==i) with
 | some k=>k
 | none=> -1
theorem findR_none {rs:List Row} {i:Int} (h:∀ r∈rs,r.1 ≠ i):findR rs i= -1:=by
 unfold findR
 have:rs.findIdx? (fun r=>r.1==i)=none:=by
  rw[List.findIdx?_eq_none_iff]
  intro r hr
  simpa using h r hr
 rw[this]
theorem findR_some {rs:List Row} {i:Int} {k:Nat} {r:Row} (h:rs[k]? =some r) (hr:r.1=i) (hm:∀ j r',j < k→rs[j]? =some r'→r'.1 ≠ i):findR rs i=k:=by
 unfold findR
 have:rs.findIdx? (fun r=>r.1==i)=some k:=by
  rw[List.findIdx?_eq_some_iff_getElem]
  obtain⟨hk,he⟩:=List.getElem?_eq_some_iff.1 h
  refine⟨hk,by rw[he];simpa using hr,fun j hj=>?_⟩
  have:=hm j (rs[j]'(by omega)) hj (List.getElem?_eq_getElem _)
  simpa using this
 rw[this]
theorem t5_find {w0 w:World} {L:List As} {D:Nat} {d:V3} {F:Value} {rs:List Row} (hs:St w0 (TbB D d F rs::L) w) (i:Int):
  Calls Tryz.prog 139 #[.pointer (some ⟨D,3,none⟩), .int .i64 i] w fun e w'=>e= .returned (.int .i64 (findR rs i))∧w=w':=by
 obtain⟨hl,A,cap,hs⟩:=hs.tbopen
 have hc:=Rd.tb0 w hs
 go_enter Tryz.func139,Tryz.ntmps139
 go_wp2
 go_loop [5] (fun v=>∃ k:Nat,v= .int .i64 (k:Nat)∧k≤rs.length∧Hid (∀ j r',j < k→rs[j]? =some r'→r'.1 ≠ i)) (fun v=>rs.length - (intOf v).toNat)
 case atStart=>exact⟨0,rfl,Nat.zero_le _,fun j r' h=>by omega⟩
 case round=>
  obtain⟨k,rfl,hk,HK⟩:=hrel
  by_cases hlt:k < rs.length
  ·obtain⟨g,rfl⟩:=(hs.ent (Ent.swap _ _ _)).own_at (by omega)
   obtain⟨r,hr⟩:∃ r,rs[k]? =some r:=⟨_,List.getElem?_eq_getElem hlt⟩
   have hci:=(Rd.own (w0:=w0) (g:=g) (n:=rs.length) (cap:=cap) (e:=225) (size:=4) (L:=L) (cs4_get hr 0 _ rfl)).tail (p:=blk D (tbC d F (some ⟨g,0,none⟩) rs.length cap) 153) _ hs
   rw[Nat.add_zero] at hci
   by_cases he:r.1=i
   ·have HF:=Lib.hid (findR_some hr he HK.out)
    have hb:(r.1==i)=true:=by simpa using he
    clear hr he HK
    go_wp2
    go_ret
    exact⟨ret_int HF.out.symm,rfl⟩
   ·have HK2:Hid (∀ j r',j < k+1→rs[j]? =some r'→r'.1 ≠ i):=fun j r' hj h=>by
     by_cases e:j=k
     ·subst e;rw[hr] at h;injection h with h;subst h;exact he
     ·exact HK.out j r' (by omega) h
    have hb:(r.1==i)=false:=by simpa using he
    clear hr he HK
    go_wp2
    go_round
    case rel=>exact⟨k+1,by go_num,by omega,HK2⟩
    case measure=>simp[intOf] <;> omega
  ·have HF:=Lib.hid (findR_none (rs:=rs) (i:=i) fun r hr=>by
    obtain⟨j,hj,he⟩:=List.getElem_of_mem hr
    exact HK.out j r (by omega) (by rw[List.getElem?_eq_getElem hj,he]))
   clear HK
   go_wp2
   go_ret
   exact⟨ret_int HF.out.symm,rfl⟩
theorem index_c (i:Int) (w:World):Calls Tryz.prog 164 #[.int .i64 i] w fun e w'=>e= .returned (.bool (decide (0≤i∧i < 65536)))∧w=w':=by
 go_enter Tryz.func164,Tryz.ntmps164
 by_cases h0:0≤i
 ·by_cases h1:i < 65536
  ·go_wp2
   go_ret
   exact⟨ret_bool (by simp[h0,h1]),rfl⟩
  ·go_wp2
   go_ret
   exact⟨ret_bool (by rw[Bool.eq_iff_iff];simp;omega),rfl⟩
 ·go_wp2
  go_ret
  exact⟨ret_bool (by rw[Bool.eq_iff_iff];simp;omega),rfl⟩
theorem index_v {i:Int} {b:Bool} (h:Hid (okI i=b)) (w:World):Calls Tryz.prog 164 #[.int .i64 i] w fun e w'=>e= .returned (.bool b)∧w=w':=by
 rw[← h.out];unfold okI;exact index_c i w
attribute [local irreducible] okI
theorem t5_find_v {w0 w:World} {L:List As} {D:Nat} {d:V3} {F:Value} {rs:List Row} (hs:St w0 (TbB D d F rs::L) w) {i k:Int} (h:Hid (findR rs i=k)):
  Calls Tryz.prog 139 #[.pointer (some ⟨D,3,none⟩), .int .i64 i] w fun e w'=>e= .returned (.int .i64 k)∧w=w':=by
 rw[← h.out];exact t5_find hs i
theorem elem4:ElemOk Tryz.prog 148 225 4 32:=ElemOk.of Tryz.underlying148 (z:= .agg (c4 (0,V3.z)).toArray) (by kernel_rfl) rfl (by decide)
theorem size_rows:(Tryz.prog.info? 148).map (·.size)=some 1:=by kernel_rfl
theorem size4 (r:Row):(Tryz.prog.info? 225).map (·.size)=some (Value.agg (c4 r).toArray).cells.size:=by kernel_rfl
theorem t5_get {w0 w:World} {L:List As} {D:Nat} {d:V3} {F:Value} {rs:List Row} (hs:St w0 (TbB D d F rs::L) w) {i:Int} {k:Nat} {r:Row} (hk:Hid (findR rs i=(k:Nat))) (hr:rs[k]? =some r):
  Calls Tryz.prog 91 #[.pointer (some ⟨D,3,none⟩), .int .i64 i] w fun e w'=>e= .returned (.tuple #[val3 r.2, .bool true])∧Grew w w':=by
 have hl:=(List.getElem?_eq_some_iff.1 hr).1
 have hs0:=hs
 obtain⟨_,A,cap,hs⟩:=hs.tbopen
 obtain⟨g,rfl⟩:=(hs.ent (Ent.swap _ _ _)).own_at (by omega)
 have hr1:=Rd.tb0 (w0:=w0) (d:=d) (F:=F) (D:=D) (n:=rs.length) (cap:=cap) (A:=some ⟨g,0,none⟩) (t:=153) (L:=own (some ⟨g,0,none⟩) rs.length cap 225 4 (cs4 rs)::L)
 have hrv:∀ j x,(c3 r.2)[j]? =some x→Rd w0 (blk D (tbC d F (some ⟨g,0,none⟩) rs.length cap) 153::own (some ⟨g,0,none⟩) rs.length cap 225 4 (cs4 rs)::L) ⟨g,k*4+1+j,none⟩ x:=fun j x hx=>by
  have:=cs4_get hr (j+1) x (by simpa [c4] using hx)
  rw[show k*4+1+j=k*4+(j+1) by omega]
  exact (Rd.own this).tail
 clear hr
 go_enter Tryz.func91,Tryz.ntmps91
 go_upto_region 1 with (fail)
 have hw:=(St.start w).alloc (c3 V3.z).toArray 38
 generalize w.heap.size=g4 at hw ⊢
 refine wp_gen hw ?_
 clear hw
 intro w1 hw
 have hc1:=hr1 _ (hs.grew hw.made_grew)
 go_wp2_with (first
  | (go_at_call 139;refine (t5_find_v (hs0.grew hw.made_grew) hk).mono ?_;rintro e w' ⟨rfl,rfl⟩)
  | (refine wpl_load_agg (cs:=c3 r.2) (b:=g) (o:=k*4+1) rfl agg3 (size3 r.2) (hs.grew hw.made_grew) hrv ?_)
  | (refine wpl_store_agg (v:=val3 r.2) rfl rfl (size3 _) hw WrA.slot3 ?_;clear hw hc1;intro w3 hw))
 refine bodyPost_at (results_cell_tmp Tryz.results91 rfl (hw.slot_run agg3 (size3 _))) rfl ?_
 exact⟨rfl,hw.made_grew⟩
theorem t5_get_no {w0 w:World} {L:List As} {D:Nat} {d:V3} {F:Value} {rs:List Row} (hs:St w0 (TbB D d F rs::L) w) {i:Int} (hk:Hid (findR rs i= -1)):
  Calls Tryz.prog 91 #[.pointer (some ⟨D,3,none⟩), .int .i64 i] w fun e w'=>e= .returned (.tuple #[val3 V3.z, .bool false])∧Grew w w':=by
 go_enter Tryz.func91,Tryz.ntmps91
 go_upto_region 1 with (fail)
 have hw:=(St.start w).alloc (c3 V3.z).toArray 38
 generalize w.heap.size=g4 at hw ⊢
 refine wp_gen hw ?_
 clear hw
 intro w1 hw
 go_wp2_with (first
  | (go_at_call 139;refine (t5_find_v (hs.grew hw.made_grew) hk).mono ?_;rintro e w' ⟨rfl,rfl⟩)
  | (refine wpl_store_agg (v:=val3 V3.z) rfl rfl (size3 _) hw WrA.slot3 ?_;clear hw;intro w3 hw))
 refine bodyPost_at (results_cell_tmp Tryz.results91 rfl (hw.slot_run agg3 (size3 _))) rfl ?_
 exact⟨rfl,hw.made_grew⟩
set_option maxHeartbeats 1000000 in
theorem t5_put_old {w0 w:World} {L:List As} {D:Nat} {d:V3} {F:Value} {rs:List Row} (hs:St w0 (TbB D d F rs::L) w) {i:Int} (v:V3) (hi:Hid (okI i=true)) {k:Nat} {r:Row} (hk:Hid (findR rs i=(k:Nat))) (hr:rs[k]? =some r):
  Calls Tryz.prog 138 #[.pointer (some ⟨D,3,none⟩), .int .i64 i,val3 v] w fun e w'=>e= .returned (.tuple #[val3 r.2, .bool true])∧St w0 (TbB D d F (rs.set k (r.1,v))::L) w':=by
 have hl:=(List.getElem?_eq_some_iff.1 hr).1
 have HR:=Lib.hid hr
 clear hr
 go_enter Tryz.func138,Tryz.ntmps138
 go_upto_region 3 with (first
  | (refine wpl_box_v (v:=val3 v) rfl hs ?_;clear hs;intro g5 w hs)
  | (refine wpl_alloc zero3 hs ?_;clear hs;intro g6 w hs)
  | (go_at_call 164;refine (index_v hi _).mono ?_;rintro e w' ⟨rfl,rfl⟩))
 replace hs:St w0 (TbB D d F rs::blk g5 (c3 v).toArray 38::blk g6 (c3 V3.z).toArray 38::L) w:=(hs.ent (Ent.skip (Ent.skip (Ent.refl _)))).ent (Ent.cons _ (Ent.swap _ _ _))
 go_upto_region 5 with (first
  | (go_at_call 139;refine (t5_find_v hs hk).mono ?_;rintro e w' ⟨rfl,rfl⟩))
 obtain⟨hlen,A,cap,hs⟩:=hs.tbopen
 obtain⟨g,rfl⟩:=(hs.ent (Ent.swap _ _ _)).own_at (by omega)
 have hc1:=Rd.tb0 w hs
 have hrv:∀ j x,(c3 r.2)[j]? =some x→Rd w0 (blk D (tbC d F (some ⟨g,0,none⟩) rs.length cap) 153::own (some ⟨g,0,none⟩) rs.length cap 225 4 (cs4 rs)::blk g5 (c3 v).toArray 38::blk g6 (c3 V3.z).toArray 38::L) ⟨g,k*4+1+j,none⟩ x:=fun j x hx=>by
  have:=cs4_get HR.out (j+1) x (by simpa [c4] using hx)
  rw[show k*4+1+j=k*4+(j+1) by omega]
  exact (Rd.own this).tail
 go_wp2_with (first
  | (refine wpl_load_agg (cs:=c3 r.2) (b:=g) (o:=k*4+1) rfl agg3 (size3 r.2) hs hrv ?_;clear hc1)
  | (refine wpl_alloc zero3 hs ?_;clear hs hrv;intro g9 w hs)
  | (refine wpl_store_agg (v:=val3 r.2) rfl rfl (size3 _) hs WrA.slot3 ?_;clear hs;intro w hs))
 have hsN:=(hs.rot.ent (Ent.cons _ (Ent.skip (Ent.skip (Ent.refl _))))).only2
 simp only[Act.put,List.setIfInBounds_toArray,List.set_cons_succ,List.set_cons_zero]
 refine wp_region_plain [false,false,false,false,false,false,false,false,true] hsN (by kernel_rfl) (by kernel_rfl) fun hne=>?_
 have hc1:=(Rd.tb0 (w0:=w0) (d:=d) (F:=F) (D:=D) (n:=rs.length) (cap:=cap) (A:=some ⟨g,0,none⟩) (t:=153) (L:=[blk g5 (c3 v).toArray 38])).alln
 have hh:=has3_tail (p:=blk D (tbC d F (some ⟨g,0,none⟩) rs.length cap) 153) (has3_slot (w0:=w0) (L:=[]) (g:=g5) (v:=v) (t:=38))
 have hv0:=(hh 0 _ rfl).alln
 have hv1:=(hh 1 _ rfl).alln
 have hv2:=(hh 2 _ rfl).alln
 simp only[Nat.add_zero,Nat.zero_add] at hv0 hv1 hv2
 clear hh
 simp only[pickOps]
 repeat (go_big_quiet_step (fail))
 refine wpQuiet_nil ?_
 clear hne hc1 hv0 hv1 hv2 hsN
 simp only[chainIx]
 refine wpChain_last rfl ?_
 refine wpl_store_agg (v:=val3 v) rfl rfl (size3 _) (hs.ent (Ent.skip (Ent.skip (Ent.refl _)))).drew (WrA.own (o:=k*4+1) (vs:=c3 v) (by rw[cs4_len];simp[c3];omega) (one3 v)) ?_
 clear hs
 intro w hs
 rw[cs4_setv v HR.out] at hs
 refine wpList_nil ⟨rfl,?_⟩
 replace hs:=hs.rot
 go_wp2_with (first
  | (refine wpl_load3 (v:=r.2) rfl ?hh agg3 size3n hs ?_;case hh=>exact has3_slot)
  | (refine wpl_store_agg (v:=val3 r.2) rfl rfl (size3 _) (hs.ent (Ent.skip (Ent.skip (Ent.skip (Ent.skip (Ent.refl _)))))) WrA.slot3 ?_;clear hs;intro w hs))
 refine bodyPost_at (results_cell_tmp Tryz.results138 rfl (hs.slot_run agg3 (size3 _))) rfl ?_
 refine⟨rfl,?_⟩
 have hs2:=hs.drop.drop
 have hs3:=hs2.ent (Ent.swap _ _ _)
 rw[show rs.length=(rs.set k (r.1,v)).length by simp] at hs3 hlen
 exact (hs3.tbshut hlen).rot.drop
set_option maxHeartbeats 1000000 in
theorem t5_put_new {w0 w:World} {L:List As} {D:Nat} {d:V3} {F:Value} {rs:List Row} (hs:St w0 (TbB D d F rs::L) w) {i:Int} (v:V3) (hi:Hid (okI i=true)) (hk:Hid (findR rs i= -1)) (hl:rs.length < 65536):
  Calls Tryz.prog 138 #[.pointer (some ⟨D,3,none⟩), .int .i64 i,val3 v] w fun e w'=>e= .returned (.tuple #[val3 V3.z, .bool false])∧St w0 (TbB D d F (rs++[(i,v)])::L) w':=by
 go_enter Tryz.func138,Tryz.ntmps138
 go_upto_region 3 with (first
  | (refine wpl_box_v (v:=val3 v) rfl hs ?_;clear hs;intro g5 w hs)
  | (refine wpl_alloc zero3 hs ?_;clear hs;intro g6 w hs)
  | (go_at_call 164;refine (index_v hi _).mono ?_;rintro e w' ⟨rfl,rfl⟩))
 replace hs:St w0 (TbB D d F rs::blk g5 (c3 v).toArray 38::blk g6 (c3 V3.z).toArray 38::L) w:=(hs.ent (Ent.skip (Ent.skip (Ent.refl _)))).ent (Ent.cons _ (Ent.swap _ _ _))
 go_upto_region 8 with (first
  | (go_at_call 139;refine (t5_find_v hs hk).mono ?_;rintro e w' ⟨rfl,rfl⟩))
 obtain⟨hlen,A,cap,hs⟩:=hs.tbopen
 have hsN:=(hs.ent (Ent.cons _ (Ent.swap _ _ _))).only2
 refine wp_region_plain [false,false,false,false,false,false,false,false,true,true,false,false,true] hsN (by kernel_rfl) (by kernel_rfl) fun hne=>?_
 have hc1:=(Rd.tb0 (w0:=w0) (d:=d) (F:=F) (D:=D) (n:=rs.length) (cap:=cap) (A:=A) (t:=153) (L:=[blk g5 (c3 v).toArray 38])).alln
 have hh:=has3_tail (p:=blk D (tbC d F A rs.length cap) 153) (has3_slot (w0:=w0) (L:=[]) (g:=g5) (v:=v) (t:=38))
 have hv0:=(hh 0 _ rfl).alln
 have hv1:=(hh 1 _ rfl).alln
 have hv2:=(hh 2 _ rfl).alln
 simp only[Nat.add_zero,Nat.zero_add] at hv0 hv1 hv2
 clear hh
 simp only[pickOps]
 repeat (go_big_quiet_step (fail))
 refine wpQuiet_nil ?_
 clear hne hc1 hv0 hv1 hv2
 simp only[chainIx]
 refine wpChainP_next rfl ?_
 refine wpl_build1 (v:= .agg (c4 (i,v)).toArray) elem4 (by decide) rfl rfl hs.drew ?_
 clear hs hsN
 intro gb w2 hs
 replace hs:St w0 (blk gb (c4 (i,v)).toArray 225::blk D (tbC d F A rs.length cap) 153::own A rs.length cap 225 4 (cs4 rs)::blk g5 (c3 v).toArray 38::blk g6 (c3 V3.z).toArray 38::L) w2:=hs
 refine wpList_nil ⟨rfl,(hs.drop.ent (Ent.cons _ (Ent.swap _ _ _))).only2,?_⟩
 refine wpChainP_next rfl ?_
 refine wpl_append (B:=some ⟨gb,0,none⟩) (m:=1) (news:=c4 (i,v)) elem4 rfl rfl hs (Ent.skip (Ent.skip (Ent.refl _))) RdS.blk rfl (c4_one _) (by simp only[maxLen];omega) (by omega) ?_
 clear hs
 intro A' cap' w3 hs
 rw[show cs4 rs++c4 (i,v)=cs4 (rs++[(i,v)]) by rw[cs4_append];simp[cs4]] at hs
 have e:rs.length+1=(rs++[(i,v)]).length:=by simp
 rw[e] at hs
 replace hs:=(hs.rot.drop).rot
 refine wpList_nil ⟨rfl,(hs.ent (Ent.cons _ (Ent.swap _ _ _))).only2,?_⟩
 refine wpChain_last rfl ?_
 refine wpl_store rfl rfl rfl size_rows hs Wr.tb0 ?_
 clear hs
 intro w hs
 refine wpList_nil ⟨rfl,?_⟩
 rw[e] at hs
 replace hs:=(hs.tbshut (by simp;omega)).rot.drop
 simp only[Act.put,List.setIfInBounds_toArray,List.set_cons_succ,List.set_cons_zero]
 go_wp2_with (first
  | (refine wpl_store_agg (v:=val3 V3.z) rfl rfl (size3 _) hs.rot WrA.slot3 ?_;clear hs;intro w hs))
 refine bodyPost_at (results_cell_tmp Tryz.results138 rfl (hs.slot_run agg3 (size3 _))) rfl ?_
 exact⟨rfl,hs.drop⟩
theorem t5_take_no {w0 w:World} {L:List As} {D:Nat} {d:V3} {F:Value} {rs:List Row} (hs:St w0 (TbB D d F rs::L) w) {i:Int} (hk:Hid (findR rs i= -1)):
  Calls Tryz.prog 132 #[.pointer (some ⟨D,3,none⟩), .int .i64 i] w fun e w'=>e= .returned (.tuple #[val3 V3.z, .bool false])∧St w0 (TbB D d F rs::L) w':=by
 go_enter Tryz.func132,Tryz.ntmps132
 go_wp2_with (first
  | (refine wpl_alloc zero3 hs ?_;clear hs;intro g6 w hs)
  | (go_at_call 139;refine (t5_find_v hs.rot hk).mono ?_;rintro e w' ⟨rfl,rfl⟩)
  | (refine wpl_store_agg (v:=val3 V3.z) rfl rfl (size3 _) hs WrA.slot3 ?_;clear hs;intro w hs))
 refine bodyPost_at (results_cell_tmp Tryz.results132 rfl (hs.slot_run agg3 (size3 _))) rfl ?_
 exact⟨rfl,hs.drop⟩
def cutR (rs:List Row) (k:Nat):List Row:=(rs.set k (rs.getD (rs.length - 1) (0,V3.z))).take (rs.length - 1)
set_option maxHeartbeats 1000000 in
theorem t5_take {w0 w:World} {L:List As} {D:Nat} {d:V3} {F:Value} {rs:List Row} (hs:St w0 (TbB D d F rs::L) w) {i:Int} {k:Nat} {r:Row} (hk:Hid (findR rs i=(k:Nat))) (hr:rs[k]? =some r):
  Calls Tryz.prog 132 #[.pointer (some ⟨D,3,none⟩), .int .i64 i] w fun e w'=>e= .returned (.tuple #[val3 r.2, .bool true])∧St w0 (TbB D d F (cutR rs k)::L) w':=by
 have hl:=(List.getElem?_eq_some_iff.1 hr).1
 have HR:=Lib.hid hr
 obtain⟨n,hn⟩:∃ n,rs.length=n+1:=⟨rs.length - 1,by omega⟩
 obtain⟨q,hq⟩:∃ q,rs[n]? =some q:=⟨_,List.getElem?_eq_getElem (by omega)⟩
 have HQ:=Lib.hid hq
 have HC:Hid (cutR rs k=(rs.set k q).take n):=by
  rw[Hid,cutR,hn,Nat.add_sub_cancel,List.getD,hq];rfl
 rw[HC.out]
 clear hr hq
 go_enter Tryz.func132,Tryz.ntmps132
 go_upto_region 4 with (first
  | (refine wpl_alloc zero3 hs ?_;clear hs;intro g4 w hs;replace hs:=hs.rot)
  | (go_at_call 139;refine (t5_find_v hs hk).mono ?_;rintro e w' ⟨rfl,rfl⟩))
 obtain⟨hlen,A,cap,hs⟩:=hs.tbopen
 obtain⟨g,rfl⟩:=(hs.ent (Ent.swap _ _ _)).own_at (by omega)
 rw[hn] at hs hl
 have hr1:=fun L=>Rd.tb0 (w0:=w0) (d:=d) (F:=F) (D:=D) (n:=n+1) (cap:=cap) (A:=some ⟨g,0,none⟩) (t:=153) (L:=L)
 have hc1:=hr1 _ w hs
 have hrv:∀ j x,(c3 r.2)[j]? =some x→Rd w0 (blk D (tbC d F (some ⟨g,0,none⟩) (n+1) cap) 153::own (some ⟨g,0,none⟩) (n+1) cap 225 4 (cs4 rs)::blk g4 (val3 V3.z).cells 38::L) ⟨g,k*4+1+j,none⟩ x:=fun j x hx=>by
  have:=cs4_get HR.out (j+1) x (by simpa [c4] using hx)
  rw[show k*4+1+j=k*4+(j+1) by omega]
  exact (Rd.own this).tail
 have hro:=hs.ent (Ent.swap _ _ _)
 have hcapn:=hro.own_len.2.1
 clear hro
 go_upto_region 6 with (first
  | (refine wpl_load_agg (cs:=c3 r.2) (b:=g) (o:=k*4+1) rfl agg3 (size3 r.2) hs hrv ?_;clear hc1)
  | (refine wpl_alloc zero3 hs ?_;clear hs hrv;intro g7 w hs)
  | (refine wpl_store_agg (v:=val3 r.2) rfl rfl (size3 _) hs WrA.slot3 ?_;clear hs;intro w hs;replace hs:=hs.ent (Ent.skip (Ent.skip (Ent.skip (Ent.refl _))));replace hs:=hs.rot.ent (Ent.refl _);have hc1:=hr1 _ w (hs.ent (Ent.skip (Ent.skip (Ent.refl _))))))
 replace hs:=(hs.ent (Ent.skip (Ent.skip (Ent.refl _)))).ent (Ent.cons _ (Ent.skip (Ent.skip (Ent.refl _))))
 have hrq:∀ j x,(c4 q)[j]? =some x→Rd w0 [blk D (tbC d F (some ⟨g,0,none⟩) (n+1) cap) 153,own (some ⟨g,0,none⟩) (n+1) cap 225 4 (cs4 rs)] ⟨g,n*4+j,none⟩ x:=fun j x hx=>(Rd.own (cs4_get HQ.out j x hx)).tail
 have q0:=(hrq 0 _ rfl).alln
 have q1:=(hrq 1 _ rfl).alln
 have q2:=(hrq 2 _ rfl).alln
 have q3:=(hrq 3 _ rfl).alln
 simp only[Nat.add_zero] at q0
 clear hrq hc1
 refine wp_region_plain [false,false,false,false,false,false,false,false,false,false,false,false,false,true] hs.only2 (by kernel_rfl) (by kernel_rfl) fun hne=>?_
 have hc1:=(hr1 [own (some ⟨g,0,none⟩) (n+1) cap 225 4 (cs4 rs)]).alln
 simp only[pickOps]
 repeat (go_big_quiet_step (fail))
 refine wpQuiet_nil ?_
 clear hne hc1 q0 q1 q2 q3
 simp only[chainIx]
 refine wpChain_last rfl ?_
 refine wpl_store_agg (v:= .agg (c4 q).toArray) rfl rfl (size4 q) (hs.ent (Ent.swap _ _ _)).drew (WrA.own (o:=k*4) (vs:=c4 q) (by rw[cs4_len,c4_len];omega) (c4_one q)) ?_
 clear hs
 intro w hs
 rw[cs4_set q (by omega)] at hs
 refine wpList_nil ⟨rfl,?_⟩
 replace hs:=hs.ent (Ent.swap _ _ _)
 have hc1:=hr1 _ w hs
 go_wp2_with (first
  | (refine wpl_store rfl rfl rfl size_rows hs Wr.tb0 ?_;clear hs hc1;intro w hs)
  | (refine wpl_load3 (v:=r.2) rfl ?hh agg3 size3n hs ?_;case hh=>exact has3_tail (has3_tail has3_slot))
  | (refine wpl_store_agg (v:=val3 r.2) rfl rfl (size3 _) (hs.ent (Ent.skip (Ent.skip (Ent.skip (Ent.refl _))))) WrA.slot3 ?_;clear hs;intro w hs))
 refine bodyPost_at (results_cell_tmp Tryz.results132 rfl (hs.slot_run agg3 (size3 _))) rfl ?_
 refine⟨rfl,?_⟩
 have hs2:=(hs.drop.ent (Ent.swap _ _ _)).conv (own_cut (m:=n) (Nat.le_succ n))
 rw[cs4_take] at hs2
 have e:n=((rs.set k q).take n).length:=by simp;omega
 generalize (rs.set k q).take n=rs' at hs2 e ⊢
 subst e
 exact (hs2.ent (Ent.swap _ _ _)).tbshut (by omega) |>.rot.drop
end
section
open Go Go.RowKit
theorem getG_put5 {S:List Nat} {g:Nat→V3} {i:Nat} (hi:i < 65536) (v:V3) (j:Int):getG (insS i S) (pG g (i:Int) v) j=if j=(i:Int) then v else getG S g j:=by
 unfold getG
 rw[← pS_in hi,mem_pS hi]
 by_cases h:j=(i:Int)
 ·subst h
  simp[pG]
 ·rw[if_neg h,decide_eq_false h,Bool.false_or]
  by_cases hm:memS S j=true
  ·rw[hm]
   simp only[if_true]
   unfold pG
   have h0:0≤j:=by
    unfold memS at hm
    obtain⟨a,_,ha⟩:=List.any_eq_true.1 hm
    have:(a:Int)=j:=by simpa using ha
    omega
   rw[if_neg (by omega)]
  ·rw[show memS S j=false by simpa using hm];rfl
theorem getG_take5 {S:List Nat} {g:Nat→V3} (i j:Int):getG (tS S i) g j=if j=i then V3.z else getG S g j:=by
 unfold getG
 rw[mem_tS]
 by_cases h:j=i
 ·subst h;simp
 ·rw[if_neg h,decide_eq_false h];simp
structure AgG (S:List Nat) (g:Nat→V3) (rs:List Row):Prop where
 sorted:S.Pairwise (· < ·)
 small:∀ i∈S,i < 65536
 nodup:(rs.map Prod.fst).Nodup
 mem:∀ j:Int,memS S j=true↔j∈rs.map Prod.fst
 get:∀ r∈rs,getG S g r.1=r.2
theorem nodup_at5 {α β:Type} {f:α→β} {l:List α} (h:(l.map f).Nodup) {j k:Nat} {a b:α} (ha:l[j]? =some a) (hb:l[k]? =some b) (hf:f a=f b):j=k:=by
 have h2:=List.pairwise_iff_getElem.1 (show (l.map f).Pairwise (· ≠ ·) from h)
 obtain⟨hj,ea⟩:=List.getElem?_eq_some_iff.1 ha
 obtain⟨hk,eb⟩:=List.getElem?_eq_some_iff.1 hb
 rcases Nat.lt_trichotomy j k with hlt | heq | hlt
 ·exact absurd (by rw[List.getElem_map,List.getElem_map,ea,eb,hf]) (h2 j k (by simpa using hj) (by simpa using hk) hlt)
 ·exact heq
 ·exact absurd (by rw[List.getElem_map,List.getElem_map,ea,eb,hf]) (h2 k j (by simpa using hk) (by simpa using hj) hlt)
section
variable {S:List Nat} {g:Nat→V3} {rs:List Row}
theorem AgG.nil (g:Nat→V3):AgG [] g []:=⟨List.Pairwise.nil,fun _ h=>absurd h List.not_mem_nil,List.nodup_nil,fun j=>by simp[memS],fun r h=>by cases h⟩
theorem AgG.find (h:AgG S g rs) {i:Int} (hm:memS S i=true):∃ (k:Nat) (r:Row),rs[k]? =some r∧r.1=i∧findR rs i=(k:Nat)∧getG S g i=r.2:=by
 obtain⟨r,hr,he⟩:=List.mem_map.1 ((h.mem i).1 hm)
 obtain⟨k,hk,hke⟩:=List.getElem_of_mem hr
 have hk2:rs[k]? =some r:=by rw[List.getElem?_eq_getElem hk,hke]
 refine⟨k,r,hk2,he,findR_some hk2 he fun j r' hj hr' e=>?_,by rw[← he];exact h.get r hr⟩
 have:=nodup_at5 h.nodup hr' hk2 (by rw[e,he])
 omega
theorem AgG.none (h:AgG S g rs) {i:Int} (hm:memS S i=false):findR rs i= -1∧getG S g i=V3.z:=by
 refine⟨findR_none fun r hr e=>?_,getG_out hm⟩
 have:=(h.mem i).2 (List.mem_map.2 ⟨r,hr,e⟩)
 rw[hm] at this
 cases this
theorem AgG.len (h:AgG S g rs):S.length=rs.length:=by
 have h1:(S.map fun a:Nat=>(a:Int)).Perm (rs.map Prod.fst):=(List.perm_ext_iff_of_nodup (by
   exact List.pairwise_map.2 (h.sorted.imp fun h=>by omega)) h.nodup).2 fun j=>by
  rw[← h.mem]
  simp[memS]
 simpa using h1.length_eq
theorem AgG.short (h:AgG S g rs) {i:Nat} (hi:i < 65536) (hm:memS S (i:Int)=false):rs.length < 65536:=by
 rw[← h.len]
 have hni:i ∉ S:=fun hin=>by rw[memS_iff.2 hin] at hm;cases hm
 have h1:=sorted_short (n:=65536) (sorted_insS (i:=i) h.sorted) fun j hj=>by
  rcases mem_insS.1 hj with rfl | hj
  ·exact hi
  ·exact h.small j hj
 rw[len_insS hni] at h1
 omega
theorem AgG.small_ins (h:AgG S g rs) {i:Nat} (hi:i < 65536):∀ j∈insS i S,j < 65536:=fun j hj=>by
 rcases mem_insS.1 hj with rfl | hj
 ·exact hi
 ·exact h.small j hj
theorem AgG.put_old (h:AgG S g rs) {i k:Nat} (hi:i < 65536) {r:Row} (hr:rs[k]? =some r) (he:r.1=i) (v:V3):AgG (insS i S) (pG g (i:Int) v) (rs.set k (r.1,v)):=by
 have hk:=(List.getElem?_eq_some_iff.1 hr).1
 have hfst:(rs.set k (r.1,v)).map Prod.fst=rs.map Prod.fst:=by
  rw[List.map_set]
  apply List.ext_getElem?
  intro j
  rw[List.getElem?_set]
  split
  ·rename_i e
   subst e
   rw[List.getElem?_map,hr]
   simp[hk]
  ·rfl
 have hin:(i:Int)∈rs.map Prod.fst:=List.mem_map.2 ⟨r,List.mem_of_getElem? hr,he⟩
 refine⟨sorted_insS h.sorted,h.small_ins hi,by rw[hfst];exact h.nodup,fun j=>?_,fun q hq=>?_⟩
 ·rw[hfst,← pS_in hi,mem_pS hi,Bool.or_eq_true,decide_eq_true_eq,h.mem]
  exact⟨fun h=>h.elim (fun e=>e ▸ hin) id, .inr⟩
 ·rw[getG_put5 hi]
  obtain⟨j,hj,hje⟩:=List.getElem_of_mem hq
  rw[List.getElem_set] at hje
  split at hje
  ·subst hje;simp only;rw[if_pos he]
  ·rename_i hne
   have hjl:j < rs.length:=by simpa using hj
   have hne2:q.1 ≠ (i:Int):=fun e=>by
    apply hne
    exact nodup_at5 h.nodup hr (show rs[j]? =some q by rw[List.getElem?_eq_getElem hjl,hje]) (by rw[he,e])
   rw[if_neg hne2]
   exact h.get q (by rw[← hje];exact List.getElem_mem _)
theorem AgG.put_new (h:AgG S g rs) {i:Nat} (hi:i < 65536) (hm:memS S (i:Int)=false) (v:V3):AgG (insS i S) (pG g (i:Int) v) (rs++[((i:Int),v)]):=by
 have hn:(i:Int) ∉ rs.map Prod.fst:=fun h2=>by rw[(h.mem _).2 h2] at hm;cases hm
 refine⟨sorted_insS h.sorted,h.small_ins hi,?_,fun j=>?_,fun q hq=>?_⟩
 ·rw[List.map_append,List.nodup_append]
  exact⟨h.nodup,by simp,fun a ha b hb=>by simp at hb;subst hb;exact fun e=>hn (e ▸ ha)⟩
 ·rw[← pS_in hi,mem_pS hi,Bool.or_eq_true,decide_eq_true_eq,h.mem]
  simp[Or.comm]
 ·rw[getG_put5 hi]
  rcases List.mem_append.1 hq with hq | hq
  ·have hne:q.1 ≠ (i:Int):=fun e=>hn (List.mem_map.2 ⟨q,hq,e⟩)
   rw[if_neg hne]
   exact h.get q hq
  ·simp at hq;subst hq;simp
theorem cutR_perm {a b:List Row} {r:Row}:(cutR (a++r::b) a.length).Perm (a++b):=by
 unfold cutR
 rcases List.eq_nil_or_concat b with rfl | ⟨b',q,hb⟩
 ·simp
 ·rw[List.concat_eq_append] at hb
  subst hb
  have e1:(a++r::(b'++[q])).length - 1=a.length+(b'.length+1):=by simp
  have e2:(a++r::(b'++[q])).getD (a.length+(b'.length+1)) (0,V3.z)=q:=by simp[List.getD]
  rw[e1,e2,List.set_append_right _ _ (Nat.le_refl _),Nat.sub_self,List.set_cons_zero,List.take_append,List.take_of_length_le (by omega),Nat.add_sub_cancel_left,List.take_succ_cons,List.take_left]
  exact List.Perm.append_left a ((List.perm_append_singleton q b').symm)
theorem AgG.take (h:AgG S g rs) {i:Int} {k:Nat} {r:Row} (hr:rs[k]? =some r) (he:r.1=i):AgG (tS S i) g (cutR rs k):=by
 have hk:=(List.getElem?_eq_some_iff.1 hr).1
 obtain⟨a,b,hab,hal⟩:∃ a b,rs=a++r::b∧a.length=k:=⟨rs.take k,rs.drop (k+1),by
  rw[List.getElem?_eq_getElem hk] at hr
  injection hr with hr
  rw[← hr,← List.drop_eq_getElem_cons hk,List.take_append_drop],by simp;omega⟩
 subst hal
 have hp:(cutR rs a.length).Perm (a++b):=by rw[hab];exact cutR_perm
 have hnd:=h.nodup
 rw[hab,List.map_append,List.map_cons,List.nodup_append,List.nodup_cons] at hnd
 obtain⟨n1,⟨n2,n3⟩,n4⟩:=hnd
 have hsub:∀ a∈tS S i,a∈S:=fun a ha=>by
  have h1:memS (tS S i) (a:Int)=true:=memS_iff.2 ha
  rw[mem_tS,Bool.and_eq_true] at h1
  exact memS_iff.1 h1.2
 refine⟨?_,fun a ha=>h.small a (hsub a ha),?_,fun j=>?_,fun q hq=>?_⟩
 ·unfold tS
  split
  ·exact h.sorted.sublist (by unfold delS;exact List.filter_sublist)
  ·exact h.sorted
 ·rw[(hp.map Prod.fst).nodup_iff,List.map_append,List.nodup_append]
  exact⟨n1,n3,fun x hx y hy=>n4 x hx y (List.mem_cons_of_mem _ hy)⟩
 ·rw[(hp.map Prod.fst).mem_iff,mem_tS,Bool.and_eq_true,Bool.not_eq_true',decide_eq_false_iff_not,h.mem,hab]
  simp only[List.map_append,List.map_cons,List.mem_append,List.mem_cons]
  constructor
  ·rintro⟨hne,h1 | h1 | h1⟩
   ·exact .inl h1
   ·exact absurd (h1.trans he) hne
   ·exact .inr h1
  ·rintro (h1 | h1)
   ·exact⟨fun e=>n4 j h1 r.1 (by simp) (e.trans he.symm), .inl h1⟩
   ·exact⟨fun e=>n2 (by rw[he,← e];exact h1), .inr (.inr h1)⟩
 ·have hq2:=hp.mem_iff.1 hq
  have hne:q.1 ≠ i:=fun e=>by
   rcases List.mem_append.1 hq2 with h1 | h1
   ·exact n4 q.1 (List.mem_map.2 ⟨q,h1,rfl⟩) r.1 (by simp) (e.trans he.symm)
   ·exact n2 (by rw[he,← e];exact List.mem_map.2 ⟨q,h1,rfl⟩)
  rw[getG_take5,if_neg hne]
  exact h.get q (by rw[hab];rcases List.mem_append.1 hq2 with h1 | h1 <;> simp[h1])
end
end
section
open Go Go.RowKit
attribute [local irreducible] wpList Calls Code.wp okI okN pS tS memS getG pG insS delS getV pV tV
theorem rok_c {w:World} (v:V3):Calls Tryz.prog 165 #[val3 v] w fun e w'=>e= .returned (.bool (okVal v))∧Grew w w':=by
 have hw:=St.start w
 obtain⟨b,hb⟩:∃ b,Hid (okVal v=b):=⟨_,rfl⟩
 rw[hb.out]
 by_cases h1:v.k=1
 ·have e:Hid ((v.b==0)=b):=by rw[Hid,← hb.out];unfold okVal;rw[if_pos h1]
  have d1:(v.k==1)=true:=by simp[h1]
  clear h1 hb
  go_enter Tryz.func165,Tryz.ntmps165
  go_upto_region 1 with (first
   | (refine wpl_box_v (v:=val3 v) rfl hw ?_;clear hw;intro g1 w1 hw))
  have hh:=has3_slot (w0:=w) (L:=[]) (g:=g1) (v:=v) (t:=38)
  obtain⟨c0,c1,c2⟩:=hh.facts hw
  go_wp2
  go_ret
  exact⟨by rw[← e.out];rfl,hw.made_grew⟩
 ·have n1:(v.k==1)=false:=by simp[h1]
  by_cases h2:v.k=2
  ·have e:Hid (true=b):=by rw[Hid,← hb.out];unfold okVal;rw[if_neg h1,if_pos h2]
   have d2:(v.k==2)=true:=by simp[h2]
   clear h1 h2 hb
   go_enter Tryz.func165,Tryz.ntmps165
   go_upto_region 1 with (first
    | (refine wpl_box_v (v:=val3 v) rfl hw ?_;clear hw;intro g1 w1 hw))
   have hh:=has3_slot (w0:=w) (L:=[]) (g:=g1) (v:=v) (t:=38)
   obtain⟨c0,c1,c2⟩:=hh.facts hw
   go_wp2
   go_ret
   exact⟨by rw[← e.out];rfl,hw.made_grew⟩
  ·have n2:(v.k==2)=false:=by simp[h2]
   by_cases h3:v.k=3
   ·have d3:(v.k==3)=true:=by simp[h3]
    cases ha:(v.a==0)
    ·have e:Hid (false=b):=by rw[Hid,← hb.out];unfold okVal;rw[if_neg h1,if_neg h2,if_pos h3,ha];rfl
     clear h1 h2 h3 hb
     go_enter Tryz.func165,Tryz.ntmps165
     go_upto_region 1 with (first
      | (refine wpl_box_v (v:=val3 v) rfl hw ?_;clear hw;intro g1 w1 hw))
     have hh:=has3_slot (w0:=w) (L:=[]) (g:=g1) (v:=v) (t:=38)
     obtain⟨c0,c1,c2⟩:=hh.facts hw
     go_wp2
     go_ret
     exact⟨by rw[← e.out];rfl,hw.made_grew⟩
    ·have e:Hid ((v.b==0)=b):=by rw[Hid,← hb.out];unfold okVal;rw[if_neg h1,if_neg h2,if_pos h3,ha];rfl
     clear h1 h2 h3 hb
     go_enter Tryz.func165,Tryz.ntmps165
     go_upto_region 1 with (first
      | (refine wpl_box_v (v:=val3 v) rfl hw ?_;clear hw;intro g1 w1 hw))
     have hh:=has3_slot (w0:=w) (L:=[]) (g:=g1) (v:=v) (t:=38)
     obtain⟨c0,c1,c2⟩:=hh.facts hw
     go_wp2
     go_ret
     exact⟨by rw[← e.out];rfl,hw.made_grew⟩
   ·have e:Hid (false=b):=by rw[Hid,← hb.out];unfold okVal;rw[if_neg h1,if_neg h2,if_neg h3]
    have n3:(v.k==3)=false:=by simp[h3]
    clear h1 h2 h3 hb
    go_enter Tryz.func165,Tryz.ntmps165
    go_upto_region 1 with (first
     | (refine wpl_box_v (v:=val3 v) rfl hw ?_;clear hw;intro g1 w1 hw))
    have hh:=has3_slot (w0:=w) (L:=[]) (g:=g1) (v:=v) (t:=38)
    obtain⟨c0,c1,c2⟩:=hh.facts hw
    go_wp2
    go_ret
    exact⟨by rw[← e.out];rfl,hw.made_grew⟩
attribute [local irreducible] okVal
theorem rok_v {w:World} {v:V3} {b:Bool} (hb:Hid (okVal v=b)):Calls Tryz.prog 165 #[val3 v] w fun e w'=>e= .returned (.bool b)∧Grew w w':=by rw[← hb.out];exact rok_c v
section
variable {w0:World} {D n cap:Nat} {d:V3} {F:Value} {A:Option Addr} {L:List As} {t:TypeId}
theorem Rd.ds0:Rd w0 (YtiafdlofcjbllaaGreatDoor.blk D (tbC d F A n cap) t::L) ⟨D,0,none⟩ (.int .i64 d.k):=Rd.blk rfl
theorem Rd.ds4:Rd w0 (YtiafdlofcjbllaaGreatDoor.blk D (tbC d F A n cap) t::L) ⟨D,4,none⟩ F:=Rd.blk rfl
end
theorem ds_may_c {w0 w:World} {L:List As} {D n cap:Nat} {d:V3} {F:Value} {A:Option Addr} (hs:St w0 (blk D (tbC d F A n cap) 153::L) w) (i:Int) (v:V3) {e:Int} (he:Hid (errV d.k i v=e)):
  Calls Tryz.prog 137 #[.pointer (some ⟨D,0,none⟩), .int .i64 i,val3 v] w fun r w'=>r= .returned (.int .i64 e)∧Grew w w':=by
 obtain⟨bI,HII⟩:∃ b,Hid (okI i=b):=⟨_,rfl⟩
 by_cases hI:okI i=true
 ·obtain rfl:bI=true:=by rw[← HII.out];exact hI
  cases hO:okVal v
  ·skip
   obtain rfl:e=9:=by
    rw[← he.out];unfold errV
    rw[if_pos hI,if_neg (by simp[hO])]
   clear he
   (have HO:=Lib.hid hO);clear hO hI
   have hw:=St.start w
   have hk1:=Rd.ds0 _ hs
   go_enter Tryz.func137,Tryz.ntmps137
   go_upto_region 3 with (first
    | (refine wpl_box_v (v:=val3 v) rfl hw ?_;clear hw;intro g1 w1 hw)
    | (go_at_call 164;refine (index_v HII _).mono ?_;rintro r w' ⟨rfl,rfl⟩))
   have hs2:=hs.grew hw.made_grew
   refine wp_region_grow (by kernel_rfl) (by kernel_rfl) fun hne=>?_
   have q0:=(Rd.ds0 (w0:=w0) (D:=D) (n:=n) (cap:=cap) (A:=A) (d:=d) (F:=F) (L:=L) (t:=153)).gall hs2
   obtain⟨c0,c1,c2⟩:=Has3.gfacts (has3_slot (w0:=w) (L:=[]) (g:=g1) (v:=v) (t:=38)) hw
   repeat ((go_big_quiet_step ((first
    | (go_at_call 165;exact in_grew (rok_v HO))))))
   refine wpQuiet_nil ?_
   intro u hu
   go_wp2
   go_ret
   exact⟨rfl,hw.made_grew.trans hu⟩
  ·by_cases hK:v.k=d.k
   ·skip
    obtain rfl:e=0:=by
     rw[← he.out];unfold errV
     rw[if_pos hI,if_pos (by simp[hO,hK])]
    clear he
    (have HO:=Lib.hid hO);(have d6:(v.k==d.k)=true:=by simp[hK]);clear hO hK hI
    have hw:=St.start w
    have hk1:=Rd.ds0 _ hs
    go_enter Tryz.func137,Tryz.ntmps137
    go_upto_region 3 with (first
     | (refine wpl_box_v (v:=val3 v) rfl hw ?_;clear hw;intro g1 w1 hw)
     | (go_at_call 164;refine (index_v HII _).mono ?_;rintro r w' ⟨rfl,rfl⟩))
    have hs2:=hs.grew hw.made_grew
    refine wp_region_grow (by kernel_rfl) (by kernel_rfl) fun hne=>?_
    have q0:=(Rd.ds0 (w0:=w0) (D:=D) (n:=n) (cap:=cap) (A:=A) (d:=d) (F:=F) (L:=L) (t:=153)).gall hs2
    obtain⟨c0,c1,c2⟩:=Has3.gfacts (has3_slot (w0:=w) (L:=[]) (g:=g1) (v:=v) (t:=38)) hw
    repeat ((go_big_quiet_step ((first
     | (go_at_call 165;exact in_grew (rok_v HO))))))
    refine wpQuiet_nil ?_
    intro u hu
    go_wp2
    go_ret
    exact⟨rfl,hw.made_grew.trans hu⟩
   ·skip
    obtain rfl:e=9:=by
     rw[← he.out];unfold errV
     rw[if_pos hI,if_neg (by simp[hO,hK])]
    clear he
    (have HO:=Lib.hid hO);(have d6:(v.k==d.k)=false:=by simp[hK]);clear hO hK hI
    have hw:=St.start w
    have hk1:=Rd.ds0 _ hs
    go_enter Tryz.func137,Tryz.ntmps137
    go_upto_region 3 with (first
     | (refine wpl_box_v (v:=val3 v) rfl hw ?_;clear hw;intro g1 w1 hw)
     | (go_at_call 164;refine (index_v HII _).mono ?_;rintro r w' ⟨rfl,rfl⟩))
    have hs2:=hs.grew hw.made_grew
    refine wp_region_grow (by kernel_rfl) (by kernel_rfl) fun hne=>?_
    have q0:=(Rd.ds0 (w0:=w0) (D:=D) (n:=n) (cap:=cap) (A:=A) (d:=d) (F:=F) (L:=L) (t:=153)).gall hs2
    obtain⟨c0,c1,c2⟩:=Has3.gfacts (has3_slot (w0:=w) (L:=[]) (g:=g1) (v:=v) (t:=38)) hw
    repeat ((go_big_quiet_step ((first
     | (go_at_call 165;exact in_grew (rok_v HO))))))
    refine wpQuiet_nil ?_
    intro u hu
    go_wp2
    go_ret
    exact⟨rfl,hw.made_grew.trans hu⟩
 ·obtain rfl:bI=false:=by rw[← HII.out];simpa using hI
  obtain rfl:e=1:=by
   rw[← he.out];unfold errV
   rw[if_neg hI]
  clear he
  clear hI
  have hw:=St.start w
  have hk1:=Rd.ds0 _ hs
  go_enter Tryz.func137,Tryz.ntmps137
  go_wp2_with (first
   | (refine wpl_box_v (v:=val3 v) rfl hw ?_;clear hw;intro g1 w1 hw)
   | (go_at_call 164;refine (index_v HII _).mono ?_;rintro r w' ⟨rfl,rfl⟩))
  go_ret
  exact⟨rfl,hw.made_grew⟩
def DfB (f:Nat) (bd:Int) (evs:List Ev) (rds:List Nat):As:=fun h=>∃ A cA B cB,star (blk f #[.int .i64 bd, .slice A evs.length cA, .slice B rds.length cB] 219) (star (own A evs.length cA 121 2 (es2 evs)) (own B rds.length cB 3 1 (intv rds))) h
def DfP (F:Option Nat) (bd:Int) (evs:List Ev) (rds:List Nat):As:=match F with
 | none=>fun h=>(evs=[]∧rds=[])∧emp h
 | some f=>DfB f bd evs rds
def DsB (D:Nat) (s:SlS):As:=fun h=>s.Ok∧∃ rs,AgG s.S s.g rs∧star (TbB D s.d (fpV s.F) rs) (DfP s.F s.d.b s.evs s.rds) h
theorem St.dsopen {w0 w:World} {D:Nat} {s:SlS} {L:List As} (hs:St w0 (DsB D s::L) w):s.Ok∧∃ rs,AgG s.S s.g rs∧St w0 (TbB D s.d (fpV s.F) rs::DfP s.F s.d.b s.evs s.rds::L) w:=by
 obtain⟨hb,h,r,hd,hu,a,b,hab,rfl,⟨hok,rs,hag,ht⟩,hl⟩:=hs
 have h1:St w0 (star (TbB D s.d (fpV s.F) rs) (DfP s.F s.d.b s.evs s.rds)::L) w:=⟨hb,_,r,hd,hu,a,b,hab,rfl,ht,hl⟩
 exact⟨hok,rs,hag,h1.ent (Ent.open2 fun _ h=>h)⟩
theorem St.dsshut {w0 w:World} {D:Nat} {s:SlS} {L:List As} {rs:List Row} (hok:s.Ok) (hag:AgG s.S s.g rs) (hs:St w0 (TbB D s.d (fpV s.F) rs::DfP s.F s.d.b s.evs s.rds::L) w):St w0 (DsB D s::L) w:=
 (hs.ent (Ent.shut2 fun _ h=>h)).conv fun _ h=>⟨hok,rs,hag,h⟩
theorem St.dfopen {w0 w:World} {f:Nat} {bd:Int} {evs:List Ev} {rds:List Nat} {L:List As} (hs:St w0 (DfB f bd evs rds::L) w):∃ A cA B cB,St w0 (YtiafdlofcjbllaaGreatDoor.blk f #[.int .i64 bd, .slice A evs.length cA, .slice B rds.length cB] 219::own A evs.length cA 121 2 (es2 evs)::own B rds.length cB 3 1 (intv rds)::L) w:=by
 obtain⟨hb,h,r,hd,hu,a,b,hab,rfl,⟨A,cA,B,cB,ht⟩,hl⟩:=hs
 have h1:St w0 (star (YtiafdlofcjbllaaGreatDoor.blk f #[.int .i64 bd, .slice A evs.length cA, .slice B rds.length cB] 219) (star (own A evs.length cA 121 2 (es2 evs)) (own B rds.length cB 3 1 (intv rds)))::L) w:=⟨hb,_,r,hd,hu,a,b,hab,rfl,ht,hl⟩
 exact⟨A,cA,B,cB,(h1.ent (Ent.open2 fun _ h=>h)).ent (Ent.cons _ (Ent.open2 fun _ h=>h))⟩
theorem St.dfshut {w0 w:World} {f:Nat} {bd:Int} {evs:List Ev} {rds:List Nat} {L:List As} {A B:Option Addr} {cA cB:Nat} (hs:St w0 (YtiafdlofcjbllaaGreatDoor.blk f #[.int .i64 bd, .slice A evs.length cA, .slice B rds.length cB] 219::own A evs.length cA 121 2 (es2 evs)::own B rds.length cB 3 1 (intv rds)::L) w):St w0 (DfB f bd evs rds::L) w:=
 ((hs.ent (Ent.cons _ (Ent.shut2 fun _ h=>h))).ent (Ent.shut2 fun _ h=>h)).conv fun _ h=>⟨A,cA,B,cB,h⟩
end
section
open Go Go.RowKit
attribute [local irreducible] wpList Calls Code.wp okI okN pS tS memS getG pG insS delS getV pV tV okVal
theorem size_evr:(Tryz.prog.info? 111).map (·.size)=some 1:=by kernel_rfl
abbrev dfC (bd:Int) (A:Option Addr) (n cA:Nat) (B:Option Addr) (m cB:Nat):Array Value:=#[.int .i64 bd, .slice A n cA, .slice B m cB]
section
variable {w0:World} {f n m cA cB:Nat} {bd:Int} {A B:Option Addr} {L:List As} {t:TypeId}
theorem Rd.df0:Rd w0 (YtiafdlofcjbllaaGreatDoor.blk f (dfC bd A n cA B m cB) t::L) ⟨f,0,none⟩ (.int .i64 bd):=Rd.blk rfl
theorem Rd.df1:Rd w0 (YtiafdlofcjbllaaGreatDoor.blk f (dfC bd A n cA B m cB) t::L) ⟨f,1,none⟩ (.slice A n cA):=Rd.blk rfl
theorem Rd.df2:Rd w0 (YtiafdlofcjbllaaGreatDoor.blk f (dfC bd A n cA B m cB) t::L) ⟨f,2,none⟩ (.slice B m cB):=Rd.blk rfl
theorem Wr.df1 {A':Option Addr} {n' cA':Nat}:Wr w0 (YtiafdlofcjbllaaGreatDoor.blk f (dfC bd A n cA B m cB) t::L) ⟨f,1,none⟩ (.slice A' n' cA') (YtiafdlofcjbllaaGreatDoor.blk f (dfC bd A' n' cA' B m cB) t::L):=Wr.blk (by simp)
theorem Wr.df2 {B':Option Addr} {m' cB':Nat}:Wr w0 (YtiafdlofcjbllaaGreatDoor.blk f (dfC bd A n cA B m cB) t::L) ⟨f,2,none⟩ (.slice B' m' cB') (YtiafdlofcjbllaaGreatDoor.blk f (dfC bd A n cA B' m' cB') t::L):=Wr.blk (by simp)
end
set_option maxHeartbeats 1000000 in
theorem ds_note {w0 w:World} {L:List As} {D n cap f:Nat} {d:V3} {A:Option Addr} {bd:Int} {evs:List Ev} {rds:List Nat} (hs:St w0 (blk D (tbC d (.pointer (some ⟨f,0,none⟩)) A n cap) 153::DfB f bd evs rds::L) w) (k i:Int) (hl:evs.length≤4000000000):
  Calls Tryz.prog 133 #[.pointer (some ⟨D,0,none⟩), .int .i64 k, .int .i64 i] w fun r w'=>r= .returned (.tuple #[])∧St w0 (blk D (tbC d (.pointer (some ⟨f,0,none⟩)) A n cap) 153::DfB f bd (evs++[(k,i)]) rds::L) w':=by
 obtain⟨E,cE,B,cB,hs⟩:=hs.rot.dfopen
 obtain⟨m,hm⟩:∃ m,Hid (evs.length=m):=⟨_,rfl⟩
 rw[hm.out] at hs hl
 replace hs:St w0 (blk D (tbC d (.pointer (some ⟨f,0,none⟩)) A n cap) 153::blk f (dfC bd E m cE B rds.length cB) 219::own E m cE 121 2 (es2 evs)::own B rds.length cB 3 1 (intv rds)::L) w:=hs.pm
 have c4:=Rd.ds4 _ hs
 go_enter Tryz.func133,Tryz.ntmps133
 go_upto_region 1 with (fail)
 clear c4
 refine wp_region_plain [false,false,false,false,false,false,false,false,false,false,false,false,false,false,true,true,false,false,true] hs.only2 (by kernel_rfl) (by kernel_rfl) fun hne=>?_
 have c4:=(Rd.ds4 (w0:=w0) (D:=D) (n:=n) (cap:=cap) (d:=d) (F:= .pointer (some ⟨f,0,none⟩)) (A:=A) (t:=153) (L:=[blk f (dfC bd E m cE B rds.length cB) 219])).alln
 have c1:=((Rd.df1 (w0:=w0) (f:=f) (bd:=bd) (A:=E) (n:=m) (cA:=cE) (B:=B) (m:=rds.length) (cB:=cB) (t:=219) (L:=[])).tail (p:=blk D (tbC d (.pointer (some ⟨f,0,none⟩)) A n cap) 153)).alln
 simp only[pickOps]
 repeat (go_big_quiet_step (fail))
 refine wpQuiet_nil ?_
 clear hne c4 c1
 simp only[chainIx]
 replace hs:=hs.drew
 refine wpChainP_next rfl ?_
 refine wpl_build1 (v:=valE (k,i)) elemE (by decide) rfl rfl hs ?_
 clear hs
 intro G w hs
 replace hs:St w0 (blk D (tbC d (.pointer (some ⟨f,0,none⟩)) A n cap) 153::blk f (dfC bd E m cE B rds.length cB) 219::blk G (e2 (k,i)).toArray 121::own E m cE 121 2 (es2 evs)::own B rds.length cB 3 1 (intv rds)::L) w:=hs.pm
 refine wpList_nil ⟨rfl,hs.only2,?_⟩
 refine wpChainP_next rfl ?_
 refine wpl_append (A:=E) (n:=m) (cap:=cE) (xs:=es2 evs) (B:=some ⟨G,0,none⟩) (m:=1) (news:=e2 (k,i)) elemE rfl rfl hs (L':=blk G (e2 (k,i)).toArray 121::blk D (tbC d (.pointer (some ⟨f,0,none⟩)) A n cap) 153::blk f (dfC bd E m cE B rds.length cB) 219::own B rds.length cB 3 1 (intv rds)::L) (EP.ent (by repeat constructor)) (RdS.blk.tail.tail) rfl (e2_one _) (by unfold maxLen;omega) (by omega) ?_
 clear hs
 intro E3 cE3 w hs
 rw[show es2 evs++e2 (k,i)=es2 (evs++[(k,i)]) by rw[es2_append];rfl] at hs
 replace hs:St w0 (blk D (tbC d (.pointer (some ⟨f,0,none⟩)) A n cap) 153::blk f (dfC bd E m cE B rds.length cB) 219::own E3 (m+1) cE3 121 2 (es2 (evs++[(k,i)]))::own B rds.length cB 3 1 (intv rds)::L) w:=hs.pm (M:=blk G (e2 (k,i)).toArray 121::_) |>.drop
 refine wpList_nil ⟨rfl,hs.only2,?_⟩
 refine wpChain_last rfl ?_
 refine wpl_store rfl rfl rfl size_evr hs.rot Wr.df1 ?_
 clear hs
 intro w hs
 have e:(evs++[(k,i)]).length=m+1:=by rw[List.length_append,hm.out];rfl
 rw[← e] at hs
 go_wp2
 go_end0
 exact⟨rfl,(hs.pm (M:=blk f (dfC bd E3 (evs++[(k,i)]).length cE3 B rds.length cB) 219::own E3 (evs++[(k,i)]).length cE3 121 2 (es2 (evs++[(k,i)]))::own B rds.length cB 3 1 (intv rds)::blk D (tbC d (.pointer (some ⟨f,0,none⟩)) A n cap) 153::L)).dfshut.rot⟩
theorem ds_noteP {w0 w:World} {L:List As} {D:Nat} {d:V3} {rs:List Row} {F:Option Nat} {bd:Int} {evs:List Ev} {rds:List Nat} (hs:St w0 (TbB D d (fpV F) rs::DfP F bd evs rds::L) w) (k i:Int) (hl:evs.length≤4000000000) {evs':List Ev} (he:Hid (ntE F evs k i=evs')):
  Calls Tryz.prog 133 #[.pointer (some ⟨D,0,none⟩), .int .i64 k, .int .i64 i] w fun r w'=>r= .returned (.tuple #[])∧St w0 (TbB D d (fpV F) rs::DfP F bd evs' rds::L) w':=by
 obtain⟨hlen,A,cap,hs⟩:=hs.tbopen
 rw[← he.out]
 cases F with
 | none=>
  have c4:w.cell? ⟨D,4,none⟩=some (.pointer none):=Rd.ds4 _ hs
  go_enter Tryz.func133,Tryz.ntmps133
  go_wp2
  go_end0
  exact⟨rfl,hs.tbshut hlen⟩
 | some f=>
  refine (ds_note (f:=f) (hs.ent (M:=blk D (tbC d (.pointer (some ⟨f,0,none⟩)) A rs.length cap) 153::DfB f bd evs rds::own A rs.length cap 225 4 (cs4 rs)::L) (Ent.cons _ (Ent.swap _ _ _))) k i hl).mono ?_
  rintro r w' ⟨rfl,hs⟩
  refine⟨rfl,?_⟩
  have h2:=hs.ent (M:=blk D (tbC d (.pointer (some ⟨f,0,none⟩)) A rs.length cap) 153::own A rs.length cap 225 4 (cs4 rs)::DfB f bd (evs++[(k,i)]) rds::L) (Ent.cons _ (Ent.swap _ _ _))
  exact h2.tbshut hlen
theorem tA_put {w0 w:World} {L:List As} {D:Nat} {d:V3} {F:Value} {rs:List Row} {S:List Nat} {g:Nat→V3} (hs:St w0 (TbB D d F rs::L) w) (hag:AgG S g rs) {i:Nat} (hi:i < 65536) (v:V3) {u:V3} {b:Bool} (hu:Hid (getG S g (i:Int)=u)) (hb:Hid (memS S (i:Int)=b)):
  Calls Tryz.prog 138 #[.pointer (some ⟨D,3,none⟩), .int .i64 (i:Nat),val3 v] w fun e w'=>∃ rs',AgG (insS i S) (pG g (i:Int) v) rs'∧e= .returned (.tuple #[val3 u, .bool b])∧St w0 (TbB D d F rs'::L) w':=by
 rw[← hu.out,← hb.out]
 cases hm:memS S (i:Int) with
 | true=>
  obtain⟨k,r,h1,h2,h3,h4⟩:=hag.find hm
  rw[h4]
  exact (t5_put_old hs v (okI_nat hi) h3 h1).mono fun e w' ⟨h5,h6⟩=>⟨_,hag.put_old hi h1 h2 v,h5,h6⟩
 | false=>
  obtain⟨h1,h2⟩:=hag.none hm
  rw[h2]
  exact (t5_put_new hs v (okI_nat hi) h1 (hag.short hi hm)).mono fun e w' ⟨h5,h6⟩=>⟨_,hag.put_new hi hm v,h5,h6⟩
theorem tA_take {w0 w:World} {L:List As} {D:Nat} {d:V3} {F:Value} {rs:List Row} {S:List Nat} {g:Nat→V3} (hs:St w0 (TbB D d F rs::L) w) (hag:AgG S g rs) (i:Int) {u:V3} {b:Bool} (hu:Hid (getG S g i=u)) (hb:Hid (memS S i=b)):
  Calls Tryz.prog 132 #[.pointer (some ⟨D,3,none⟩), .int .i64 i] w fun e w'=>∃ rs',AgG (tS S i) g rs'∧e= .returned (.tuple #[val3 u, .bool b])∧St w0 (TbB D d F rs'::L) w':=by
 rw[← hu.out,← hb.out]
 cases hm:memS S i with
 | true=>
  obtain⟨k,r,h1,h2,h3,h4⟩:=hag.find hm
  rw[h4]
  exact (t5_take hs h3 h1).mono fun e w' ⟨h5,h6⟩=>⟨_,hag.take h1 h2,h5,h6⟩
 | false=>
  obtain⟨h1,h2⟩:=hag.none hm
  rw[h2]
  have e:tS S i=S:=by unfold tS;rw[hm];rfl
  rw[e]
  exact (t5_take_no hs h1).mono fun e w' ⟨h5,h6⟩=>⟨_,hag,h5,h6⟩
theorem tA_get {w0 w:World} {L:List As} {D:Nat} {d:V3} {F:Value} {rs:List Row} {S:List Nat} {g:Nat→V3} (hs:St w0 (TbB D d F rs::L) w) (hag:AgG S g rs) (i:Int) {u:V3} {b:Bool} (hu:Hid (getG S g i=u)) (hb:Hid (memS S i=b)):
  Calls Tryz.prog 91 #[.pointer (some ⟨D,3,none⟩), .int .i64 i] w fun e w'=>e= .returned (.tuple #[val3 u, .bool b])∧Grew w w':=by
 rw[← hu.out,← hb.out]
 cases hm:memS S i with
 | true=>
  obtain⟨k,r,h1,h2,h3,h4⟩:=hag.find hm
  rw[h4]
  exact t5_get hs h3 h1
 | false=>
  obtain⟨h1,h2⟩:=hag.none hm
  rw[h2]
  exact t5_get_no hs h1
end
section
open Go Go.RowKit
attribute [local irreducible] wpList Calls Code.wp okI okN pS tS memS getG pG insS delS getV pV tV okVal errV ntE
theorem ds_may {w0 w:World} {L:List As} {D:Nat} {d:V3} {F:Value} {rs:List Row} (hs:St w0 (TbB D d F rs::L) w) {i:Int} {v:V3} {e:Int} (he:Hid (errV d.k i v=e)):
  Calls Tryz.prog 137 #[.pointer (some ⟨D,0,none⟩), .int .i64 i,val3 v] w fun r w'=>r= .returned (.int .i64 e)∧Grew w w':=by
 obtain⟨hlen,A,cap,hs⟩:=hs.tbopen
 exact ds_may_c hs i v he
theorem dput_out {w0 w:World} {L:List As} {D:Nat} {d:V3} {F:Value} {rs:List Row} (hs:St w0 (TbB D d F rs::L) w) {i:Int} {v:V3} {e:Int} (he:Hid (errV d.k i v=e)) (h0:e ≠ 0):
  Calls Tryz.prog 89 #[.pointer (some ⟨D,0,none⟩), .int .i64 i,val3 v] w fun r w'=>r= .returned (.tuple #[val3 V3.z, .bool false, .int .i64 e])∧Grew w w':=by
 have d0:(e==0)=false:=by simpa using h0
 have hw:=St.start w
 have HC:=Lib.hid (fun (w:World) (hs:St w0 (TbB D d F rs::L) w)=>ds_may hs he)
 clear he
 go_enter Tryz.func89,Tryz.ntmps89
 go_upto_region 1 with (first
  | (refine wpl_box_v (v:=val3 v) rfl hw ?_;clear hw;intro g5 w1 hw)
  | (refine wpl_alloc zero3 hw ?_;clear hw;intro g6 w1 hw))
 replace hw:St _ [blk g6 (c3 V3.z).toArray 38,blk g5 (c3 v).toArray 38] _:=hw
 go_wp2_with (first
  | (refine wpl_load3 (v:=v) rfl ?hh agg3 size3n hw ?_;case hh=>exact has3_tail has3_slot)
  | (go_at_call 137;refine (HC.out _ (hs.grew hw.made_grew)).mono ?_;rintro r w3 ⟨rfl,hg2⟩;replace hw:=hw.grew hg2;clear hg2)
  | (refine wpl_store_agg (v:=val3 V3.z) rfl rfl (size3 _) hw WrA.slot3 ?_;clear hw;intro w2 hw))
 refine bodyPost_at (results_cell_tmp2 Tryz.results89 rfl (hw.slot_run agg3 (size3 _))) rfl ?_
 exact⟨rfl,hw.made_grew⟩
set_option maxHeartbeats 4000000 in
theorem dput_in {w0 w:World} {L:List As} {D:Nat} {d:V3} {F:Option Nat} {rs:List Row} {S:List Nat} {g:Nat→V3} {evs:List Ev} {rds:List Nat} {bd:Int} (hs:St w0 (TbB D d (fpV F) rs::DfP F bd evs rds::L) w) (hag:AgG S g rs) {i:Nat} (hi:i < 65536) {v u:V3} (hvk:v.k=d.k) (hok:okVal v=true) (hl:evs.length≤4000000000)
  {b:Bool} (hu:Hid (getG S g (i:Nat)=u)) (hb:Hid (memS S (i:Nat)=b)) {evs':List Ev} (hev:Hid (ntE F evs (kdE b) (i:Nat)=evs')):
  Calls Tryz.prog 89 #[.pointer (some ⟨D,0,none⟩), .int .i64 (i:Nat),val3 v] w fun r w'=>∃ rs2,AgG (insS i S) (pG g (i:Nat) v) rs2∧r= .returned (.tuple #[val3 u, .bool b, .int .i64 0])∧
   St w0 (TbB D d (fpV F) rs2::DfP F bd evs' rds::L) w':=by
 have HE:Hid (errV d.k ((i:Nat):Int) v=0):=by
  rw[Hid];unfold errV
  rw[if_pos (okI_iff.2 (by omega)),if_pos (by simp[hok,hvk])]
 have HP:=Lib.hid (fun (w:World) (L:List As) (hs:St w0 (TbB D d (fpV F) rs::L) w)=>tA_put hs hag hi v hu hb)
 have HL:=Lib.hid hl
 clear hl hvk hok hag hi
 go_enter Tryz.func89,Tryz.ntmps89
 go_upto_region 1 with (first
  | (refine wpl_box_v (v:=val3 v) rfl hs ?_;clear hs;intro g5 w hs)
  | (refine wpl_alloc zero3 hs ?_;clear hs;intro g6 w hs))
 replace hs:St w0 (blk g5 (c3 v).toArray 38::TbB D d (fpV F) rs::DfP F bd evs rds::blk g6 (c3 V3.z).toArray 38::L) w:=hs.pm
 have hv5:=(has3_slot (w0:=w0) (L:=[]) (g:=g5) (v:=v) (t:=38):Has3 w0 [blk g5 (c3 v).toArray 38] g5 v)
 go_upto_region 4 with (first
  | (refine wpl_load3 (v:=v) rfl ?hh agg3 size3n hs.only ?_;case hh=>exact hv5)
  | (go_at_call 137;refine (ds_may hs.rot HE).mono ?_;rintro r w3 ⟨rfl,hg2⟩;replace hs:=hs.grew hg2;clear hg2))
 go_cut [10,11] (fun p q wx=>∃ g10 rs2,p= .pointer (some ⟨g10,0,none⟩)∧q= .bool b∧Hid (AgG (insS i S) (pG g (i:Nat) v) rs2)∧St w0 (blk g5 (c3 v).toArray 38::TbB D d (fpV F) rs2::DfP F bd evs rds::blk g6 (c3 V3.z).toArray 38::blk g10 (c3 u).toArray 38::L) wx)
 case first=>
  refine wp_all_plain (n:=7) [false,false,false,false,false,true,true,true,true,true,true,true] hs.only (by kernel_rfl) (by kernel_rfl) (by kernel_rfl) fun hne=>?_
  have v0':=(hv5 0 _ rfl).alln
  have v1':=(hv5 1 _ rfl).alln
  have v2':=(hv5 2 _ rfl).alln
  simp only[Nat.zero_add] at v0' v1' v2'
  clear hv5
  simp only[pickOps]
  repeat (go_big_quiet_step (fail))
  refine wpQuiet_nil ?_
  clear hne v0' v1' v2'
  replace hs:=hs.drew
  clear HE hu hb
  refine wpAllP_next [5,9] (by kernel_rfl) (fun c hc=>?_)
  simp only[List.mem_cons,List.not_mem_nil,or_false] at hc
  rcases hc with rfl | rfl
  ·skip
   refine⟨_,rfl,?_⟩
   go_wp2_with (first
    | (go_at_call 138;refine (HP.out _ _ (hs.pm (M:=TbB D d (fpV F) rs::blk g5 (c3 v).toArray 38::DfP F bd evs rds::blk g6 (c3 V3.z).toArray 38::L))).mono ?_;clear hs HP;rintro r w ⟨rs2,hag2,rfl,hs⟩))
   replace hs:St w0 (blk g5 (c3 v).toArray 38::TbB D d (fpV F) rs2::DfP F bd evs rds::blk g6 (c3 V3.z).toArray 38::L) w:=hs.pm
   refine⟨hs.only,?_⟩
   refine wpAllP_next [6,9] (by kernel_rfl) (fun c hc=>?_)
   simp only[List.mem_cons,List.not_mem_nil,or_false] at hc
   rcases hc with rfl | rfl
   ·skip
    refine⟨_,rfl,?_⟩
    go_wp2
    refine⟨hs.only,?_⟩
    refine wpAllP_next [7,8,9] (by kernel_rfl) (fun c hc=>?_)
    simp only[List.mem_cons,List.not_mem_nil,or_false] at hc
    rcases hc with rfl | rfl | rfl
    ·skip
     refine⟨_,rfl,?_⟩
     go_wp2
     refine⟨hs.only,?_⟩
     refine wpAllP_next [8,9] (by kernel_rfl) (fun c hc=>?_)
     simp only[List.mem_cons,List.not_mem_nil,or_false] at hc
     rcases hc with rfl | rfl
     ·skip
      refine⟨_,rfl,?_⟩
      go_wp2
      refine⟨hs.only,?_⟩
      refine wpAllP_next [9] (by kernel_rfl) (fun c hc=>?_)
      simp only[List.mem_singleton] at hc
      subst hc
      refine⟨_,rfl,?_⟩
      refine wpl_alloc zero3 hs ?_
      clear hs
      intro g10 w hs
      replace hs:St w0 (blk g10 (c3 V3.z).toArray 38::_) w:=hs
      replace hs:St w0 (blk g5 (c3 v).toArray 38::TbB D d (fpV F) rs2::DfP F bd evs rds::blk g6 (c3 V3.z).toArray 38::blk g10 (c3 V3.z).toArray 38::L) w:=hs.pm
      refine wpList_nil ⟨rfl,hs.only,?_⟩
      refine wpAllP_next [10] (by kernel_rfl) (fun c hc=>?_)
      simp only[List.mem_singleton] at hc
      subst hc
      refine⟨_,rfl,?_⟩
      refine wpl_store_agg (v:=val3 u) rfl rfl (size3 _) (hs.pm (M:=blk g10 (c3 V3.z).toArray 38::blk g5 (c3 v).toArray 38::TbB D d (fpV F) rs2::DfP F bd evs rds::blk g6 (c3 V3.z).toArray 38::L)) WrA.slot3 ?_
      clear hs
      intro w hs
      replace hs:St w0 (blk g5 (c3 v).toArray 38::TbB D d (fpV F) rs2::DfP F bd evs rds::blk g6 (c3 V3.z).toArray 38::blk g10 (c3 u).toArray 38::L) w:=hs.pm
      refine wpList_nil ⟨rfl,hs.only,?_⟩
      refine wpAll_last [11] (by kernel_rfl) (fun c hc=>?_)
      simp only[List.mem_singleton] at hc
      subst hc
      refine⟨_,rfl,?_⟩
      go_wp2
      go_meet
      exact⟨g10,rs2,rfl,rfl,hag2,hs⟩
     ·skip
      refine⟨_,rfl,?_⟩
      refine wpl_alloc zero3 hs ?_
      clear hs
      intro g10 w hs
      replace hs:St w0 (blk g10 (c3 V3.z).toArray 38::_) w:=hs
      replace hs:St w0 (blk g5 (c3 v).toArray 38::TbB D d (fpV F) rs2::DfP F bd evs rds::blk g6 (c3 V3.z).toArray 38::blk g10 (c3 V3.z).toArray 38::L) w:=hs.pm
      refine wpList_nil ⟨rfl,hs.only,?_⟩
      refine wpAllP_next [8,10] (by kernel_rfl) (fun c hc=>?_)
      simp only[List.mem_cons,List.not_mem_nil,or_false] at hc
      rcases hc with rfl | rfl
      ·skip
       refine⟨_,rfl,?_⟩
       go_wp2
       refine⟨hs.only,?_⟩
       refine wpAllP_next [10] (by kernel_rfl) (fun c hc=>?_)
       simp only[List.mem_singleton] at hc
       subst hc
       refine⟨_,rfl,?_⟩
       refine wpl_store_agg (v:=val3 u) rfl rfl (size3 _) (hs.pm (M:=blk g10 (c3 V3.z).toArray 38::blk g5 (c3 v).toArray 38::TbB D d (fpV F) rs2::DfP F bd evs rds::blk g6 (c3 V3.z).toArray 38::L)) WrA.slot3 ?_
       clear hs
       intro w hs
       replace hs:St w0 (blk g5 (c3 v).toArray 38::TbB D d (fpV F) rs2::DfP F bd evs rds::blk g6 (c3 V3.z).toArray 38::blk g10 (c3 u).toArray 38::L) w:=hs.pm
       refine wpList_nil ⟨rfl,hs.only,?_⟩
       refine wpAll_last [11] (by kernel_rfl) (fun c hc=>?_)
       simp only[List.mem_singleton] at hc
       subst hc
       refine⟨_,rfl,?_⟩
       go_wp2
       go_meet
       exact⟨g10,rs2,rfl,rfl,hag2,hs⟩
      ·skip
       refine⟨_,rfl,?_⟩
       refine wpl_store_agg (v:=val3 u) rfl rfl (size3 _) (hs.pm (M:=blk g10 (c3 V3.z).toArray 38::blk g5 (c3 v).toArray 38::TbB D d (fpV F) rs2::DfP F bd evs rds::blk g6 (c3 V3.z).toArray 38::L)) WrA.slot3 ?_
       clear hs
       intro w hs
       replace hs:St w0 (blk g5 (c3 v).toArray 38::TbB D d (fpV F) rs2::DfP F bd evs rds::blk g6 (c3 V3.z).toArray 38::blk g10 (c3 u).toArray 38::L) w:=hs.pm
       refine wpList_nil ⟨rfl,hs.only,?_⟩
       refine wpAllP_next [8] (by kernel_rfl) (fun c hc=>?_)
       simp only[List.mem_singleton] at hc
       subst hc
       refine⟨_,rfl,?_⟩
       go_wp2
       refine⟨hs.only,?_⟩
       refine wpAll_last [11] (by kernel_rfl) (fun c hc=>?_)
       simp only[List.mem_singleton] at hc
       subst hc
       refine⟨_,rfl,?_⟩
       go_wp2
       go_meet
       exact⟨g10,rs2,rfl,rfl,hag2,hs⟩
    ·skip
     refine⟨_,rfl,?_⟩
     go_wp2
     refine⟨hs.only,?_⟩
     refine wpAllP_next [7,9] (by kernel_rfl) (fun c hc=>?_)
     simp only[List.mem_cons,List.not_mem_nil,or_false] at hc
     rcases hc with rfl | rfl
     ·skip
      refine⟨_,rfl,?_⟩
      go_wp2
      refine⟨hs.only,?_⟩
      refine wpAllP_next [9] (by kernel_rfl) (fun c hc=>?_)
      simp only[List.mem_singleton] at hc
      subst hc
      refine⟨_,rfl,?_⟩
      refine wpl_alloc zero3 hs ?_
      clear hs
      intro g10 w hs
      replace hs:St w0 (blk g10 (c3 V3.z).toArray 38::_) w:=hs
      replace hs:St w0 (blk g5 (c3 v).toArray 38::TbB D d (fpV F) rs2::DfP F bd evs rds::blk g6 (c3 V3.z).toArray 38::blk g10 (c3 V3.z).toArray 38::L) w:=hs.pm
      refine wpList_nil ⟨rfl,hs.only,?_⟩
      refine wpAllP_next [10] (by kernel_rfl) (fun c hc=>?_)
      simp only[List.mem_singleton] at hc
      subst hc
      refine⟨_,rfl,?_⟩
      refine wpl_store_agg (v:=val3 u) rfl rfl (size3 _) (hs.pm (M:=blk g10 (c3 V3.z).toArray 38::blk g5 (c3 v).toArray 38::TbB D d (fpV F) rs2::DfP F bd evs rds::blk g6 (c3 V3.z).toArray 38::L)) WrA.slot3 ?_
      clear hs
      intro w hs
      replace hs:St w0 (blk g5 (c3 v).toArray 38::TbB D d (fpV F) rs2::DfP F bd evs rds::blk g6 (c3 V3.z).toArray 38::blk g10 (c3 u).toArray 38::L) w:=hs.pm
      refine wpList_nil ⟨rfl,hs.only,?_⟩
      refine wpAll_last [11] (by kernel_rfl) (fun c hc=>?_)
      simp only[List.mem_singleton] at hc
      subst hc
      refine⟨_,rfl,?_⟩
      go_wp2
      go_meet
      exact⟨g10,rs2,rfl,rfl,hag2,hs⟩
     ·skip
      refine⟨_,rfl,?_⟩
      refine wpl_alloc zero3 hs ?_
      clear hs
      intro g10 w hs
      replace hs:St w0 (blk g10 (c3 V3.z).toArray 38::_) w:=hs
      replace hs:St w0 (blk g5 (c3 v).toArray 38::TbB D d (fpV F) rs2::DfP F bd evs rds::blk g6 (c3 V3.z).toArray 38::blk g10 (c3 V3.z).toArray 38::L) w:=hs.pm
      refine wpList_nil ⟨rfl,hs.only,?_⟩
      refine wpAllP_next [7] (by kernel_rfl) (fun c hc=>?_)
      simp only[List.mem_singleton] at hc
      subst hc
      refine⟨_,rfl,?_⟩
      go_wp2
      refine⟨hs.only,?_⟩
      refine wpAllP_next [10] (by kernel_rfl) (fun c hc=>?_)
      simp only[List.mem_singleton] at hc
      subst hc
      refine⟨_,rfl,?_⟩
      refine wpl_store_agg (v:=val3 u) rfl rfl (size3 _) (hs.pm (M:=blk g10 (c3 V3.z).toArray 38::blk g5 (c3 v).toArray 38::TbB D d (fpV F) rs2::DfP F bd evs rds::blk g6 (c3 V3.z).toArray 38::L)) WrA.slot3 ?_
      clear hs
      intro w hs
      replace hs:St w0 (blk g5 (c3 v).toArray 38::TbB D d (fpV F) rs2::DfP F bd evs rds::blk g6 (c3 V3.z).toArray 38::blk g10 (c3 u).toArray 38::L) w:=hs.pm
      refine wpList_nil ⟨rfl,hs.only,?_⟩
      refine wpAll_last [11] (by kernel_rfl) (fun c hc=>?_)
      simp only[List.mem_singleton] at hc
      subst hc
      refine⟨_,rfl,?_⟩
      go_wp2
      go_meet
      exact⟨g10,rs2,rfl,rfl,hag2,hs⟩
    ·skip
     refine⟨_,rfl,?_⟩
     refine wpl_alloc zero3 hs ?_
     clear hs
     intro g10 w hs
     replace hs:St w0 (blk g10 (c3 V3.z).toArray 38::_) w:=hs
     replace hs:St w0 (blk g5 (c3 v).toArray 38::TbB D d (fpV F) rs2::DfP F bd evs rds::blk g6 (c3 V3.z).toArray 38::blk g10 (c3 V3.z).toArray 38::L) w:=hs.pm
     refine wpList_nil ⟨rfl,hs.only,?_⟩
     refine wpAllP_next [7,8] (by kernel_rfl) (fun c hc=>?_)
     simp only[List.mem_cons,List.not_mem_nil,or_false] at hc
     rcases hc with rfl | rfl
     ·skip
      refine⟨_,rfl,?_⟩
      go_wp2
      refine⟨hs.only,?_⟩
      refine wpAllP_next [8,10] (by kernel_rfl) (fun c hc=>?_)
      simp only[List.mem_cons,List.not_mem_nil,or_false] at hc
      rcases hc with rfl | rfl
      ·skip
       refine⟨_,rfl,?_⟩
       go_wp2
       refine⟨hs.only,?_⟩
       refine wpAllP_next [10] (by kernel_rfl) (fun c hc=>?_)
       simp only[List.mem_singleton] at hc
       subst hc
       refine⟨_,rfl,?_⟩
       refine wpl_store_agg (v:=val3 u) rfl rfl (size3 _) (hs.pm (M:=blk g10 (c3 V3.z).toArray 38::blk g5 (c3 v).toArray 38::TbB D d (fpV F) rs2::DfP F bd evs rds::blk g6 (c3 V3.z).toArray 38::L)) WrA.slot3 ?_
       clear hs
       intro w hs
       replace hs:St w0 (blk g5 (c3 v).toArray 38::TbB D d (fpV F) rs2::DfP F bd evs rds::blk g6 (c3 V3.z).toArray 38::blk g10 (c3 u).toArray 38::L) w:=hs.pm
       refine wpList_nil ⟨rfl,hs.only,?_⟩
       refine wpAll_last [11] (by kernel_rfl) (fun c hc=>?_)
       simp only[List.mem_singleton] at hc
       subst hc
       refine⟨_,rfl,?_⟩
       go_wp2
       go_meet
       exact⟨g10,rs2,rfl,rfl,hag2,hs⟩
      ·skip
       refine⟨_,rfl,?_⟩
       refine wpl_store_agg (v:=val3 u) rfl rfl (size3 _) (hs.pm (M:=blk g10 (c3 V3.z).toArray 38::blk g5 (c3 v).toArray 38::TbB D d (fpV F) rs2::DfP F bd evs rds::blk g6 (c3 V3.z).toArray 38::L)) WrA.slot3 ?_
       clear hs
       intro w hs
       replace hs:St w0 (blk g5 (c3 v).toArray 38::TbB D d (fpV F) rs2::DfP F bd evs rds::blk g6 (c3 V3.z).toArray 38::blk g10 (c3 u).toArray 38::L) w:=hs.pm
       refine wpList_nil ⟨rfl,hs.only,?_⟩
       refine wpAllP_next [8] (by kernel_rfl) (fun c hc=>?_)
       simp only[List.mem_singleton] at hc
       subst hc
       refine⟨_,rfl,?_⟩
       go_wp2
       refine⟨hs.only,?_⟩
       refine wpAll_last [11] (by kernel_rfl) (fun c hc=>?_)
       simp only[List.mem_singleton] at hc
       subst hc
       refine⟨_,rfl,?_⟩
       go_wp2
       go_meet
       exact⟨g10,rs2,rfl,rfl,hag2,hs⟩
     ·skip
      refine⟨_,rfl,?_⟩
      go_wp2
      refine⟨hs.only,?_⟩
      refine wpAllP_next [7] (by kernel_rfl) (fun c hc=>?_)
      simp only[List.mem_singleton] at hc
      subst hc
      refine⟨_,rfl,?_⟩
      go_wp2
      refine⟨hs.only,?_⟩
      refine wpAllP_next [10] (by kernel_rfl) (fun c hc=>?_)
      simp only[List.mem_singleton] at hc
      subst hc
      refine⟨_,rfl,?_⟩
      refine wpl_store_agg (v:=val3 u) rfl rfl (size3 _) (hs.pm (M:=blk g10 (c3 V3.z).toArray 38::blk g5 (c3 v).toArray 38::TbB D d (fpV F) rs2::DfP F bd evs rds::blk g6 (c3 V3.z).toArray 38::L)) WrA.slot3 ?_
      clear hs
      intro w hs
      replace hs:St w0 (blk g5 (c3 v).toArray 38::TbB D d (fpV F) rs2::DfP F bd evs rds::blk g6 (c3 V3.z).toArray 38::blk g10 (c3 u).toArray 38::L) w:=hs.pm
      refine wpList_nil ⟨rfl,hs.only,?_⟩
      refine wpAll_last [11] (by kernel_rfl) (fun c hc=>?_)
      simp only[List.mem_singleton] at hc
      subst hc
      refine⟨_,rfl,?_⟩
      go_wp2
      go_meet
      exact⟨g10,rs2,rfl,rfl,hag2,hs⟩
   ·skip
    refine⟨_,rfl,?_⟩
    refine wpl_alloc zero3 hs ?_
    clear hs
    intro g10 w hs
    replace hs:St w0 (blk g10 (c3 V3.z).toArray 38::_) w:=hs
    replace hs:St w0 (blk g5 (c3 v).toArray 38::TbB D d (fpV F) rs2::DfP F bd evs rds::blk g6 (c3 V3.z).toArray 38::blk g10 (c3 V3.z).toArray 38::L) w:=hs.pm
    refine wpList_nil ⟨rfl,hs.only,?_⟩
    refine wpAllP_next [6] (by kernel_rfl) (fun c hc=>?_)
    simp only[List.mem_singleton] at hc
    subst hc
    refine⟨_,rfl,?_⟩
    go_wp2
    refine⟨hs.only,?_⟩
    refine wpAllP_next [7,8] (by kernel_rfl) (fun c hc=>?_)
    simp only[List.mem_cons,List.not_mem_nil,or_false] at hc
    rcases hc with rfl | rfl
    ·skip
     refine⟨_,rfl,?_⟩
     go_wp2
     refine⟨hs.only,?_⟩
     refine wpAllP_next [8,10] (by kernel_rfl) (fun c hc=>?_)
     simp only[List.mem_cons,List.not_mem_nil,or_false] at hc
     rcases hc with rfl | rfl
     ·skip
      refine⟨_,rfl,?_⟩
      go_wp2
      refine⟨hs.only,?_⟩
      refine wpAllP_next [10] (by kernel_rfl) (fun c hc=>?_)
      simp only[List.mem_singleton] at hc
      subst hc
      refine⟨_,rfl,?_⟩
      refine wpl_store_agg (v:=val3 u) rfl rfl (size3 _) (hs.pm (M:=blk g10 (c3 V3.z).toArray 38::blk g5 (c3 v).toArray 38::TbB D d (fpV F) rs2::DfP F bd evs rds::blk g6 (c3 V3.z).toArray 38::L)) WrA.slot3 ?_
      clear hs
      intro w hs
      replace hs:St w0 (blk g5 (c3 v).toArray 38::TbB D d (fpV F) rs2::DfP F bd evs rds::blk g6 (c3 V3.z).toArray 38::blk g10 (c3 u).toArray 38::L) w:=hs.pm
      refine wpList_nil ⟨rfl,hs.only,?_⟩
      refine wpAll_last [11] (by kernel_rfl) (fun c hc=>?_)
      simp only[List.mem_singleton] at hc
      subst hc
      refine⟨_,rfl,?_⟩
      go_wp2
      go_meet
      exact⟨g10,rs2,rfl,rfl,hag2,hs⟩
     ·skip
      refine⟨_,rfl,?_⟩
      refine wpl_store_agg (v:=val3 u) rfl rfl (size3 _) (hs.pm (M:=blk g10 (c3 V3.z).toArray 38::blk g5 (c3 v).toArray 38::TbB D d (fpV F) rs2::DfP F bd evs rds::blk g6 (c3 V3.z).toArray 38::L)) WrA.slot3 ?_
      clear hs
      intro w hs
      replace hs:St w0 (blk g5 (c3 v).toArray 38::TbB D d (fpV F) rs2::DfP F bd evs rds::blk g6 (c3 V3.z).toArray 38::blk g10 (c3 u).toArray 38::L) w:=hs.pm
      refine wpList_nil ⟨rfl,hs.only,?_⟩
      refine wpAllP_next [8] (by kernel_rfl) (fun c hc=>?_)
      simp only[List.mem_singleton] at hc
      subst hc
      refine⟨_,rfl,?_⟩
      go_wp2
      refine⟨hs.only,?_⟩
      refine wpAll_last [11] (by kernel_rfl) (fun c hc=>?_)
      simp only[List.mem_singleton] at hc
      subst hc
      refine⟨_,rfl,?_⟩
      go_wp2
      go_meet
      exact⟨g10,rs2,rfl,rfl,hag2,hs⟩
    ·skip
     refine⟨_,rfl,?_⟩
     go_wp2
     refine⟨hs.only,?_⟩
     refine wpAllP_next [7] (by kernel_rfl) (fun c hc=>?_)
     simp only[List.mem_singleton] at hc
     subst hc
     refine⟨_,rfl,?_⟩
     go_wp2
     refine⟨hs.only,?_⟩
     refine wpAllP_next [10] (by kernel_rfl) (fun c hc=>?_)
     simp only[List.mem_singleton] at hc
     subst hc
     refine⟨_,rfl,?_⟩
     refine wpl_store_agg (v:=val3 u) rfl rfl (size3 _) (hs.pm (M:=blk g10 (c3 V3.z).toArray 38::blk g5 (c3 v).toArray 38::TbB D d (fpV F) rs2::DfP F bd evs rds::blk g6 (c3 V3.z).toArray 38::L)) WrA.slot3 ?_
     clear hs
     intro w hs
     replace hs:St w0 (blk g5 (c3 v).toArray 38::TbB D d (fpV F) rs2::DfP F bd evs rds::blk g6 (c3 V3.z).toArray 38::blk g10 (c3 u).toArray 38::L) w:=hs.pm
     refine wpList_nil ⟨rfl,hs.only,?_⟩
     refine wpAll_last [11] (by kernel_rfl) (fun c hc=>?_)
     simp only[List.mem_singleton] at hc
     subst hc
     refine⟨_,rfl,?_⟩
     go_wp2
     go_meet
     exact⟨g10,rs2,rfl,rfl,hag2,hs⟩
  ·skip
   refine⟨_,rfl,?_⟩
   refine wpl_alloc zero3 hs ?_
   clear hs
   intro g10 w hs
   replace hs:St w0 (blk g10 (c3 V3.z).toArray 38::_) w:=hs
   replace hs:St w0 (blk g5 (c3 v).toArray 38::TbB D d (fpV F) rs::DfP F bd evs rds::blk g6 (c3 V3.z).toArray 38::blk g10 (c3 V3.z).toArray 38::L) w:=hs.pm
   refine wpList_nil ⟨rfl,hs.only,?_⟩
   refine wpAllP_next [5] (by kernel_rfl) (fun c hc=>?_)
   simp only[List.mem_singleton] at hc
   subst hc
   refine⟨_,rfl,?_⟩
   go_wp2_with (first
    | (go_at_call 138;refine (HP.out _ _ (hs.pm (M:=TbB D d (fpV F) rs::blk g5 (c3 v).toArray 38::DfP F bd evs rds::blk g6 (c3 V3.z).toArray 38::blk g10 (c3 V3.z).toArray 38::L))).mono ?_;clear hs HP;rintro r w ⟨rs2,hag2,rfl,hs⟩))
   replace hs:St w0 (blk g5 (c3 v).toArray 38::TbB D d (fpV F) rs2::DfP F bd evs rds::blk g6 (c3 V3.z).toArray 38::blk g10 (c3 V3.z).toArray 38::L) w:=hs.pm
   refine⟨hs.only,?_⟩
   refine wpAllP_next [6] (by kernel_rfl) (fun c hc=>?_)
   simp only[List.mem_singleton] at hc
   subst hc
   refine⟨_,rfl,?_⟩
   go_wp2
   refine⟨hs.only,?_⟩
   refine wpAllP_next [7,8] (by kernel_rfl) (fun c hc=>?_)
   simp only[List.mem_cons,List.not_mem_nil,or_false] at hc
   rcases hc with rfl | rfl
   ·skip
    refine⟨_,rfl,?_⟩
    go_wp2
    refine⟨hs.only,?_⟩
    refine wpAllP_next [8,10] (by kernel_rfl) (fun c hc=>?_)
    simp only[List.mem_cons,List.not_mem_nil,or_false] at hc
    rcases hc with rfl | rfl
    ·skip
     refine⟨_,rfl,?_⟩
     go_wp2
     refine⟨hs.only,?_⟩
     refine wpAllP_next [10] (by kernel_rfl) (fun c hc=>?_)
     simp only[List.mem_singleton] at hc
     subst hc
     refine⟨_,rfl,?_⟩
     refine wpl_store_agg (v:=val3 u) rfl rfl (size3 _) (hs.pm (M:=blk g10 (c3 V3.z).toArray 38::blk g5 (c3 v).toArray 38::TbB D d (fpV F) rs2::DfP F bd evs rds::blk g6 (c3 V3.z).toArray 38::L)) WrA.slot3 ?_
     clear hs
     intro w hs
     replace hs:St w0 (blk g5 (c3 v).toArray 38::TbB D d (fpV F) rs2::DfP F bd evs rds::blk g6 (c3 V3.z).toArray 38::blk g10 (c3 u).toArray 38::L) w:=hs.pm
     refine wpList_nil ⟨rfl,hs.only,?_⟩
     refine wpAll_last [11] (by kernel_rfl) (fun c hc=>?_)
     simp only[List.mem_singleton] at hc
     subst hc
     refine⟨_,rfl,?_⟩
     go_wp2
     go_meet
     exact⟨g10,rs2,rfl,rfl,hag2,hs⟩
    ·skip
     refine⟨_,rfl,?_⟩
     refine wpl_store_agg (v:=val3 u) rfl rfl (size3 _) (hs.pm (M:=blk g10 (c3 V3.z).toArray 38::blk g5 (c3 v).toArray 38::TbB D d (fpV F) rs2::DfP F bd evs rds::blk g6 (c3 V3.z).toArray 38::L)) WrA.slot3 ?_
     clear hs
     intro w hs
     replace hs:St w0 (blk g5 (c3 v).toArray 38::TbB D d (fpV F) rs2::DfP F bd evs rds::blk g6 (c3 V3.z).toArray 38::blk g10 (c3 u).toArray 38::L) w:=hs.pm
     refine wpList_nil ⟨rfl,hs.only,?_⟩
     refine wpAllP_next [8] (by kernel_rfl) (fun c hc=>?_)
     simp only[List.mem_singleton] at hc
     subst hc
     refine⟨_,rfl,?_⟩
     go_wp2
     refine⟨hs.only,?_⟩
     refine wpAll_last [11] (by kernel_rfl) (fun c hc=>?_)
     simp only[List.mem_singleton] at hc
     subst hc
     refine⟨_,rfl,?_⟩
     go_wp2
     go_meet
     exact⟨g10,rs2,rfl,rfl,hag2,hs⟩
   ·skip
    refine⟨_,rfl,?_⟩
    go_wp2
    refine⟨hs.only,?_⟩
    refine wpAllP_next [7] (by kernel_rfl) (fun c hc=>?_)
    simp only[List.mem_singleton] at hc
    subst hc
    refine⟨_,rfl,?_⟩
    go_wp2
    refine⟨hs.only,?_⟩
    refine wpAllP_next [10] (by kernel_rfl) (fun c hc=>?_)
    simp only[List.mem_singleton] at hc
    subst hc
    refine⟨_,rfl,?_⟩
    refine wpl_store_agg (v:=val3 u) rfl rfl (size3 _) (hs.pm (M:=blk g10 (c3 V3.z).toArray 38::blk g5 (c3 v).toArray 38::TbB D d (fpV F) rs2::DfP F bd evs rds::blk g6 (c3 V3.z).toArray 38::L)) WrA.slot3 ?_
    clear hs
    intro w hs
    replace hs:St w0 (blk g5 (c3 v).toArray 38::TbB D d (fpV F) rs2::DfP F bd evs rds::blk g6 (c3 V3.z).toArray 38::blk g10 (c3 u).toArray 38::L) w:=hs.pm
    refine wpList_nil ⟨rfl,hs.only,?_⟩
    refine wpAll_last [11] (by kernel_rfl) (fun c hc=>?_)
    simp only[List.mem_singleton] at hc
    subst hc
    refine⟨_,rfl,?_⟩
    go_wp2
    go_meet
    exact⟨g10,rs2,rfl,rfl,hag2,hs⟩
 case rest=>
  clear hs HP
  obtain⟨g10,rs2,rfl,rfl,hag2,hs⟩:=hcut
  cases b
  ·skip
   have hk0:Hid (ntE F evs 1 ((i:Nat):Int)=evs'):=hev
   clear hev
   go_upto_region 8 with (first
    | (go_at_call 133;refine (ds_noteP (hs.pm (M:=TbB D d (fpV F) rs2::DfP F bd evs rds::blk g5 (c3 v).toArray 38::blk g6 (c3 V3.z).toArray 38::blk g10 (c3 u).toArray 38::L)) _ _ HL.out hk0).mono ?_;clear hs;rintro r w ⟨rfl,hs⟩))
   replace hs:St w0 (blk g6 (c3 V3.z).toArray 38::blk g10 (c3 u).toArray 38::TbB D d (fpV F) rs2::DfP F bd evs' rds::blk g5 (c3 v).toArray 38::L) w:=hs.pm
   go_wp2_with (first
    | (refine wpl_load3 (v:=u) rfl ?hh agg3 size3n hs ?_;case hh=>exact has3_tail has3_slot)
    | (refine wpl_store_agg (v:=val3 u) rfl rfl (size3 _) hs WrA.slot3 ?_;clear hs;intro w hs))
   refine bodyPost_at (results_cell_tmp2 Tryz.results89 rfl (hs.slot_run agg3 (size3 _))) rfl ?_
   exact⟨rs2,hag2.out,rfl,(hs.drop.drop).up2.drop⟩
  ·skip
   have hk0:Hid (ntE F evs 2 ((i:Nat):Int)=evs'):=hev
   clear hev
   go_upto_region 8 with (first
    | (go_at_call 133;refine (ds_noteP (hs.pm (M:=TbB D d (fpV F) rs2::DfP F bd evs rds::blk g5 (c3 v).toArray 38::blk g6 (c3 V3.z).toArray 38::blk g10 (c3 u).toArray 38::L)) _ _ HL.out hk0).mono ?_;clear hs;rintro r w ⟨rfl,hs⟩))
   replace hs:St w0 (blk g6 (c3 V3.z).toArray 38::blk g10 (c3 u).toArray 38::TbB D d (fpV F) rs2::DfP F bd evs' rds::blk g5 (c3 v).toArray 38::L) w:=hs.pm
   go_wp2_with (first
    | (refine wpl_load3 (v:=u) rfl ?hh agg3 size3n hs ?_;case hh=>exact has3_tail has3_slot)
    | (refine wpl_store_agg (v:=val3 u) rfl rfl (size3 _) hs WrA.slot3 ?_;clear hs;intro w hs))
   refine bodyPost_at (results_cell_tmp2 Tryz.results89 rfl (hs.slot_run agg3 (size3 _))) rfl ?_
   exact⟨rs2,hag2.out,rfl,(hs.drop.drop).up2.drop⟩
set_option maxHeartbeats 1000000 in
theorem dtake {w0 w:World} {L:List As} {D:Nat} {d:V3} {F:Option Nat} {rs:List Row} {S:List Nat} {g:Nat→V3} {evs:List Ev} {rds:List Nat} {bd:Int} (hs:St w0 (TbB D d (fpV F) rs::DfP F bd evs rds::L) w) (hag:AgG S g rs) {i:Int} (hl:evs.length≤4000000000)
  {u:V3} {b:Bool} (hu:Hid (getG S g i=u)) (hb:Hid (memS S i=b)) {evs':List Ev} (hev:Hid ((if b then ntE F evs 3 i else evs)=evs')):
  Calls Tryz.prog 84 #[.pointer (some ⟨D,0,none⟩), .int .i64 i] w fun r w'=>∃ rs2,AgG (tS S i) g rs2∧r= .returned (.tuple #[val3 u, .bool b])∧
   St w0 (TbB D d (fpV F) rs2::DfP F bd evs' rds::L) w':=by
 have HT:=Lib.hid (fun (w:World) (L:List As) (hs:St w0 (TbB D d (fpV F) rs::L) w)=>tA_take hs hag i hu hb)
 have HL:=Lib.hid hl
 clear hl hag
 go_enter Tryz.func84,Tryz.ntmps84
 go_upto_region 1 with (first
  | (refine wpl_alloc zero3 hs ?_;clear hs;intro g4 w hs))
 go_upto_region 2 with (first
  | (go_at_call 132;refine (HT.out _ _ (hs.pm (M:=TbB D d (fpV F) rs::blk g4 (c3 V3.z).toArray 38::DfP F bd evs rds::L))).mono ?_;clear hs HT;rintro r w ⟨rs2,hag2,rfl,hs⟩)
  | (refine wpl_alloc zero3 hs ?_;clear hs;intro g6 w hs)
  | (refine wpl_store_agg (v:=val3 u) rfl rfl (size3 _) hs WrA.slot3 ?_;clear hs;intro w hs))
 have HA2:=Lib.hid hag2
 clear hag2 hu hb
 cases b
 ·obtain rfl:evs=evs':=hev.out
  replace hs:St w0 (blk g4 (c3 V3.z).toArray 38::blk g6 (c3 u).toArray 38::TbB D d (fpV F) rs2::DfP F bd evs rds::L) w:=hs.pm
  go_wp2_with (first
   | (refine wpl_load3 (v:=u) rfl ?hh agg3 size3n hs ?_;case hh=>exact has3_tail has3_slot)
   | (refine wpl_store_agg (v:=val3 u) rfl rfl (size3 _) hs WrA.slot3 ?_;clear hs;intro w hs))
  refine bodyPost_at (results_cell_tmp Tryz.results84 rfl (hs.slot_run agg3 (size3 _))) rfl ?_
  exact⟨rs2,HA2.out,rfl,hs.drop.drop⟩
 ·have hev2:Hid (ntE F evs 3 i=evs'):=hev.out
  clear hev
  go_upto_region 4 with (first
   | (go_at_call 133;refine (ds_noteP (hs.pm (M:=TbB D d (fpV F) rs2::DfP F bd evs rds::blk g4 (c3 V3.z).toArray 38::blk g6 (c3 u).toArray 38::L)) _ _ HL.out hev2).mono ?_;clear hs;rintro r w ⟨rfl,hs⟩))
  replace hs:St w0 (blk g4 (c3 V3.z).toArray 38::blk g6 (c3 u).toArray 38::TbB D d (fpV F) rs2::DfP F bd evs' rds::L) w:=hs.pm
  go_wp2_with (first
   | (refine wpl_load3 (v:=u) rfl ?hh agg3 size3n hs ?_;case hh=>exact has3_tail has3_slot)
   | (refine wpl_store_agg (v:=val3 u) rfl rfl (size3 _) hs WrA.slot3 ?_;clear hs;intro w hs))
  refine bodyPost_at (results_cell_tmp Tryz.results84 rfl (hs.slot_run agg3 (size3 _))) rfl ?_
  exact⟨rs2,HA2.out,rfl,hs.drop.drop⟩
theorem dset_out {w0 w:World} {L:List As} {D:Nat} {d:V3} {F:Value} {rs:List Row} (hs:St w0 (TbB D d F rs::L) w) {i:Int} {v:V3} {e:Int} (he:Hid (errV d.k i v=e)) (h0:e ≠ 0):
  Calls Tryz.prog 93 #[.pointer (some ⟨D,0,none⟩), .int .i64 i,val3 v] w fun r w'=>r= .returned (.int .i64 e)∧Grew w w':=by
 have d0:(e==0)=false:=by simpa using h0
 have hw:=St.start w
 have HC:=Lib.hid (fun (w:World) (hs:St w0 (TbB D d F rs::L) w)=>ds_may hs he)
 clear he
 go_enter Tryz.func93,Tryz.ntmps93
 go_upto_region 1 with (first
  | (refine wpl_box_v (v:=val3 v) rfl hw ?_;clear hw;intro g5 w1 hw))
 replace hw:St _ [blk g5 (c3 v).toArray 38] _:=hw
 go_wp2_with (first
  | (refine wpl_load3 (v:=v) rfl ?hh agg3 size3n hw ?_;case hh=>exact has3_slot)
  | (go_at_call 137;refine (HC.out _ (hs.grew hw.made_grew)).mono ?_;rintro r w3 ⟨rfl,hg2⟩;replace hw:=hw.grew hg2;clear hg2))
 go_ret
 exact⟨rfl,hw.made_grew⟩
set_option maxHeartbeats 1000000 in
theorem dset_in {w0 w:World} {L:List As} {D:Nat} {d:V3} {F:Option Nat} {rs:List Row} {S:List Nat} {g:Nat→V3} {evs:List Ev} {rds:List Nat} {bd:Int} (hs:St w0 (TbB D d (fpV F) rs::DfP F bd evs rds::L) w) (hag:AgG S g rs) {i:Nat} (hi:i < 65536) {v:V3} (hvk:v.k=d.k) (hok:okVal v=true) (hl:evs.length≤4000000000)
  {b:Bool} (hb:Hid (memS S (i:Nat)=b)) {evs':List Ev} (hev:Hid ((if b then ntE F evs 2 (i:Nat) else evs)=evs')):
  Calls Tryz.prog 93 #[.pointer (some ⟨D,0,none⟩), .int .i64 (i:Nat),val3 v] w fun r w'=>∃ rs2,AgG S (if b then pG g (i:Nat) v else g) rs2∧r= .returned (.int .i64 (if b then 0 else 10))∧
   St w0 (TbB D d (fpV F) rs2::DfP F bd evs' rds::L) w':=by
 have HE:Hid (errV d.k ((i:Nat):Int) v=0):=by
  rw[Hid];unfold errV
  rw[if_pos (okI_iff.2 (by omega)),if_pos (by simp[hok,hvk])]
 obtain⟨u,hu⟩:∃ u,Hid (getG S g (i:Nat)=u):=⟨_,rfl⟩
 have HG:=Lib.hid (fun (w:World) (L:List As) (hs:St w0 (TbB D d (fpV F) rs::L) w)=>tA_get hs hag (i:Nat) hu hb)
 have HP:=Lib.hid (fun (w:World) (L:List As) (hs:St w0 (TbB D d (fpV F) rs::L) w)=>tA_put hs hag hi v hu hb)
 have HL:=Lib.hid hl
 have HA:=Lib.hid hag
 have HI:Hid (b=true→insS i S=S):=fun h=>insS_in hag.sorted (memS_iff.1 (hb.out.trans h))
 clear hl hvk hok hag hi
 go_enter Tryz.func93,Tryz.ntmps93
 go_upto_region 1 with (first
  | (refine wpl_box_v (v:=val3 v) rfl hs ?_;clear hs;intro g5 w hs))
 replace hs:St w0 (blk g5 (c3 v).toArray 38::TbB D d (fpV F) rs::DfP F bd evs rds::L) w:=hs
 have hv5:=(has3_slot (w0:=w0) (L:=[]) (g:=g5) (v:=v) (t:=38):Has3 w0 [blk g5 (c3 v).toArray 38] g5 v)
 go_upto_region 5 with (first
  | (refine wpl_load3 (v:=v) rfl ?hh agg3 size3n hs.only ?_;case hh=>exact hv5)
  | (go_at_call 137;refine (ds_may hs.rot HE).mono ?_;rintro r w3 ⟨rfl,hg2⟩;replace hs:=hs.grew hg2;clear hg2)
  | (go_at_call 91;refine (HG.out _ _ hs.rot).mono ?_;clear HG;rintro r w ⟨rfl,hg2⟩;replace hs:=hs.grew hg2;clear hg2)
  | (refine wpl_alloc zero3 hs ?_;clear hs;intro g8 w hs)
  | (refine wpl_store_agg (v:=val3 u) rfl rfl (size3 _) hs WrA.slot3 ?_;clear hs;intro w hs))
 replace hs:St w0 (blk g5 (c3 v).toArray 38::TbB D d (fpV F) rs::DfP F bd evs rds::blk g8 (c3 u).toArray 38::L) w:=hs.pm
 clear hu hb
 cases b
 ·obtain rfl:evs=evs':=hev.out
  clear HP HI
  go_wp2
  go_ret
  exact⟨rs,HA.out,rfl,(hs.drop).up2.drop⟩
 ·have hev2:Hid (ntE F evs 2 ((i:Nat):Int)=evs'):=hev.out
  clear hev HA
  go_upto_region 7 with (fail)
  refine wp_region_plain [false,false,false,false,false,true] hs.only (by kernel_rfl) (by kernel_rfl) fun hne=>?_
  have v0':=(hv5 0 _ rfl).alln
  have v1':=(hv5 1 _ rfl).alln
  have v2':=(hv5 2 _ rfl).alln
  simp only[Nat.zero_add] at v0' v1' v2'
  clear hv5
  simp only[pickOps]
  repeat (go_big_quiet_step (fail))
  refine wpQuiet_nil ?_
  clear hne v0' v1' v2'
  simp only[chainIx]
  replace hs:=hs.drew
  refine wpChain_last rfl ?_
  go_wp2_with (first
   | (go_at_call 138;refine (HP.out _ _ hs.rot).mono ?_;clear hs HP;rintro r w ⟨rs2,hag2,rfl,hs⟩;replace hag2:=Lib.hid hag2)
   | (go_at_call 133;refine (ds_noteP (hs.pm (M:=TbB D d (fpV F) rs2::DfP F bd evs rds::blk g5 (c3 v).toArray 38::blk g8 (c3 u).toArray 38::L)) _ _ HL.out hev2).mono ?_;clear hs;rintro r w ⟨rfl,hs⟩))
  go_ret
  refine⟨rs2,?_,rfl,(hs.up2.drop).up2.drop⟩
  have h1:=hag2.out
  rw[HI.out (by trivial)] at h1
  exact h1
end
section
open Go Go.RowKit
attribute [local irreducible] wpList Calls Code.wp okI okN pS tS memS getG pG insS delS getV pV tV okVal
theorem ds_put {w0 w:World} {L:List As} {D:Nat} {s:SlS} (hs:St w0 (DsB D s::L) w) {i:Int} {v:V3} (hl:s.evs.length≤4000000000)
  {u:V3} {b:Bool} {e:Int} {s':SlS} (hu:Hid (s.putU i v=u)) (hb:Hid (s.putB i v=b)) (he:Hid (s.err i v=e)) (hs':Hid (s.put i v=s')):
  Calls Tryz.prog 89 #[.pointer (some ⟨D,0,none⟩), .int .i64 i,val3 v] w fun r w'=>r= .returned (.tuple #[val3 u, .bool b, .int .i64 e])∧St w0 (DsB D s'::L) w':=by
 have he0:=he.out
 rw[← hu.out,← hb.out,← hs'.out]
 obtain⟨hok,rs,hag,hs⟩:=hs.dsopen
 by_cases h0:e=0
 ·subst h0
  obtain⟨⟨j,rfl,hj⟩,hvo,hvk⟩:=err_zero (kd:=s.d.k) he0
  refine (dput_in hs hag hj hvk hvo hl rfl rfl rfl).mono fun r w' ⟨rs2,hag2,h1,h2⟩=>⟨?_,?_⟩
  ·rw[h1];unfold SlS.putU SlS.putB;rw[if_pos he0,decide_eq_true he0];rfl
  ·have h3:=hok.put (i:=((j:Nat):Int)) (v:=v)
   have e1:s.put ((j:Nat):Int) v={ s with S:=insS j s.S,g:=pG s.g ((j:Nat):Int) v,evs:=s.noted (kdE (memS s.S ((j:Nat):Int))) ((j:Nat):Int) }:=by
    unfold SlS.put;rw[if_pos he0,Int.toNat_natCast]
   rw[e1] at h3 ⊢
   exact h2.dsshut h3 hag2
 ·refine (dput_out hs (e:=e) he h0).mono fun r w' ⟨h1,h2⟩=>⟨?_,?_⟩
  ·rw[h1];unfold SlS.putU SlS.putB;rw[if_neg (by rw[he0];exact h0),decide_eq_false (by rw[he0];exact h0)];rfl
  ·have e1:s.put i v=s:=by unfold SlS.put;rw[if_neg (by rw[he0];exact h0)]
   rw[e1]
   exact (hs.grew h2).dsshut hok hag
theorem ds_take {w0 w:World} {L:List As} {D:Nat} {s:SlS} (hs:St w0 (DsB D s::L) w) {i:Int} (hl:s.evs.length≤4000000000)
  {u:V3} {b:Bool} {s':SlS} (hu:Hid (s.get i=u)) (hb:Hid (s.has i=b)) (hs':Hid (s.take i=s')):
  Calls Tryz.prog 84 #[.pointer (some ⟨D,0,none⟩), .int .i64 i] w fun r w'=>r= .returned (.tuple #[val3 u, .bool b])∧St w0 (DsB D s'::L) w':=by
 rw[← hs'.out]
 obtain⟨hok,rs,hag,hs⟩:=hs.dsopen
 refine (dtake hs hag hl hu hb rfl).mono fun r w' ⟨rs2,hag2,h1,h2⟩=>⟨h1,?_⟩
 have h3:=hok.take (i:=i)
 have hm:memS s.S i=b:=hb.out
 cases b
 ·have e1:s.take i=s:=by unfold SlS.take;rw[hm];rfl
  have e2:tS s.S i=s.S:=by unfold tS;rw[hm];rfl
  rw[e2] at hag2
  rw[e1]
  exact h2.dsshut hok hag2
 ·have e1:s.take i={ s with S:=tS s.S i,evs:=s.noted 3 i }:=by unfold SlS.take;rw[hm];rfl
  rw[e1] at h3 ⊢
  exact h2.dsshut h3 hag2
theorem ds_set {w0 w:World} {L:List As} {D:Nat} {s:SlS} (hs:St w0 (DsB D s::L) w) {i:Int} {v:V3} (hl:s.evs.length≤4000000000)
  {e:Int} {s':SlS} (he:Hid (s.errSet i v=e)) (hs':Hid (s.set i v=s')):
  Calls Tryz.prog 93 #[.pointer (some ⟨D,0,none⟩), .int .i64 i,val3 v] w fun r w'=>r= .returned (.int .i64 e)∧St w0 (DsB D s'::L) w':=by
 rw[← he.out,← hs'.out]
 obtain⟨hok,rs,hag,hs⟩:=hs.dsopen
 by_cases h0:errV s.d.k i v=0
 ·have he0:s.err i v=0:=h0
  obtain⟨⟨j,rfl,hj⟩,hvo,hvk⟩:=err_zero h0
  refine (dset_in hs hag hj hvk hvo hl rfl rfl).mono fun r w' ⟨rs2,hag2,h1,h2⟩=>⟨?_,?_⟩
  ·rw[h1];unfold SlS.errSet;rw[if_pos he0]
  ·have h3:=hok.set (i:=((j:Nat):Int)) (v:=v)
   cases hm:memS s.S ((j:Nat):Int)
   ·have e0:s.errSet ((j:Nat):Int) v=10:=by unfold SlS.errSet;rw[if_pos he0,hm];rfl
    have e1:s.set ((j:Nat):Int) v=s:=by unfold SlS.set;rw[e0];rfl
    rw[hm] at h2 hag2
    rw[e1]
    exact h2.dsshut hok hag2
   ·have e0:s.errSet ((j:Nat):Int) v=0:=by unfold SlS.errSet;rw[if_pos he0,hm];rfl
    have e1:s.set ((j:Nat):Int) v={ s with g:=pG s.g ((j:Nat):Int) v,evs:=s.noted 2 ((j:Nat):Int) }:=by unfold SlS.set;rw[e0];rfl
    rw[hm] at h2 hag2
    rw[e1] at h3 ⊢
    exact h2.dsshut h3 hag2
 ·have he0:¬ s.err i v=0:=h0
  refine (dset_out hs (e:=s.err i v) rfl h0).mono fun r w' ⟨h1,h2⟩=>⟨?_,?_⟩
  ·rw[h1];unfold SlS.errSet;rw[if_neg he0]
  ·have e1:s.set i v=s:=by unfold SlS.set SlS.errSet;rw[if_neg he0,if_neg he0]
   rw[e1]
   exact (hs.grew h2).dsshut hok hag
theorem ds_get {w0 w:World} {L:List As} {D:Nat} {s:SlS} (hs:St w0 (DsB D s::L) w) {i:Int} {u:V3} {b:Bool} (hu:Hid (s.get i=u)) (hb:Hid (s.has i=b)):
  Calls Tryz.prog 91 #[.pointer (some ⟨D,3,none⟩), .int .i64 i] w fun r w'=>r= .returned (.tuple #[val3 u, .bool b])∧Grew w w':=by
 obtain⟨hok,rs,hag,hs⟩:=hs.dsopen
 exact tA_get hs hag i hu hb
theorem Rd.dsf {w0:World} {L:List As} {D:Nat} {s:SlS}:Rd w0 (DsB D s::L) ⟨D,4,none⟩ (fpV s.F):=fun w hs=>by
 obtain⟨hok,rs,hag,hs⟩:=hs.dsopen
 obtain⟨hlen,A,cap,hs⟩:=hs.tbopen
 exact Rd.ds4 _ hs
theorem build_ds (d:V3) (w:World):(Instr.build 153 #[(0,val3 d)]).run Tryz.prog w= .ok (.agg (tbC d (.pointer none) none 0 0)) w:=by kernel_rfl
theorem build_df (bd:Int) (w:World):(Instr.build 219 #[(0, .int .i64 bd)]).run Tryz.prog w= .ok (.agg (dfC bd none 0 0 none 0 0)) w:=by kernel_rfl
theorem size_fp5:(Tryz.prog.info? 151).map (·.size)=some 1:=by kernel_rfl
theorem Wr.ds4 {w0:World} {D n cap:Nat} {d:V3} {F F':Value} {A:Option Addr} {L:List As} {t:TypeId}:Wr w0 (YtiafdlofcjbllaaGreatDoor.blk D (tbC d F A n cap) t::L) ⟨D,4,none⟩ F' (YtiafdlofcjbllaaGreatDoor.blk D (tbC d F' A n cap) t::L):=Wr.blk (by simp)
theorem ds_new {w0 w:World} {L:List As} (hs:St w0 L w) (d:V3) (he:Hid (descE d=0)):
  Calls Tryz.prog 76 #[val3 d] w fun r w'=>∃ D F,r= .returned (.pointer (some ⟨D,0,none⟩))∧St w0 (DsB D (newSl d (.pointer none) F)::L) w':=by
 by_cases hb:0 < d.b
 ·go_enter Tryz.func76,Tryz.ntmps76
  go_upto_region 1 with (first
   | (refine wpl_box_v (v:=val3 d) rfl hs ?_;clear hs;intro g1 w hs))
  have hr:=has3_slot (w0:=w0) (L:=L) (g:=g1) (v:=d) (t:=97)
  obtain⟨c0,c1,c2⟩:=hr.facts hs
  go_upto_region 2 with (first
   | (refine wpl_buildS (build_ds d) rfl ?_)
   | (refine wpl_box_v (v:= .agg (tbC d (.pointer none) none 0 0)) rfl hs ?_;clear hs c0 c1 c2;intro D w hs))
  obtain⟨c0,c1,c2⟩:=hr.facts hs.drop
  go_upto_region 3 with (fail)
  go_wp2_with (first
   | (refine wpl_buildS (build_df d.b) rfl ?_)
   | (refine wpl_box_v (v:= .agg (dfC d.b none 0 0 none 0 0)) rfl hs ?_;clear hs c0 c1 c2;intro f w hs)
   | (refine wpl_store (v:= .pointer (some ⟨f,0,none⟩)) rfl rfl rfl size_fp5 hs.rot (Wr.ds4 (F':= .pointer (some ⟨f,0,none⟩))) ?_;clear hs;intro w hs))
  go_ret
  refine⟨D,some f,rfl,?_⟩
  have h1:St w0 (blk D (tbC d (.pointer (some ⟨f,0,none⟩)) none 0 0) 153::own none 0 0 225 4 (cs4 [])::DfB f d.b [] []::L) w:=by
   have h2:=(hs.rot.own_nil 3 1).own_nil 121 2
   have h3:=h2.pm (M:=blk f (dfC d.b none 0 0 none 0 0) 219::own none 0 0 121 2 []::own none 0 0 3 1 []::blk D (tbC d (.pointer (some ⟨f,0,none⟩)) none 0 0) 153::blk g1 (val3 d).cells 97::L)
   have h4:St w0 (DfB f d.b [] []::_) w:=St.dfshut (evs:=[]) (rds:=[]) h3
   have h5:=(h4.up2.drop).own_nil 225 4
   exact h5.up2
  exact (h1.tbshut (rs:=[]) (by decide)).dsshut ⟨he.out,by unfold newSl;simp[hb]⟩ (AgG.nil _)
 ·go_enter Tryz.func76,Tryz.ntmps76
  go_upto_region 1 with (first
   | (refine wpl_box_v (v:=val3 d) rfl hs ?_;clear hs;intro g1 w hs))
  have hr:=has3_slot (w0:=w0) (L:=L) (g:=g1) (v:=d) (t:=97)
  obtain⟨c0,c1,c2⟩:=hr.facts hs
  go_upto_region 2 with (first
   | (refine wpl_buildS (build_ds d) rfl ?_)
   | (refine wpl_box_v (v:= .agg (tbC d (.pointer none) none 0 0)) rfl hs ?_;clear hs c0 c1 c2;intro D w hs))
  obtain⟨c0,c1,c2⟩:=hr.facts hs.drop
  go_wp2
  go_ret
  refine⟨D,rfl,Option.none,?_⟩
  have h1:St w0 (blk D (tbC d (.pointer none) none 0 0) 153::own none 0 0 225 4 (cs4 [])::DfP none d.b [] []::L) w:=by
   have h2:St w0 (DfP none d.b [] []::blk D (tbC d (.pointer none) none 0 0) 153::L) w:=(hs.rot.drop).ent fun _ h=>star_mono (fun _ he=>⟨⟨rfl,rfl⟩,he⟩) (fun _ x=>x) (emp_star h)
   have h5:=h2.own_nil 225 4
   exact h5.up2
  exact (h1.tbshut (rs:=[]) (by decide)).dsshut ⟨he.out,by unfold newSl;simp;omega⟩ (AgG.nil _)
end
section
open Go Go.RowKit
attribute [local irreducible] wpList Calls Code.wp okI okN pS tS memS getG pG insS delS getV pV tV okVal
theorem elemI5:ElemOk Tryz.prog 22 3 1 8:=ElemOk.of Tryz.underlying22 (z:= .int .i64 0) (by kernel_rfl) rfl (by decide)
theorem size_ints5:(Tryz.prog.info? 22).map (·.size)=some 1:=by kernel_rfl
theorem size_int5:(Tryz.prog.info? 3).map (·.size)=some 1:=by kernel_rfl
set_option maxHeartbeats 1000000 in
theorem df_reader {w0 w:World} {L:List As} {f:Nat} {bd:Int} {evs:List Ev} {rds:List Nat} (hs:St w0 (DfB f bd evs rds::L) w) (hr:rds.length < 100) {m:Nat} (hm:Hid (rds.length=m)):
  Calls Tryz.prog 155 #[.pointer (some ⟨f,0,none⟩)] w fun e w'=>e= .returned (.tuple #[.int .i64 (m:Nat), .int .i64 0])∧St w0 (DfB f bd evs (rds++[evs.length])::L) w':=by
 obtain⟨E,cE,B,cB,hs⟩:=hs.dfopen
 obtain⟨n,hn⟩:∃ n,Hid (evs.length=n):=⟨_,rfl⟩
 rw[hm.out] at hs hr
 rw[hn.out] at hs ⊢
 have c2:=Rd.df2 _ hs
 go_enter Tryz.func155,Tryz.ntmps155
 go_upto_region 3 with (fail)
 clear c2
 refine wp_region_plain [false,false,false,false,false,false,false,false,false,false,true,true,false,false,true] hs.only (by kernel_rfl) (by kernel_rfl) fun hne=>?_
 have c1:=(Rd.df1 (w0:=w0) (f:=f) (bd:=bd) (A:=E) (n:=n) (cA:=cE) (B:=B) (m:=m) (cB:=cB) (t:=219) (L:=[])).alln
 have c2:=(Rd.df2 (w0:=w0) (f:=f) (bd:=bd) (A:=E) (n:=n) (cA:=cE) (B:=B) (m:=m) (cB:=cB) (t:=219) (L:=[])).alln
 simp only[pickOps]
 repeat (go_big_quiet_step (fail))
 refine wpQuiet_nil ?_
 clear hne c1 c2
 simp only[chainIx]
 replace hs:=hs.drew
 refine wpChainP_next rfl ?_
 refine wpl_build1 (v:= .int .i64 (n:Nat)) elemI5 (by decide) rfl rfl hs ?_
 clear hs
 intro G w hs
 replace hs:=hs.rot
 refine wpList_nil ⟨rfl,hs.only,?_⟩
 refine wpChainP_next rfl ?_
 refine wpl_append (A:=B) (n:=m) (cap:=cB) (xs:=intv rds) (B:=some ⟨G,0,none⟩) (m:=1) (news:=[.int .i64 (n:Nat)]) elemI5 rfl rfl hs (L':=blk G (Value.int .i64 (n:Nat)).cells 3::blk f (dfC bd E n cE B m cB) 219::own E n cE 121 2 (es2 evs)::L) (EP.ent (by repeat constructor)) (RdS.blk.tail) rfl (by simp;rfl) (by unfold maxLen;omega) (by omega) ?_
 clear hs
 intro B3 cB3 w hs
 rw[show intv rds++[Value.int .i64 (n:Nat)]=intv (rds++[n]) by simp[intv]] at hs
 replace hs:St w0 (blk f (dfC bd E n cE B m cB) 219::own E n cE 121 2 (es2 evs)::own B3 (m+1) cB3 3 1 (intv (rds++[n]))::L) w:=hs.pm (M:=blk G (Value.int .i64 (n:Nat)).cells 3::_) |>.drop
 refine wpList_nil ⟨rfl,hs.only,?_⟩
 refine wpChain_last rfl ?_
 refine wpl_store rfl rfl rfl size_ints5 hs Wr.df2 ?_
 clear hs
 intro w hs
 have c2:=Rd.df2 _ hs
 go_wp2
 go_ret2
 have e:(rds++[n]).length=m+1:=by rw[List.length_append,hm.out];rfl
 rw[← e,← hn.out] at hs
 exact⟨by first | rfl | go_num,by rw[← hn.out];exact St.dfshut hs⟩
theorem RdS.dropE {w0:World} {L:List As} {g:Nat} {l:List Ev} (h:RdS w0 L (some ⟨g,0,none⟩) (es2 l)) (k:Nat):RdS w0 L (some ⟨g,k*2,none⟩) (es2 (l.drop k)):=fun j u hu=>by
 rw[← es2_drop,List.getElem?_drop] at hu
 obtain⟨⟨b,o,sp⟩,h1,h2,h3⟩:=h (k*2+j) u hu
 injection h1 with h1
 injection h1 with e1 e2 e3
 subst e1;subst e2
 refine⟨_,rfl,rfl,?_⟩
 simp only[Nat.zero_add] at h3
 exact h3
set_option maxHeartbeats 2000000 in
theorem df_read {w0 w:World} {L:List As} {f:Nat} {bd:Int} {evs:List Ev} {rds:List Nat} (hs:St w0 (DfB f bd evs rds::L) w) {r k:Nat} (hr:rds[r]? =some k) (hk:k≤evs.length) (hl:evs.length≤4000000000) (hbd:0≤bd) {b:Bool} {ev:List Ev} (hb:Hid (lagE bd.toNat evs k=b)) (hnl:Hid (newE bd.toNat evs k=ev)):
  Calls Tryz.prog 156 #[.pointer (some ⟨f,0,none⟩), .int .i64 (r:Nat)] w fun e w'=>∃ A cap n,Hid (ev.length=n)∧e= .returned (.tuple #[.slice A n cap, .bool b, .int .i64 0])∧St w0 (own A n cap 121 2 (es2 ev)::DfB f bd evs (rds.set r evs.length)::L) w':=by
 obtain⟨E,cE,B,cB,hs⟩:=hs.dfopen
 obtain⟨n,hn⟩:∃ n,Hid (evs.length=n):=⟨_,rfl⟩
 obtain⟨m,hm⟩:∃ n,Hid (rds.length=n):=⟨_,rfl⟩
 have hrm:r < m:=by rw[← hm.out];exact (List.getElem?_eq_some_iff.1 hr).1
 rw[hn.out] at hs hk hl ⊢
 rw[hm.out] at hs
 have hE:=hs.rot.own_addr
 have hEc:=hs.rot.own_len.2.1
 obtain⟨gB,rfl⟩:=(hs.up2).own_at (by omega)
 have hcr:∀ L,Rd w0 (own (some ⟨gB,0,none⟩) m cB 3 1 (intv rds)::L) ⟨gB,r,none⟩ (.int .i64 (k:Nat)):=fun L=>by
  have:=Rd.own (w0:=w0) (g:=gB) (n:=m) (cap:=cB) (e:=3) (size:=1) (L:=L) (intv_get hr)
  exact this
 replace hs:St w0 (blk f (dfC bd E n cE (some ⟨gB,0,none⟩) m cB) 219::own (some ⟨gB,0,none⟩) m cB 3 1 (intv rds)::own E n cE 121 2 (es2 evs)::L) w:=hs.pm
 have c2:=Rd.df2 _ hs
 have HR:=Lib.hid hr
 have HB:=Lib.hid hbd
 clear hr hbd
 go_enter Tryz.func156,Tryz.ntmps156
 go_upto_region 3 with (fail)
 clear c2
 go_cut [7] (fun lv wx=>∃ A c p,lv= .slice A p c∧Hid (p=n - k)∧St w0 (own A p c 121 2 (es2 (evs.drop k))::blk f (dfC bd E n cE (some ⟨gB,0,none⟩) m cB) 219::own (some ⟨gB,0,none⟩) m cB 3 1 (intv rds)::own E n cE 121 2 (es2 evs)::L) wx)
 case first=>
  have c1:=((Rd.df1 (w0:=w0) (f:=f) (bd:=bd) (A:=E) (n:=n) (cA:=cE) (B:=some ⟨gB,0,none⟩) (m:=m) (cB:=cB) (t:=219) (L:=[own (some ⟨gB,0,none⟩) m cB 3 1 (intv rds)]))).alln
  have c2:=((Rd.df2 (w0:=w0) (f:=f) (bd:=bd) (A:=E) (n:=n) (cA:=cE) (B:=some ⟨gB,0,none⟩) (m:=m) (cB:=cB) (t:=219) (L:=[own (some ⟨gB,0,none⟩) m cB 3 1 (intv rds)]))).alln
  have c3':=((hcr []).tail (p:=blk f (dfC bd E n cE (some ⟨gB,0,none⟩) m cB) 219)).alln
  clear hcr
  rcases hE with ⟨rfl,rfl,rfl⟩ | ⟨g,rfl⟩
  ·obtain rfl:k=0:=by omega
   refine wp_region_plain [true,false,false,false,false,false,false,false,false,false,false,false,false,true,true] hs.only2 (by kernel_rfl) (by kernel_rfl) fun hne=>?_
   simp only[pickOps]
   repeat (go_big_quiet_step (fail))
   refine wpQuiet_nil ?_
   clear hne c1 c2 c3'
   simp only[chainIx]
   replace hs:=hs.drew
   refine wpChainP_next rfl ?_
   refine wpl_build_none elemE hs ?_
   clear hs
   intro E4 w hs
   replace hs:St w0 (blk f (dfC bd none 0 0 (some ⟨gB,0,none⟩) m cB) 219::own (some ⟨gB,0,none⟩) m cB 3 1 (intv rds)::own none 0 0 121 2 (es2 evs)::own E4 0 0 121 2 []::L) w:=hs.pm
   refine wpList_nil ⟨rfl,hs.only2,?_⟩
   refine wpChainP_next rfl ?_
   refine wpl_append (A:=E4) (n:=0) (cap:=0) (xs:=[]) (B:=none) (m:=0) (news:=[]) elemE rfl rfl hs (L':=blk f (dfC bd none 0 0 (some ⟨gB,0,none⟩) m cB) 219::own (some ⟨gB,0,none⟩) m cB 3 1 (intv rds)::own none 0 0 121 2 (es2 evs)::L) (EP.ent (by repeat constructor)) RdS.nil rfl (fun _ h=>nomatch h) (by unfold maxLen;omega) (by omega) ?_
   clear hs
   intro E5 cE5 w hs
   simp only[List.nil_append,Nat.zero_add] at hs ⊢
   replace hs:St w0 (blk f (dfC bd none 0 0 (some ⟨gB,0,none⟩) m cB) 219::own (some ⟨gB,0,none⟩) m cB 3 1 (intv rds)::own none 0 0 121 2 (es2 evs)::own E5 0 cE5 121 2 []::L) w:=hs.pm
   refine wpList_nil ⟨rfl,hs.only2,?_⟩
   refine wpChain_last rfl ?_
   go_wp2
   go_meet
   have hev0:evs=[]:=List.eq_nil_of_length_eq_zero hn.out
   exact⟨E5,cE5,0,rfl,rfl,by rw[hev0] at hs ⊢;exact hs.pm⟩
  ·by_cases hck:cE=k
   ·obtain rfl:n=k:=by omega
    obtain rfl:=hck
    refine wp_region_plain [true,false,false,false,false,false,false,false,false,false,false,false,false,true,true] hs.only2 (by kernel_rfl) (by kernel_rfl) fun hne=>?_
    simp only[pickOps]
    repeat (go_big_quiet_step (fail))
    refine wpQuiet_nil ?_
    clear hne c1 c2 c3'
    simp only[chainIx]
    replace hs:=hs.drew
    refine wpChainP_next rfl ?_
    refine wpl_build_none elemE hs ?_
    clear hs
    intro E4 w hs
    replace hs:St w0 (blk f (dfC bd (some ⟨g,0,none⟩) cE cE (some ⟨gB,0,none⟩) m cB) 219::own (some ⟨gB,0,none⟩) m cB 3 1 (intv rds)::own (some ⟨g,0,none⟩) cE cE 121 2 (es2 evs)::own E4 0 0 121 2 []::L) w:=hs.pm
    refine wpList_nil ⟨rfl,hs.only2,?_⟩
    refine wpChainP_next rfl ?_
    refine wpl_append (A:=E4) (n:=0) (cap:=0) (xs:=[]) (B:=(some ⟨g,0,none⟩)) (m:=0) (news:=[]) elemE rfl rfl hs (L':=blk f (dfC bd (some ⟨g,0,none⟩) cE cE (some ⟨gB,0,none⟩) m cB) 219::own (some ⟨gB,0,none⟩) m cB 3 1 (intv rds)::own (some ⟨g,0,none⟩) cE cE 121 2 (es2 evs)::L) (EP.ent (by repeat constructor)) RdS.nil rfl (fun _ h=>nomatch h) (by unfold maxLen;omega) (by omega) ?_
    clear hs
    intro E5 cE5 w hs
    simp only[List.nil_append,Nat.zero_add] at hs ⊢
    replace hs:St w0 (blk f (dfC bd (some ⟨g,0,none⟩) cE cE (some ⟨gB,0,none⟩) m cB) 219::own (some ⟨gB,0,none⟩) m cB 3 1 (intv rds)::own (some ⟨g,0,none⟩) cE cE 121 2 (es2 evs)::own E5 0 cE5 121 2 []::L) w:=hs.pm
    refine wpList_nil ⟨rfl,hs.only2,?_⟩
    refine wpChain_last rfl ?_
    go_wp2
    go_meet
    have hev0:evs.drop cE=[]:=List.drop_of_length_le (by rw[hn.out];exact Nat.le_refl _)
    exact⟨E5,cE5,0,rfl,(Nat.sub_self _).symm,by rw[hev0];exact hs.pm⟩
   ·refine wp_region_plain [true,false,false,false,false,false,false,false,false,false,false,false,false,true,true] hs.only2 (by kernel_rfl) (by kernel_rfl) fun hne=>?_
    simp only[pickOps]
    repeat (go_big_quiet_step (fail))
    refine wpQuiet_nil ?_
    clear hne c1 c2 c3'
    simp only[chainIx]
    replace hs:=hs.drew
    refine wpChainP_next rfl ?_
    refine wpl_build_none elemE hs ?_
    clear hs
    intro E4 w hs
    replace hs:St w0 (blk f (dfC bd (some ⟨g,0,none⟩) n cE (some ⟨gB,0,none⟩) m cB) 219::own (some ⟨gB,0,none⟩) m cB 3 1 (intv rds)::own (some ⟨g,0,none⟩) n cE 121 2 (es2 evs)::own E4 0 0 121 2 []::L) w:=hs.pm
    refine wpList_nil ⟨rfl,hs.only2,?_⟩
    refine wpChainP_next rfl ?_
    refine wpl_append (A:=E4) (n:=0) (cap:=0) (xs:=[]) (B:=(some ⟨g,k*2,none⟩)) (m:=(n - k)) (news:=(es2 (evs.drop k))) elemE rfl rfl hs (L':=blk f (dfC bd (some ⟨g,0,none⟩) n cE (some ⟨gB,0,none⟩) m cB) 219::own (some ⟨gB,0,none⟩) m cB 3 1 (intv rds)::own (some ⟨g,0,none⟩) n cE 121 2 (es2 evs)::L) (EP.ent (by repeat constructor)) ((RdS.own hs.drop.drop).tail.tail.dropE k) (by rw[es2_len,List.length_drop,hn.out]) (es2_one _) (by unfold maxLen;omega) (by omega) ?_
    clear hs
    intro E5 cE5 w hs
    simp only[List.nil_append,Nat.zero_add] at hs ⊢
    replace hs:St w0 (blk f (dfC bd (some ⟨g,0,none⟩) n cE (some ⟨gB,0,none⟩) m cB) 219::own (some ⟨gB,0,none⟩) m cB 3 1 (intv rds)::own (some ⟨g,0,none⟩) n cE 121 2 (es2 evs)::own E5 (n - k) cE5 121 2 (es2 (evs.drop k))::L) w:=hs.pm
    refine wpList_nil ⟨rfl,hs.only2,?_⟩
    refine wpChain_last rfl ?_
    go_wp2
    go_meet
    exact⟨E5,cE5,n - k,rfl,rfl,hs.pm⟩
 case rest=>
  clear hs
  obtain⟨A,c,p,rfl,hp,hs⟩:=hcut
  replace hs:St w0 (blk f (dfC bd E n cE (some ⟨gB,0,none⟩) m cB) 219::own (some ⟨gB,0,none⟩) m cB 3 1 (intv rds)::own A p c 121 2 (es2 (evs.drop k))::own E n cE 121 2 (es2 evs)::L) _:=hs.pm
  go_upto_region 4 with (fail)
  refine wp_region_plain [false,false,false,false,false,false,false,false,false,false,false,true] hs.only (by kernel_rfl) (by kernel_rfl) fun hne=>?_
  have c1:=(Rd.df1 (w0:=w0) (f:=f) (bd:=bd) (A:=E) (n:=n) (cA:=cE) (B:=some ⟨gB,0,none⟩) (m:=m) (cB:=cB) (t:=219) (L:=[])).alln
  have c2:=(Rd.df2 (w0:=w0) (f:=f) (bd:=bd) (A:=E) (n:=n) (cA:=cE) (B:=some ⟨gB,0,none⟩) (m:=m) (cB:=cB) (t:=219) (L:=[])).alln
  simp only[pickOps]
  repeat (go_big_quiet_step (fail))
  refine wpQuiet_nil ?_
  clear hne c1 c2
  simp only[chainIx]
  replace hs:=hs.drew
  refine wpChain_last rfl ?_
  have hwr:(intv rds).set r (.int .i64 (n:Nat))=intv (rds.set r n):=by simp[intv,List.map_set]
  refine wpl_store (ad:=⟨gB,r,none⟩) (v:= .int .i64 (n:Nat)) rfl rfl rfl size_int5 hs.rot (Wr.own (by rw[intv_len,hm.out];exact hrm)) ?_
  clear hs
  intro w hs
  rw[hwr] at hs
  replace hs:=hs.rot
  have c0:=Rd.df0 _ hs
  obtain⟨bn,rfl⟩:=Int.eq_ofNat_of_zero_le HB.out
  have hlag:Hid (lagE bn evs k=b):=hb
  have e:(rds.set r n).length=m:=by rw[List.length_set,hm.out]
  by_cases hlg:bn < p
  ·have hbt:b=true:=by
    rw[← hlag.out];unfold lagE;rw[hn.out,decide_eq_true (by have:=hp.out;omega)]
   have hev:ev=[]:=by rw[← hnl.out];unfold newE;rw[show lagE ((bn:Nat):Int).toNat evs k=b from hb.out,hbt];rfl
   subst hbt;subst hev
   clear hb hnl hlag
   go_wp2
   go_ret3
   refine⟨none,0,0,rfl,rfl,?_⟩
   have h1:=(hs.pm (M:=own A p c 121 2 (es2 (evs.drop k))::blk f (dfC ((bn:Nat):Int) E n cE (some ⟨gB,0,none⟩) m cB) 219::own E n cE 121 2 (es2 evs)::own (some ⟨gB,0,none⟩) m cB 3 1 (intv (rds.set r n))::L)).drop
   have hm2:=hm.out
   clear hm
   obtain rfl:=hn.out
   subst e
   exact (St.dfshut h1).own_nil 121 2
  ·have hbf:b=false:=by
    rw[← hlag.out];unfold lagE;rw[hn.out,decide_eq_false (by have:=hp.out;omega)]
   have hev:ev=evs.drop k:=by rw[← hnl.out];unfold newE;rw[show lagE ((bn:Nat):Int).toNat evs k=b from hb.out,hbf];rfl
   subst hbf;subst hev
   clear hb hnl hlag
   go_wp2
   go_ret3
   refine⟨A,c,p,by rw[Hid,List.length_drop,hn.out,hp.out],rfl,?_⟩
   have h1:St w0 (blk f (dfC ((bn:Nat):Int) E n cE (some ⟨gB,0,none⟩) m cB) 219::own E n cE 121 2 (es2 evs)::own (some ⟨gB,0,none⟩) m cB 3 1 (intv (rds.set r n))::own A p c 121 2 (es2 (evs.drop k))::L) w:=hs.pm
   have hm2:=hm.out
   have hp2:=hp
   clear hm
   obtain rfl:=hn.out
   subst e
   exact (St.dfshut h1).rot
end
section
open Go Go.RowKit
attribute [local irreducible] wpList Calls Code.wp
theorem WrA.nil {w0:World} {L:List As} (a:Addr):WrA w0 L a [] L:=fun _ _ w hs=>⟨w,rfl,hs⟩
end
section
open Go Go.RowKit
def tK (rs:List Row) (k:Nat):List Nat:=(rs.take k).foldl (fun T r=>insS r.1.toNat T) []
theorem tK_succ {rs:List Row} {k:Nat} {r:Row} (h:rs[k]? =some r):tK rs (k+1)=insS r.1.toNat (tK rs k):=by
 obtain⟨h1,h2⟩:=List.getElem?_eq_some_iff.1 h
 unfold tK
 rw[List.take_succ_eq_append_getElem h1,h2,List.foldl_append]
 rfl
theorem tK_zero (rs:List Row):tK rs 0=[]:=rfl
theorem tK_sorted (rs:List Row):∀ k,(tK rs k).Pairwise (· < ·)
 | 0=>List.Pairwise.nil
 | k+1=>by
  cases h:rs[k]? with
  | none=>
   have hl:=List.getElem?_eq_none_iff.1 h
   have:=tK_sorted rs k
   unfold tK at this ⊢
   rwa [List.take_of_length_le (by omega)] at this ⊢
  | some r=>rw[tK_succ h];exact sorted_insS (tK_sorted rs k)
theorem tK_mem (rs:List Row):∀ (k a:Nat),a∈tK rs k↔∃ j r,j < k∧rs[j]? =some r∧r.1.toNat=a
 | 0,a=>by simp[tK_zero]
 | k+1,a=>by
  cases h:rs[k]? with
  | none=>
   have e:tK rs (k+1)=tK rs k:=by
    have hl:=List.getElem?_eq_none_iff.1 h
    unfold tK
    rw[List.take_of_length_le (by omega),List.take_of_length_le (by omega)]
   rw[e,tK_mem rs k a]
   constructor
   ·rintro⟨j,r,h1,h2,h3⟩
    exact⟨j,r,by omega,h2,h3⟩
   ·rintro⟨j,r,h1,h2,h3⟩
    have:j ≠ k:=fun e=>by subst e;rw[h] at h2;cases h2
    exact⟨j,r,by omega,h2,h3⟩
  | some q=>
   rw[tK_succ h,mem_insS,tK_mem rs k a]
   constructor
   ·rintro (rfl | ⟨j,r,h1,h2,h3⟩)
    ·exact⟨k,q,by omega,h,rfl⟩
    ·exact⟨j,r,by omega,h2,h3⟩
   ·rintro⟨j,r,h1,h2,h3⟩
    by_cases e:j=k
    ·subst e
     rw[h] at h2
     injection h2 with h2
     subst h2
     exact .inl h3.symm
    ·exact .inr ⟨j,r,by omega,h2,h3⟩
section
variable {S:List Nat} {g:Nat→V3} {rs:List Row}
theorem AgG.key (h:AgG S g rs) {k:Nat} {r:Row} (hr:rs[k]? =some r):∃ q:Nat,r.1=(q:Nat)∧q∈S:=by
 have h1:memS S r.1=true:=(h.mem _).2 (List.mem_map.2 ⟨r,List.mem_of_getElem? hr,rfl⟩)
 have h2:=h1
 unfold memS at h2
 obtain⟨a,ha,e⟩:=List.any_eq_true.1 h2
 exact⟨a,by (have:(a:Int)=r.1:=by simpa using e);exact this.symm,ha⟩
theorem AgG.fresh (h:AgG S g rs) {k:Nat} {r:Row} (hr:rs[k]? =some r) {q:Nat} (hq:r.1=(q:Nat)):memS (tK rs k) (q:Int)=false:=by
 cases hm:memS (tK rs k) (q:Int) with
 | false=>rfl
 | true=>
  obtain⟨j,r',h1,h2,h3⟩:=(tK_mem rs k q).1 (memS_iff.1 hm)
  obtain⟨q',e1,_⟩:=h.key h2
  have:=nodup_at5 h.nodup h2 hr (by rw[hq,e1];rw[e1] at h3;simp at h3;rw[h3])
  omega
theorem AgG.done (h:AgG S g rs):tK rs rs.length=S:=by
 refine sorted_ext (tK_sorted rs _) h.sorted fun a=>?_
 rw[tK_mem,← memS_iff,h.mem]
 constructor
 ·rintro⟨j,r,h1,h2,h3⟩
  obtain⟨q,e1,_⟩:=h.key h2
  rw[e1] at h3
  simp at h3
  subst h3
  exact List.mem_map.2 ⟨r,List.mem_of_getElem? h2,e1⟩
 ·intro h1
  obtain⟨r,hr,e⟩:=List.mem_map.1 h1
  obtain⟨j,hj⟩:=List.mem_iff_getElem?.1 hr
  exact⟨j,r,(List.getElem?_eq_some_iff.1 hj).1,hj,by rw[e];simp⟩
end
end
section
open Go Go.RowKit
attribute [local irreducible] wpList Calls Code.wp okI okN pS tS memS getG pG insS delS getV pV tV tK
def DnI (T:List Nat) (q at_:Nat):Prop:=at_≤T.length∧∀ j a,at_≤j→T[j]? =some a→q < a
theorem DnI.at_ {T:List Nat} {q p:Nat} (hT:T.Pairwise (· < ·)) (h:DnI T q p) (h0:p=0∨∃ a,T[p - 1]? =some a∧a≤q) (hm:memS T (q:Int)=false):AtI T (q:Int) p:=
 AtI.of h.1 (fun j a hj ha=>by
  rcases h0 with h0 | ⟨b,hb,hbq⟩
  ·omega
  ·have h1:=sorted_le hT (show j≤p - 1 by omega) ha hb
   have h2:a ≠ q:=fun e=>by subst e;rw[memS_iff.2 (List.mem_of_getElem? ha)] at hm;cases hm
   omega) fun j a hj ha=>by have:=h.2 j a hj ha;omega
end
section
open Go Go.RowKit
attribute [local irreducible] wpList Calls Code.wp okI okN pS tS memS getG pG insS delS getV pV tV okVal
end
section
open Go Go.RowKit
attribute [local irreducible] wpList Calls Code.wp okI okN pS tS memS getG pG insS delS getV pV tV okVal
theorem St.dsfl {w0 w:World} {L:List As} {D f:Nat} {s:SlS} (hs:St w0 (DsB D s::L) w) (hF:s.F=some f):∃ R:As,St w0 (DfB f s.d.b s.evs s.rds::R::L) w∧∀ (w':World) (L':List As) (rds:List Nat),St w0 (DfB f s.d.b s.evs rds::R::L') w'→St w0 (DsB D { s with rds:=rds }::L') w':=by
 obtain⟨hok,rs,hag,hs⟩:=hs.dsopen
 rw[hF] at hs
 refine⟨TbB D s.d (fpV (some f)) rs,hs.rot,fun w' L' rds h=>?_⟩
 refine St.dsshut (s:={ s with rds:=rds }) ⟨hok.desc,hok.flag⟩ hag ?_
 show St w0 (TbB D s.d (fpV s.F) rs::DfP s.F s.d.b s.evs rds::L') w'
 rw[hF]
 exact h.rot
theorem ds_reader {w0 w:World} {L:List As} {D f:Nat} {s:SlS} (hs:St w0 (DsB D s::L) w) (hF:s.F=some f) (hr:s.rds.length < 100) {n:Nat} (hn:Hid (s.rds.length=n)) {s':SlS} (hs':Hid ({ s with rds:=s.rds++[s.evs.length] }=s')):
  Calls Tryz.prog 155 #[.pointer (some ⟨f,0,none⟩)] w fun e w'=>e= .returned (.tuple #[.int .i64 (n:Nat), .int .i64 0])∧St w0 (DsB D s'::L) w':=by
 obtain⟨R,h1,h2⟩:=hs.dsfl hF
 rw[← hs'.out]
 exact (df_reader h1 hr hn).mono fun e w' ⟨h3,h4⟩=>⟨h3,h2 _ _ _ h4⟩
theorem ds_read {w0 w:World} {L:List As} {D f:Nat} {s:SlS} (hs:St w0 (DsB D s::L) w) (hF:s.F=some f) {r k:Nat} (hr:s.rds[r]? =some k) (hk:k≤s.evs.length) (hl:s.evs.length≤4000000000) {b:Bool} {l:List Ev} {s':SlS} (hb:Hid (lagE s.d.b.toNat s.evs k=b)) (hnl:Hid (newE s.d.b.toNat s.evs k=l)) (hs':Hid ({ s with rds:=s.rds.set r s.evs.length }=s')):
  Calls Tryz.prog 156 #[.pointer (some ⟨f,0,none⟩), .int .i64 (r:Nat)] w fun e w'=>∃ A cap n,Hid (l.length=n)∧e= .returned (.tuple #[.slice A n cap, .bool b, .int .i64 0])∧St w0 (own A n cap 121 2 (es2 l)::DsB D s'::L) w':=by
 have hbd:0≤s.d.b:=by
  obtain⟨hok,_⟩:=hs.dsopen
  have h:=hok.desc
  unfold descE at h
  split at h
  ·rename_i h1;exact h1.2.2.2.2.1
  ·cases h
 obtain⟨R,h1,h2⟩:=hs.dsfl hF
 rw[← hs'.out]
 refine (df_read h1 hr hk hl hbd hb hnl).mono fun e w' ⟨A,cap,n,h3,h4,h5⟩=>⟨A,cap,n,h3,h4,?_⟩
 exact (h2 _ _ _ (h5.dn2)).rot
end
section
open Go Go.RowKit
def SlS.rdr (s:SlS):SlS:={ s with rds:=s.rds++[s.evs.length] }
structure SpI (d:V3) (s t:SlS) (k:Nat):Prop where
 al:AlD s t
 d_:s.d=d
 len:s.evs.length≤k
 rd:0 < d.b→∃ p,s.rds=[p]∧p≤s.evs.length
 ok:s.F.isSome=decide (0 < d.b)
section
variable {d:V3} {s t:SlS} {k:Nat} (h:SpI d s t k) (i:Int) (v:V3)
include h
theorem SpI.put:SpI d (s.put i v) (t.put i v) (k+1) where
 al:=h.al.put i v
 d_:=by rw[SlS.put_d];exact h.d_
 len:=by have:=SlS.put_len s i v;have:=h.len;omega
 rd:=fun hb=>by
  obtain⟨p,h1,h2⟩:=h.rd hb
  refine⟨p,by rw[SlS.put_rds];exact h1,?_⟩
  have h3:s.evs.length≤(s.put i v).evs.length:=by unfold SlS.put SlS.noted ntE;split <;> (try split) <;> simp
  omega
 ok:=by rw[SlS.put_F];exact h.ok
theorem SpI.take:SpI d (s.take i) (t.take i) (k+1) where
 al:=h.al.take i
 d_:=by rw[SlS.take_d];exact h.d_
 len:=by have:=SlS.take_len s i;have:=h.len;omega
 rd:=fun hb=>by
  obtain⟨p,h1,h2⟩:=h.rd hb
  refine⟨p,by rw[SlS.take_rds];exact h1,?_⟩
  have h3:s.evs.length≤(s.take i).evs.length:=by unfold SlS.take SlS.noted ntE;split <;> (try split) <;> simp
  omega
 ok:=by rw[SlS.take_F];exact h.ok
theorem SpI.set:SpI d (s.set i v) (t.set i v) (k+1) where
 al:=h.al.set i v
 d_:=by rw[SlS.set_d];exact h.d_
 len:=by have:=SlS.set_len s i v;have:=h.len;omega
 rd:=fun hb=>by
  obtain⟨p,h1,h2⟩:=h.rd hb
  refine⟨p,by rw[SlS.set_rds];exact h1,?_⟩
  have h3:s.evs.length≤(s.set i v).evs.length:=by unfold SlS.set SlS.noted ntE;split <;> (try split) <;> simp
  omega
 ok:=by rw[SlS.set_F];exact h.ok
theorem SpI.more:SpI d s t (k+1):=⟨h.al,h.d_,by have:=h.len;omega,h.rd,h.ok⟩
theorem SpI.read:SpI d { s with rds:=s.rds.set 0 s.evs.length } { t with rds:=t.rds.set 0 t.evs.length } (k+1) where
 al:=h.al.rd 0
 d_:=h.d_
 len:=by have:=h.len;show s.evs.length≤k+1;omega
 rd:=fun hb=>by
  obtain⟨p,h1,h2⟩:=h.rd hb
  exact⟨s.evs.length,by show s.rds.set 0 s.evs.length=[s.evs.length];rw[h1];rfl,Nat.le_refl _⟩
 ok:=h.ok
end
theorem SpI.start {d:V3} {v:Value} {F F':Option Nat} (h:(newSl d v F).Ok) (h':(newSl d (.pointer none) F').Ok):SpI d (newSl d v F).rdr (newSl d (.pointer none) F').rdr 0 where
 al:=AlD.rdr ⟨rfl,rfl,rfl,rfl,rfl,h.flag.trans h'.flag.symm⟩
 d_:=rfl
 len:=Nat.le_refl _
 rd:=fun _=>⟨0,rfl,Nat.le_refl _⟩
 ok:=h.flag
end
end Go.Proofs.YtiafdlofcjbllaaGreatDoor
