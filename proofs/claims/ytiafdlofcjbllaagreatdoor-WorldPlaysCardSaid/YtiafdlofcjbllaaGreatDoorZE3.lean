/-
  Things with parts (ent.Ents), 6: New; the statements' Descs.
-/
import Derived.Test.YtiafdlofcjbllaaGreatDoorZE2
import Derived.Deep.DeepCutAuto
import Derived.Test.YtiafdlofcjbllaaGreatDoorZU
set_option maxRecDepth 100000
namespace Go.Proofs.YtiafdlofcjbllaaGreatDoor
section
open Go Go.RowKit
theorem St.grew0 {w0 w:World} {L:List As} (hs:St w0 L w):St w0 [] w:=(St.start w0).grew hs.below
theorem elemDs:ElemOk Tryz.prog 24 97 3 24:=ElemOk.of Tryz.underlying24 (z:=val3 V3.z) (by kernel_rfl) rfl (by decide)
def dscN (zs:List Int) (k:Nat):V3:=mkD (zs.getD (3*k) 0) (zs.getD (3*k+1) 0) (zs.getD (3*k+2) 0)
def descsN (zs:List Int) (k:Nat):List V3:=(List.range k).map (dscN zs)
def descsL (zs:List Int):List V3:=descsN zs (min 8 (zs.length / 3))
theorem descsN_succ (zs:List Int) (k:Nat):descsN zs (k+1)=descsN zs k++[dscN zs k]:=by unfold descsN;rw[List.range_succ,List.map_append];rfl
theorem descsN_len (zs:List Int) (k:Nat):(descsN zs k).length=k:=by simp[descsN]
theorem descsL_ok (zs:List Int):∀ d∈descsL zs,descE d=0:=fun d hd=>by
 unfold descsL descsN at hd
 obtain⟨k,_,rfl⟩:=List.mem_map.1 hd
 exact mkD_ok _ _ _
theorem cs3_nil:cs3 []=[]:=rfl
theorem cs3_rows (l:List V3):cs3 l=l.flatMap c3:=rfl
theorem descsL_len (zs:List Int):(descsL zs).length≤8:=by unfold descsL;rw[descsN_len];omega
attribute [local irreducible] wpList Calls Code.wp descE mkD dscN descsN descsL cs3
set_option maxHeartbeats 2000000 in
theorem descs_c {w0 w:World} {L:List As} (hs:St w0 L w) {A:Option Addr} {n cA:Nat} {zs:List Int} (hn:Hid (zs.length=n)) (hm:n≤9223372036854775807) (hr:RdS w0 [] A (zs.map (Value.int .i64))) {ds:List V3} (hds:Hid (descsL zs=ds)):
  Calls Tryz.prog 13 #[.slice A n cA] w fun r w'=>∃ B m cB,Hid (ds.length=m)∧r= .returned (.slice B m cB)∧St w0 (own B m cB 97 3 (cs3 ds)::L) w':=by
 go_enter Tryz.func13,Tryz.ntmps13
 go_wp2
 go_loopw [3,4] (fun sv iv wr=>∃ (k cB:Nat) (B:Option Addr),(k≤8∧3*k≤n)∧sv= .slice B k cB∧iv= .int .i64 (k:Nat)∧St w0 (own B k cB 97 3 (cs3 (descsN zs k))::L) wr) (fun _ iv _=>8 - (intOf iv).toNat)
 case atStart=>exact⟨0,0,none,⟨by decide,by omega⟩,rfl,rfl,by rw[show descsN zs 0=[] by unfold descsN;rfl,cs3_nil];exact hs.own_nil _ _⟩
 case round=>
  clear hs
  obtain⟨k,cB,B,⟨hk8,hkn⟩,rfl,rfl,hs⟩:=hrel
  by_cases h3:3*k+2 < n
  ·by_cases h8:k < 8
   ·obtain⟨b1,o1,z1,rfl,hc1,hz1⟩:=hr.int (show 3*k < zs.length by rw[hn.out];omega)
    obtain⟨b2,o2,z2,he2,hc2,hz2⟩:=hr.int (show 3*k+1 < zs.length by rw[hn.out];omega)
    obtain⟨b3,o3,z3,he3,hc3,hz3⟩:=hr.int (show 3*k+2 < zs.length by rw[hn.out];omega)
    injection he2 with he2
    injection he2 with e1 e2
    subst e1;subst e2
    injection he3 with he3
    injection he3 with e1 e2
    subst e1;subst e2
    obtain⟨d,HD⟩:∃ d,Hid (mkD z1 z2 z3=d):=⟨_,rfl⟩
    have HN:Hid (cs3 (descsN zs (k+1))=cs3 (descsN zs k)++c3 d):=by
     have h9:dscN zs k=d:=by
      unfold dscN
      rw[List.getD_eq_getElem?_getD,List.getD_eq_getElem?_getD,List.getD_eq_getElem?_getD,hz1,hz2,hz3]
      exact HD.out
     rw[Hid,descsN_succ,h9,cs3_append]
     congr 1
     unfold cs3
     simp
    clear hz1 hz2 hz3
    go_upto_region 5 with (fail)
    refine wp_region_plain [false,false,false,false,false,false,false,false,false,false,false,false,false,false,false,false,false,false,true,true,true,true] hs.grew0 (by kernel_rfl) (by kernel_rfl) fun hne=>?_
    have c1:=hc1.alln
    have c2:=hc2.alln
    have c3:=hc3.alln
    simp only[pickOps]
    repeat (go_big_quiet_step (fail))
    refine wpQuiet_nil ?_
    clear hne c1 c2 c3
    simp only[chainIx]
    replace hs:=hs.drew
    refine wpChainP_next rfl ?_
    go_wp2_with (first
     | (go_at_call 71;refine (ldesc_c _ _ _ HD).mono ?_;rintro r w ⟨rfl,hg⟩;replace hs:=hs.grew hg;clear hg))
    refine⟨hs.grew0,?_⟩
    refine wpChainP_next rfl ?_
    refine wpl_build1 (v:=val3 d) elemDs (by decide) rfl rfl hs ?_
    clear hs
    intro G w hs
    refine wpList_nil ⟨rfl,hs.grew0,?_⟩
    refine wpChainP_next rfl ?_
    refine wpl_append (A:=B) (n:=k) (cap:=cB) (xs:=cs3 (descsN zs k)) (m:=1) (news:=YtiafdlofcjbllaaGreatDoor.c3 d) elemDs rfl rfl hs (L':=blk G (YtiafdlofcjbllaaGreatDoor.c3 d).toArray 97::L) (EP.ent (by repeat constructor)) RdS.blk rfl (one3 _) (by unfold maxLen;omega) (by omega) ?_
    clear hs
    intro B3 cap3 w hs
    rw[← HN.out] at hs
    refine wpList_nil ⟨rfl,hs.grew0,?_⟩
    refine wpChain_last rfl ?_
    go_wp2
    go_roundw
    case rel=>exact⟨k+1,cap3,B3,⟨by omega,by omega⟩,by first | rfl | go_num,by first | rfl | go_num,hs.rot.drop⟩
    case measure=>simp[intOf] <;> omega
   ·have hk:Hid (descsN zs k=ds):=by rw[Hid,← hds.out];unfold descsL;rw[show min 8 (zs.length / 3)=k by rw[hn.out];omega]
    have hl:Hid (ds.length=k):=by rw[Hid,← hk.out,descsN_len]
    rw[hk.out] at hs
    go_wp2
    go_ret
    first | exact⟨B,k,cB,hl,rfl,hs⟩ | exact⟨B,k,hl,cB,rfl,hs⟩
  ·have hk:Hid (descsN zs k=ds):=by rw[Hid,← hds.out];unfold descsL;rw[show min 8 (zs.length / 3)=k by rw[hn.out];omega]
   have hl:Hid (ds.length=k):=by rw[Hid,← hk.out,descsN_len]
   rw[hk.out] at hs
   go_wp2
   go_ret
   first | exact⟨B,k,cB,hl,rfl,hs⟩ | exact⟨B,k,hl,cB,rfl,hs⟩
def errDs:Nat→List V3→Int
 | _,[]=>0
 | k,d::ds=>if descE d=0 then (if 64≤k then 2 else errDs (k+1) ds) else descE d
def newErr (n top:Int) (ds:List V3):Int:=if alMay n top then errDs 0 ds else 1
structure NewL (ds:List V3) (l:List Cmp):Prop where
 len:l.length=ds.length
 at_:∀ (k:Nat) (x:Cmp),l[k]? =some x→∃ d v F,ds[k]? =some d∧x.2=newSl d v F
theorem NewL.nil:NewL [] []:=⟨rfl,fun k x h=>by simp at h⟩
theorem NewL.add {ds:List V3} {l:List Cmp} (h:NewL ds l) (d:V3) (X:Nat) (v:Value) (F:Option Nat):NewL (ds++[d]) (l++[(X,newSl d v F)]) where
 len:=by rw[List.length_append,List.length_append,h.len];rfl
 at_ k x hx:=by
  by_cases hk:k < l.length
  ·rw[List.getElem?_append_left hk] at hx
   obtain⟨d',v',F',h1,h2⟩:=h.at_ k x hx
   exact⟨d',v',F',by rw[List.getElem?_append_left (by rw[← h.len];exact hk)];exact h1,h2⟩
  ·rw[List.getElem?_append_right (by omega)] at hx
   obtain⟨h1,h2⟩:=List.getElem?_eq_some_iff.1 hx
   have h3:k - l.length=0:=by simp at h1;omega
   have h4:k - ds.length=0:=by rw[← h.len];exact h3
   refine⟨d,v,F,?_,?_⟩
   ·rw[List.getElem?_append_right (by rw[← h.len];omega),h4];rfl
   ·rw[h3] at hx
    injection hx with hx
    rw[← hx]
theorem rgE_len {l:List Cmp} {d:V3} {k:Nat} (h:l.length=k):rgE l d=if descE d=0 then (if 64≤k then 2 else 0) else descE d:=by unfold rgE;rw[h]
def EnNew (w0:World) (L:List As) (top:Int) (n:Nat) (ds:List V3) (e:Int) (r:Ending) (w':World):Prop:=
 (e=0∧∃ E A R l,NewL ds l∧r= .returned (.tuple #[.pointer (some ⟨E,0,none⟩), .int .i64 0])∧St w0 (EnB E A R ⟨top,newA n,l⟩::L) w')∨(e ≠ 0∧r= .returned (.tuple #[.pointer none, .int .i64 e])∧St w0 L w')
theorem build_h1 (A:Nat) (w:World):(Instr.build 48 #[(0, .pointer (some ⟨A,0,none⟩))]).run Tryz.prog w= .ok (.agg #[.pointer (some ⟨A,0,none⟩)]) w:=by kernel_rfl
theorem build_p1 (A:Nat) (w:World):(Instr.build 51 #[(0, .pointer (some ⟨A,0,none⟩))]).run Tryz.prog w= .ok (.agg #[.pointer (some ⟨A,0,none⟩)]) w:=by kernel_rfl
theorem build_en (A R:Nat) (w:World):(Instr.build 53 #[(0, .agg #[.pointer (some ⟨A,0,none⟩)]),(1, .agg #[.pointer (some ⟨R,0,none⟩)])]).run Tryz.prog w= .ok (.agg (enC A R)) w:=by kernel_rfl
attribute [local irreducible] rgE newSl newA alMay errDs EnNew
set_option maxHeartbeats 2000000 in
theorem en_new {w0 w:World} {L:List As} (hs:St w0 L w) {n:Nat} {top:Int} (h1:1≤n) (h2:n≤65536) (h3:1≤top) (h4:top≤4294967295) {A:Option Addr} {m cA:Nat} {ds:List V3} (hm:Hid (ds.length=m)) (hmb:m≤140737488355328) (hr:RdS w0 L A (cs3 ds)) {e:Int} (he:Hid (errDs 0 ds=e)):
  Calls Tryz.prog 14 #[.int .i64 (n:Nat), .int .i64 top, .slice A m cA] w (EnNew w0 L top n ds e):=by
 rw[cs3_rows] at hr
 go_enter Tryz.func14,Tryz.ntmps14
 go_wp2_with (first
  | (go_at_call 72;refine (anew_c hs h1 h2 h3 h4).mono ?_;clear hs;rintro r w ⟨A1,rfl,hs⟩)
  | (go_at_call 73;refine (rg_new hs).mono ?_;clear hs;rintro r w ⟨R,rfl,hs⟩))
 clear h1 h2 h3 h4
 go_loopw [27] (fun iv wr=>∃ (k:Nat) (l:List Cmp),k≤m∧k≤64∧iv= .int .i64 (k:Nat)∧Hid (NewL (ds.take k) l)∧Hid (errDs k (ds.drop k)=e)∧St w0 (RgB R l::AlB A1 top (newA n)::L) wr) (fun iv _=>m - (intOf iv).toNat)
 case atStart=>exact⟨0,[],Nat.zero_le _,by decide,rfl,NewL.nil,he,hs⟩
 case round=>
  clear hs he
  obtain⟨k,l,hk,hk64,rfl,HNL,HE,hs⟩:=hrel
  by_cases hlt:k < m
  ·obtain⟨d,hd⟩:∃ d,ds[k]? =some d:=⟨_,List.getElem?_eq_getElem (by rw[hm.out];exact hlt)⟩
   have hcell:=fun j x hx=>hr.get (rows_get (C:=3) (encX:=c3) (fun _=>rfl) hd j x hx)
   obtain⟨b9,off,rfl,_⟩:=hcell 0 _ rfl
   have hld:∀ j x,(c3 d)[j]? =some x→Rd w0 L ⟨b9,off+k*3+j,none⟩ x:=fun j x hx=>by
    obtain⟨b',o',he,hr⟩:=hcell j x hx
    injection he with he
    injection he with e1 e2
    subst e1;subst e2
    rw[Nat.add_assoc];exact hr
   have hdrop:ds.drop k=d::ds.drop (k+1):=by
    obtain⟨h5,h6⟩:=List.getElem?_eq_some_iff.1 hd
    rw[List.drop_eq_getElem_cons h5,h6]
   have htake:ds.take (k+1)=ds.take k++[d]:=by
    obtain⟨h5,h6⟩:=List.getElem?_eq_some_iff.1 hd
    rw[List.take_succ_eq_append_getElem h5,h6]
   have hll:Hid (l.length=k):=by rw[Hid,HNL.out.len,List.length_take,hm.out];omega
   obtain⟨e1,HE1⟩:∃ z,Hid (rgE l d=z):=⟨_,rfl⟩
   have HEE:Hid (e1=0→errDs (k+1) (ds.drop (k+1))=e∧k < 64):=fun h0=>by
    have h5:=HE.out
    have h6:=HE1.out
    rw[rgE_len hll.out] at h6
    rw[hdrop] at h5
    unfold errDs at h5
    split at h5
    ·rename_i h7
     rw[if_pos h7] at h6
     split at h5
     ·rename_i h8
      rw[if_pos h8] at h6
      omega
     ·exact⟨h5,by omega⟩
    ·rename_i h7
     rw[if_neg h7] at h6
     omega
   have HEN:Hid (e1 ≠ 0→e1=e):=fun h0=>by
    have h5:=HE.out
    have h6:=HE1.out
    rw[rgE_len hll.out] at h6
    rw[hdrop] at h5
    unfold errDs at h5
    split at h5
    ·rename_i h7
     rw[if_pos h7] at h6
     split at h5
     ·rename_i h8
      rw[if_pos h8] at h6
      omega
     ·rename_i h8
      rw[if_neg h8] at h6
      omega
    ·rename_i h7
     rw[if_neg h7] at h6
     omega
   have HT:=Lib.hid htake
   clear hcell hd hdrop htake HE
   by_cases h0:e1=0
   ·obtain⟨hE',hk6⟩:=HEE.out h0
    subst h0
    have HE':=Lib.hid hE'
    clear HEE HEN hE'
    go_wp2_with (first
     | (refine wpl_load_agg (cs:=c3 d) (b:=b9) (o:=off+k*3) rfl agg3D size3Dn hs ?hh ?_;case hh=>exact fun j x hx=>(hld j x hx).tail.tail)
     | (refine wpl_alloc zero3D hs ?_;clear hs;intro g12 w hs)
     | (refine wpl_store_agg (v:=val3 d) rfl rfl (size3D _) hs WrA.slot3 ?_;clear hs;intro w hs)
     | (refine wpl_load3 (v:=d) (g:=g12) rfl (has3_slot (t:=97)) agg3D (size3Dn (v:=V3.z)) hs ?_)
     | (go_at_call 74;refine (rg_add hs.rot d HE1 hll).mono ?_;clear hs;rintro r w ⟨X,v,F,rfl,hs⟩))
    have HNL':Hid (NewL (ds.take (k+1)) (l++[(X,newSl d v F)])):=by rw[HT.out];exact HNL.out.add d X v F
    go_roundw
    case rel=>exact⟨k+1,l++[(X,newSl d v F)],by omega,by omega,by first | rfl | go_num,HNL',HE',hs.rot.drop⟩
    case measure=>simp[intOf] <;> omega
   ·obtain rfl:=HEN.out h0
    have e5:(e1==0)=false:=by simpa using h0
    have e6:(e1 !=0)=true:=by simpa using h0
    have H0:=Lib.hid h0
    clear HEE HEN h0
    go_wp2_with (first
     | (refine wpl_load_agg (cs:=c3 d) (b:=b9) (o:=off+k*3) rfl agg3D size3Dn hs ?hh ?_;case hh=>exact fun j x hx=>(hld j x hx).tail.tail)
     | (refine wpl_alloc zero3D hs ?_;clear hs;intro g12 w hs)
     | (refine wpl_store_agg (v:=val3 d) rfl rfl (size3D _) hs WrA.slot3 ?_;clear hs;intro w hs)
     | (refine wpl_load3 (v:=d) (g:=g12) rfl (has3_slot (t:=97)) agg3D (size3Dn (v:=V3.z)) hs ?_)
     | (go_at_call 74;refine (rg_add_no hs.rot d HE1 H0.out).mono ?_;clear hs;rintro r w ⟨rfl,hs⟩))
    go_ret2
    unfold EnNew
    exact .inr ⟨H0.out,rfl,hs.drop.drop.drop⟩
  ·obtain rfl:k=m:=by omega
   have HN:Hid (NewL ds l):=by
    have:=HNL.out
    rwa [List.take_of_length_le (by rw[hm.out];exact Nat.le_refl _)] at this
   have hE0:e=0:=by
    have:=HE.out
    rw[List.drop_eq_nil_of_le (by rw[hm.out];exact Nat.le_refl _)] at this
    unfold errDs at this
    exact this.symm
   clear HE HNL
   subst hE0
   go_wp2_with (first
    | (refine wpl_buildS (build_h1 A1) rfl ?_)
    | (refine wpl_buildS (build_p1 R) rfl ?_)
    | (refine wpl_buildS (build_en A1 R) rfl ?_)
    | (refine wpl_box_v (v:= .agg (enC A1 R)) rfl hs ?_;clear hs;intro E w hs))
   go_ret2
   unfold EnNew
   refine .inl ⟨rfl,E,A1,R,l,HN.out,rfl,?_⟩
   replace hs:St w0 (blk E (enC A1 R) 53::RgB R l::AlB A1 top (newA n)::L) w:=hs
   exact St.enshut (s:=⟨top,newA n,l⟩) (hs.pm)
theorem en_new_ok {w0 w:World} {L:List As} (hs:St w0 L w) {n:Nat} {top:Int} (h1:1≤n) (h2:n≤65536) (h3:1≤top) (h4:top≤4294967295) {A:Option Addr} {m cA:Nat} {ds:List V3} (hm:Hid (ds.length=m)) (hmb:m≤140737488355328) (hr:RdS w0 L A (cs3 ds)) (he:Hid (errDs 0 ds=0)):
  Calls Tryz.prog 14 #[.int .i64 (n:Nat), .int .i64 top, .slice A m cA] w fun r w'=>∃ E A R l,Hid (NewL ds l)∧r= .returned (.tuple #[.pointer (some ⟨E,0,none⟩), .int .i64 0])∧St w0 (EnB E A R ⟨top,newA n,l⟩::L) w':=
 (en_new hs h1 h2 h3 h4 hm hmb hr he).mono fun r w' h=>by
  unfold EnNew at h
  rcases h with ⟨_,E,A,R,l,h1,h2,h3⟩ | ⟨h1,_⟩
  ·exact⟨E,A,R,l,h1,h2,h3⟩
  ·exact absurd rfl h1
theorem errDs_ok:∀ {ds:List V3} {k:Nat},(∀ d∈ds,descE d=0)→k+ds.length≤64→errDs k ds=0
 | [],_,_,_=>by unfold errDs;rfl
 | d::ds,k,h,hk=>by
  simp only[List.length_cons] at hk
  unfold errDs
  rw[if_pos (h d List.mem_cons_self),if_neg (by omega)]
  exact errDs_ok (fun d hd=>h d (List.mem_cons_of_mem _ hd)) (by omega)
end
section
open Go Go.RowKit
structure Awk15 (l:List Cmp) (c1:List ACell) (s2 s3:EnS):Prop where
 cr:giveV 1 (newA 5)=((0,1),0,c1)
 ins:(EnS.mk 3 c1 l).ins (0,1) 0 ⟨1,7,0⟩=(V3.z,false,0,s2)
 get:s2.get (0,1) 0=(⟨1,7,0⟩,0)
 del:s2.del (0,1)=(1,0,s3)
 get2:s3.get (0,1) 0=(V3.z,4)
 ev1:EvL 0 l
 ev2:EvL 1 s2.l
theorem newL_one {d:V3} {l:List Cmp} (h:NewL [d] l):∃ X v F,l=[(X,newSl d v F)]:=by
 have h1:=h.len
 match l,h1 with
 | [x],_=>
  obtain⟨d',v,F,h2,h3⟩:=h.at_ 0 x rfl
  simp only[List.getElem?_cons_zero,Option.some.injEq] at h2
  subst h2
  exact⟨x.1,v,F,by rw[← h3]⟩
theorem build_d11 (w:World):(Instr.build 97 #[(0, .int .i64 1),(1, .int .i64 1)]).run Tryz.prog w= .ok (val3 ⟨1,1,0⟩) w:=by kernel_rfl
theorem cs3_one (d:V3):cs3 [d]=c3 d:=rfl
theorem err_one:errDs 0 [⟨1,1,0⟩]=0:=rfl
attribute [local irreducible] wpList Calls Code.wp okI okN pS tS memS getG pG insS delS getV pV tV okVal newSl SlS.put SlS.err SlS.putU SlS.putB descE SlS.take SlS.set SlS.errSet SlS.get SlS.has stV EnS.live EnS.get EnS.slot EnS.ins EnS.set EnS.rem EnS.parts EnS.del ofN strL delA newA giveV cs3 errDs
end
section
open Go Go.RowKit
theorem strL_len (l:List Cmp) (i:Int):(strL l i).length=l.length:=by simp[strL]
theorem ofN_congr {l m:List Cmp} {i:Int}:∀ {k:Nat},(∀ c,c < k→hasAt l i c=hasAt m i c)→ofN l i k=ofN m i k
 | 0,_=>rfl
 | k+1,h=>by rw[ofN_succ,ofN_succ,h k (Nat.lt_succ_self k),ofN_congr fun c hc=>h c (Nat.lt_succ_of_lt hc)]
structure PtI (ds:List V3) (l:List Cmp) (k:Nat):Prop where
 len:l.length=ds.length
 at_:∀ (c:Nat) (x:Cmp),l[c]? =some x→ds[c]? =some x.2.d∧(k≤c→x.2.S=[])
 ev:EvL k l
section
variable {ds:List V3} {l:List Cmp} {k:Nat}
theorem NewL.pt (h:NewL ds l):PtI ds l 0 where
 len:=h.len
 at_ c x hx:=by
  obtain⟨d,v,F,h1,h2⟩:=h.at_ c x hx
  rw[h2]
  exact⟨h1,fun _=>rfl⟩
 ev x hx:=by
  obtain⟨c,hc⟩:=List.getElem?_of_mem hx
  obtain⟨d,v,F,h1,h2⟩:=h.at_ c x hc
  rw[h2]
  exact Nat.le_refl _
theorem PtI.skip (h:PtI ds l k):PtI ds l (k+1):=⟨h.len,fun c x hx=>⟨(h.at_ c x hx).1,fun hc=>(h.at_ c x hx).2 (by omega)⟩,h.ev.more⟩
theorem PtI.put (h:PtI ds l k) {X:Nat} {t:SlS} (hx:l[k]? =some (X,t)) (i:Int) (v:V3):PtI ds (l.set k (X,t.put i v)) (k+1) where
 len:=by rw[List.length_set];exact h.len
 at_ c x hc:=by
  rw[List.getElem?_set] at hc
  split at hc
  ·rename_i e
   subst e
   split at hc
   ·injection hc with hc
    subst hc
    refine⟨?_,fun h2=>by omega⟩
    rw[SlS.put_d]
    exact (h.at_ _ _ hx).1
   ·cases hc
  ·exact⟨(h.at_ c x hc).1,fun h2=>(h.at_ c x hc).2 (by omega)⟩
 ev:=h.ev.more.set (by
  have h1:=h.ev _ (List.mem_of_getElem? hx)
  have h2:=SlS.put_len t i v
  show (t.put i v).evs.length≤_
  have h3:t.evs.length≤k:=h1
  omega)
theorem PtI.none (h:PtI ds l k) {c:Nat} (hc:k≤c) (i:Int):hasAt l i c=false:=by
 unfold hasAt
 cases hx:l[c]? with
 | none=>rfl
 | some x=>simp only;unfold SlS.has;rw[(h.at_ c x hx).2 hc];rfl
end
end
end Go.Proofs.YtiafdlofcjbllaaGreatDoor
