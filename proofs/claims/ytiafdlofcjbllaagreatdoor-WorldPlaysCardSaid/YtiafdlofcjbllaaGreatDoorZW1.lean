/-
  Contracts of lazy.Ok and of slices.ContainsFunc over Ops.
-/
import Derived.Test.YtiafdlofcjbllaaGreatDoorZL
import Derived.Test.YtiafdlofcjbllaaGreatDoorZG
import Derived.Laws.StructEq
import Derived.Laws.Tables
import Derived.Laws.Cover2
import Derived.KernelRfl
set_option maxRecDepth 100000
namespace Go.Proofs.YtiafdlofcjbllaaGreatDoor
section
open Go Go.RowKit
attribute [local irreducible] wpList Calls Code.wp
def valW (o:OpW):Value:= .agg (c7w o).toArray
theorem sizeW (o:OpW):(Tryz.prog.info? 99).map (·.size)=some (c7w o).length:=by kernel_rfl
theorem aggW:aggB Tryz.prog 99=true:=by kernel_rfl
theorem eqV_in (a b c d e f:Int) (w:World):(Op.equalIn 10000 38 (.agg #[.int .i64 a, .int .i64 b, .int .i64 c]) (.agg #[.int .i64 d, .int .i64 e, .int .i64 f])).run Tryz.prog w= .ok ((a==d) && ((b==e) && (c==f))) w:=by
 have u3:=Tryz.underlying3
 have a3:=Tryz.isAgg3
 have z3:=Tryz.sizeOf3
 have hS:Tryz.prog.underlying 38=some (.struct (Tryz.prog.fieldsOf 38)):=by kernel_rfl
 have hp:Tryz.prog.stoodInHeld 38=false:=by kernel_rfl
 rw[show (10000:Nat)=9999+1 from rfl,run_equalIn_agg w 9999 38 _ _ hS hp]
 simp only[Program.fieldsOf,Tryz.underlying38]
 go_simp
 by_cases h1:a=d <;> by_cases h2:b=e <;> by_cases h3:c=f <;> simp[h1,h2,h3]
theorem eqV_bin (a b c d e f:Int) (w:World):(binOp .eql 38 (.agg #[.int .i64 a, .int .i64 b, .int .i64 c]) (.agg #[.int .i64 d, .int .i64 e, .int .i64 f])).run Tryz.prog w= .ok (.bool ((a==d) && ((b==e) && (c==f)))) w:=by
 rw[run_eql_struct,eqV_in];rfl
theorem opW_facts {w0 w:World} {L:List As} {g:Nat} {o:OpW} (hs:St w0 (blk g (c7w o).toArray 99::L) w):
  Rd w0 (blk g (c7w o).toArray 99::L) ⟨g,0,none⟩ (.int .i64 o.k)∧Rd w0 (blk g (c7w o).toArray 99::L) ⟨g,3,none⟩ (.int .i64 o.c)∧(∀ j x,(c3 o.v)[j]? =some x→Rd w0 (blk g (c7w o).toArray 99::L) ⟨g,4+j,none⟩ x):=by
 refine⟨Rd.blk rfl,Rd.blk rfl,fun j x hx=>?_⟩
 obtain⟨k,h,c,v⟩:=o
 match j,hx with
 | 0,hx=>injection hx with hx;subst hx;exact Rd.blk rfl
 | 1,hx=>injection hx with hx;subst hx;exact Rd.blk rfl
 | 2,hx=>injection hx with hx;subst hx;exact Rd.blk rfl
theorem wok_c {w:World} (o:OpW):Calls Tryz.prog 108 #[valW o] w fun e w'=>e= .returned (.bool o.ok)∧Grew w w':=by
 have hw:=St.start w
 have he:=eqV_bin
 have hv:=fun w=>vok_c (w:=w) o.v
 obtain⟨b,hb⟩:∃ b,Hid (o.ok=b):=⟨_,rfl⟩
 rw[hb.out]
 by_cases h1:o.k=1
 ·have d1:(o.k==1)=true:=by simp[h1]
  by_cases h2:o.c=0
  ·have d2:(o.c==0)=true:=by simp[h2]
   have e:Hid ((o.v.k==0 && (o.v.a==0 && o.v.b==0))=b):=by
    rw[Hid,← hb.out]
    unfold OpW.ok
    rw[if_pos h1,h2]
    obtain⟨k,h,c,⟨x,y,z⟩⟩:=o
    by_cases q1:x=0 <;> by_cases q2:y=0 <;> by_cases q3:z=0 <;> simp_all [V3.z]
   clear h1 h2 hb
   go_enter Tryz.func108,Tryz.ntmps108
   go_upto_region 1 with (first
    | (refine wpl_box_v (v:=valW o) rfl hw ?_;clear hw;intro g1 w1 hw))
   obtain⟨c0,c3,c4⟩:=opW_facts hw
   replace c0:=c0 _ hw
   replace c3:=c3 _ hw
   have c40:=c4 0 _ rfl _ hw
   have c41:=c4 1 _ rfl _ hw
   have c42:=c4 2 _ rfl _ hw
   clear c4
   go_wp2
   all_goals (go_ret;exact⟨by rw[← e.out];rfl,hw.made_grew⟩)
  ·have d2:(o.c==0)=false:=by simp[h2]
   have e:Hid (false=b):=by
    rw[Hid,← hb.out]
    unfold OpW.ok
    rw[if_pos h1];simp[h2]
   clear h1 h2 hb
   go_enter Tryz.func108,Tryz.ntmps108
   go_upto_region 1 with (first
    | (refine wpl_box_v (v:=valW o) rfl hw ?_;clear hw;intro g1 w1 hw))
   obtain⟨c0,c3,c4⟩:=opW_facts hw
   replace c0:=c0 _ hw
   replace c3:=c3 _ hw
   have c40:=c4 0 _ rfl _ hw
   have c41:=c4 1 _ rfl _ hw
   have c42:=c4 2 _ rfl _ hw
   clear c4
   go_wp2
   all_goals (go_ret;exact⟨by rw[← e.out];rfl,hw.made_grew⟩)
 have n1:(o.k==1)=false:=by simp[h1]
 by_cases h2:o.k=2
 ·have d2:(o.k==2)=true:=by simp[h2]
  by_cases h3:0≤o.c
  ·have d3:decide (o.c ≥ 0)=true:=decide_eq_true h3
   have e:Hid (okVal o.v=b):=by
    rw[Hid,← hb.out]
    unfold OpW.ok
    rw[if_neg h1,if_pos h2,decide_eq_true h3]
    rfl
   clear h1 h2 h3 hb
   go_enter Tryz.func108,Tryz.ntmps108
   go_upto_region 1 with (first
    | (refine wpl_box_v (v:=valW o) rfl hw ?_;clear hw;intro g1 w1 hw))
   obtain⟨c0,c3,c4⟩:=opW_facts hw
   replace c0:=c0 _ hw
   replace c3:=c3 _ hw
   have c40:=c4 0 _ rfl _ hw
   have c41:=c4 1 _ rfl _ hw
   have c42:=c4 2 _ rfl _ hw
   clear c4
   go_wp2_with (first
    | (go_at_call 148;refine (hv _).mono ?_;rintro r w' ⟨rfl,hg⟩))
   all_goals (go_ret;exact⟨by rw[← e.out];rfl,hw.made_grew.trans hg⟩)
  ·have d3:decide (o.c ≥ 0)=false:=decide_eq_false h3
   have e:Hid (false=b):=by
    rw[Hid,← hb.out]
    unfold OpW.ok
    rw[if_neg h1,if_pos h2,decide_eq_false h3]
    rfl
   clear h1 h2 h3 hb
   go_enter Tryz.func108,Tryz.ntmps108
   go_upto_region 1 with (first
    | (refine wpl_box_v (v:=valW o) rfl hw ?_;clear hw;intro g1 w1 hw))
   obtain⟨c0,c3,c4⟩:=opW_facts hw
   replace c0:=c0 _ hw
   replace c3:=c3 _ hw
   have c40:=c4 0 _ rfl _ hw
   have c41:=c4 1 _ rfl _ hw
   have c42:=c4 2 _ rfl _ hw
   clear c4
   go_wp2
   all_goals (go_ret;exact⟨by rw[← e.out];rfl,hw.made_grew⟩)
 have n2:(o.k==2)=false:=by simp[h2]
 by_cases h4:o.k=3
 ·have d2:(o.k==3)=true:=by simp[h4]
  by_cases h3:0≤o.c
  ·have d3:decide (o.c ≥ 0)=true:=decide_eq_true h3
   have e:Hid ((o.v.k==0 && (o.v.a==0 && o.v.b==0))=b):=by
    rw[Hid,← hb.out]
    unfold OpW.ok
    rw[if_neg h1,if_neg h2,if_pos h4]
    obtain⟨k,h,c,⟨x,y,z⟩⟩:=o
    by_cases q1:x=0 <;> by_cases q2:y=0 <;> by_cases q3:z=0 <;> simp_all [V3.z]
   clear h1 h2 h3 h4 hb
   go_enter Tryz.func108,Tryz.ntmps108
   go_upto_region 1 with (first
    | (refine wpl_box_v (v:=valW o) rfl hw ?_;clear hw;intro g1 w1 hw))
   obtain⟨c0,c3,c4⟩:=opW_facts hw
   replace c0:=c0 _ hw
   replace c3:=c3 _ hw
   have c40:=c4 0 _ rfl _ hw
   have c41:=c4 1 _ rfl _ hw
   have c42:=c4 2 _ rfl _ hw
   clear c4
   go_wp2
   all_goals (go_ret;exact⟨by rw[← e.out];rfl,hw.made_grew⟩)
  ·have d3:decide (o.c ≥ 0)=false:=decide_eq_false h3
   have e:Hid (false=b):=by
    rw[Hid,← hb.out]
    unfold OpW.ok
    rw[if_neg h1,if_neg h2,if_pos h4];simp[h3]
   clear h1 h2 h3 h4 hb
   go_enter Tryz.func108,Tryz.ntmps108
   go_upto_region 1 with (first
    | (refine wpl_box_v (v:=valW o) rfl hw ?_;clear hw;intro g1 w1 hw))
   obtain⟨c0,c3,c4⟩:=opW_facts hw
   replace c0:=c0 _ hw
   replace c3:=c3 _ hw
   have c40:=c4 0 _ rfl _ hw
   have c41:=c4 1 _ rfl _ hw
   have c42:=c4 2 _ rfl _ hw
   clear c4
   go_wp2
   all_goals (go_ret;exact⟨by rw[← e.out];rfl,hw.made_grew⟩)
 have n4:(o.k==3)=false:=by simp[h4]
 have e:Hid (false=b):=by
  rw[Hid,← hb.out]
  unfold OpW.ok
  rw[if_neg h1,if_neg h2,if_neg h4]
 clear h1 h2 h4 hb
 go_enter Tryz.func108,Tryz.ntmps108
 go_upto_region 1 with (first
  | (refine wpl_box_v (v:=valW o) rfl hw ?_;clear hw;intro g1 w1 hw))
 obtain⟨c0,c3,c4⟩:=opW_facts hw
 replace c0:=c0 _ hw
 replace c3:=c3 _ hw
 have c40:=c4 0 _ rfl _ hw
 have c41:=c4 1 _ rfl _ hw
 have c42:=c4 2 _ rfl _ hw
 clear c4
 go_wp2
 all_goals (go_ret;exact⟨by rw[← e.out];rfl,hw.made_grew⟩)
end
section
open Go Go.RowKit
attribute [local irreducible] wpList Calls Code.wp
theorem c7len (o:OpW):(c7w o).length=7:=rfl
theorem opW_rd {w0:World} {L:List As} {g:Nat} (o:OpW):∀ j x,(c7w o)[j]? =some x→Rd w0 (blk g (valW o).cells 99::L) ⟨g,0+j,none⟩ x:=fun j x hx=>by
 rw[Nat.zero_add]
 exact Rd.blk (by rw[show (valW o).cells=(c7w o).toArray from rfl,List.getElem?_toArray];exact hx)
theorem any_take {α:Type} {p:α→Bool} {l:List α} {k:Nat} {x:α} (hx:l[k]? =some x):(l.take (k+1)).any p=((l.take k).any p || p x):=by
 rw[List.take_add_one,hx];simp
theorem any_of {α:Type} {p:α→Bool} {l:List α} {k:Nat} {x:α} (hx:l[k]? =some x) (h:p x=true):l.any p=true:=
 List.any_eq_true.2 ⟨x,List.mem_of_getElem? hx,h⟩
theorem nokA_c {w:World} (o:OpW):Calls Tryz.prog 149 #[valW o] w fun e w'=>e= .returned (.bool (!o.ok))∧Grew w w':=by
 have hw:=St.start w
 have hv:=fun w=>wok_c (w:=w) o
 go_enter Tryz.func149,Tryz.ntmps149
 go_upto_region 1 with (first
  | (refine wpl_box_v (v:=valW o) rfl hw ?_;clear hw;intro g1 w1 hw))
 go_wp2_with (first
  | (refine wpl_load_agg (cs:=c7w o) (b:=g1) (o:=0) rfl aggW (sizeW o) hw (opW_rd o) ?_)
  | (go_at_call 108;refine (hv _).mono ?_;rintro r w' ⟨rfl,hg⟩))
 go_ret
 exact⟨rfl,hw.made_grew.trans hg⟩
theorem indexA_c {w w0:World} {L:List As} {l:List OpW} {D:Option Addr} {cap:Nat} (hl:l.length≤4000000000) (hs:St w0 L w) (hr:RdS w0 L D (l.flatMap c7w)):
  Calls Tryz.prog 147 #[.slice D l.length cap, .func (Fn.func 149) #[] #[]] w fun r w'=>∃ i:Int,r= .returned (.int .i64 i)∧decide (i ≥ 0)=l.any (fun o=>!o.ok)∧Grew w w':=by
 have HB:=Lib.hid (fun w o=>nokA_c (w:=w) o)
 obtain⟨n,hn⟩:∃ n,Hid (l.length=n):=⟨_,rfl⟩
 rw[hn.out]
 have hl':n≤4000000000:=hn.out ▸ hl
 clear hl
 go_enter Tryz.func147,Tryz.ntmps147
 go_wp2
 go_loopw [8] (fun cv wr=>∃ k:Nat,k≤n∧Hid ((l.take k).any (fun o=>!o.ok)=false)∧cv= .int .i64 (k:Nat)∧Grew w wr) (fun cv _=>n - (intOf cv).toNat)
 case atStart=>exact⟨0,by omega,rfl,rfl,Grew.refl _⟩
 case round=>
  obtain⟨k,hk,hf,rfl,hg⟩:=hrel
  by_cases hkn:k < n
  ·obtain⟨o,ho⟩:∃ o,Hid (l[k]? =some o):=⟨l[k]'(by rw[hn.out];exact hkn),List.getElem?_eq_getElem _⟩
   have hs2:=hs.grew hg
   obtain⟨ad,rfl,hsp,_⟩:=hr (k*7) (.int .i64 o.k) (flat_get c7len ho.out 0 _ rfl)
   obtain⟨gb,off,sp⟩:=ad
   obtain rfl:sp=none:=hsp
   have hrd:∀ j u,(c7w o)[j]? =some u→Rd w0 L ⟨gb,off+k*7+j,none⟩ u:=fun j u hu=>by
    obtain⟨ad,hh,_,h⟩:=hr (k*7+j) u (flat_get c7len ho.out j u hu)
    injection hh with hh
    subst hh
    rwa [Nat.add_assoc]
   obtain⟨b,hb⟩:∃ b,Hid ((fun o=>!o.ok) o=b):=⟨_,rfl⟩
   have HC:Hid (∀ w,Calls Tryz.prog 149 #[valW o] w fun e w'=>e= .returned (.bool b)∧Grew w w'):=fun w=>by rw[← hb.out];exact HB.out w o
   cases b
   ·go_wp2_with (first
     | (refine wpl_load_agg (cs:=c7w o) (b:=gb) (o:=off+k*7) rfl aggW (sizeW o) hs2 hrd ?_)
     | (go_at_call 149;refine (HC.out _).mono ?_;rintro r w' ⟨rfl,hg2⟩))
    go_roundw
    case rel=>exact⟨k+1,by omega,by rw[Hid,any_take ho.out,hf.out,hb.out];rfl,by simp,hg.trans hg2⟩
    case measure=>simp[intOf];omega
   ·go_wp2_with (first
     | (refine wpl_load_agg (cs:=c7w o) (b:=gb) (o:=off+k*7) rfl aggW (sizeW o) hs2 hrd ?_)
     | (go_at_call 149;refine (HC.out _).mono ?_;rintro r w' ⟨rfl,hg2⟩))
    go_ret
    exact⟨(k:Nat),rfl,by rw[any_of ho.out hb.out];simp,hg.trans hg2⟩
  ·obtain rfl:k=n:=by omega
   go_wp2
   go_ret
   exact⟨-1,rfl,by rw[← hn.out,List.take_length] at hf;rw[hf.out];rfl,hg⟩
theorem containsA_c {w w0:World} {L:List As} {l:List OpW} {D:Option Addr} {cap:Nat} (hl:l.length≤4000000000) (hs:St w0 L w) (hr:RdS w0 L D (l.flatMap c7w)):
  Calls Tryz.prog 106 #[.slice D l.length cap, .func (Fn.func 149) #[] #[]] w fun r w'=>r= .returned (.bool (l.any (fun o=>!o.ok)))∧Grew w w':=by
 have HB:=Lib.hid (indexA_c (cap:=cap) hl hs hr)
 obtain⟨n,hn⟩:∃ n,Hid (l.length=n):=⟨_,rfl⟩
 rw[hn.out] at HB ⊢
 obtain⟨b,hb⟩:∃ b,Hid (l.any (fun o=>!o.ok)=b):=⟨_,rfl⟩
 rw[hb.out] at HB ⊢
 clear hl hr
 go_enter Tryz.func106,Tryz.ntmps106
 go_wp2_with (first
  | (go_at_call 147;refine HB.out.mono ?_;rintro r w' ⟨i,rfl,hi,hg⟩))
 go_ret
 exact⟨by rw[← hi];rfl,hg⟩
theorem nokD_c {w:World} (o:OpW):Calls Tryz.prog 107 #[valW o] w fun e w'=>e= .returned (.bool (!o.ok))∧Grew w w':=by
 have hw:=St.start w
 have hv:=fun w=>wok_c (w:=w) o
 go_enter Tryz.func107,Tryz.ntmps107
 go_upto_region 1 with (first
  | (refine wpl_box_v (v:=valW o) rfl hw ?_;clear hw;intro g1 w1 hw))
 go_wp2_with (first
  | (refine wpl_load_agg (cs:=c7w o) (b:=g1) (o:=0) rfl aggW (sizeW o) hw (opW_rd o) ?_)
  | (go_at_call 108;refine (hv _).mono ?_;rintro r w' ⟨rfl,hg⟩))
 go_ret
 exact⟨rfl,hw.made_grew.trans hg⟩
theorem indexD_c {w w0:World} {L:List As} {l:List OpW} {D:Option Addr} {cap:Nat} (hl:l.length≤4000000000) (hs:St w0 L w) (hr:RdS w0 L D (l.flatMap c7w)):
  Calls Tryz.prog 147 #[.slice D l.length cap, .func (Fn.func 107) #[] #[]] w fun r w'=>∃ i:Int,r= .returned (.int .i64 i)∧decide (i ≥ 0)=l.any (fun o=>!o.ok)∧Grew w w':=by
 have HB:=Lib.hid (fun w o=>nokD_c (w:=w) o)
 obtain⟨n,hn⟩:∃ n,Hid (l.length=n):=⟨_,rfl⟩
 rw[hn.out]
 have hl':n≤4000000000:=hn.out ▸ hl
 clear hl
 go_enter Tryz.func147,Tryz.ntmps147
 go_wp2
 go_loopw [8] (fun cv wr=>∃ k:Nat,k≤n∧Hid ((l.take k).any (fun o=>!o.ok)=false)∧cv= .int .i64 (k:Nat)∧Grew w wr) (fun cv _=>n - (intOf cv).toNat)
 case atStart=>exact⟨0,by omega,rfl,rfl,Grew.refl _⟩
 case round=>
  obtain⟨k,hk,hf,rfl,hg⟩:=hrel
  by_cases hkn:k < n
  ·obtain⟨o,ho⟩:∃ o,Hid (l[k]? =some o):=⟨l[k]'(by rw[hn.out];exact hkn),List.getElem?_eq_getElem _⟩
   have hs2:=hs.grew hg
   obtain⟨ad,rfl,hsp,_⟩:=hr (k*7) (.int .i64 o.k) (flat_get c7len ho.out 0 _ rfl)
   obtain⟨gb,off,sp⟩:=ad
   obtain rfl:sp=none:=hsp
   have hrd:∀ j u,(c7w o)[j]? =some u→Rd w0 L ⟨gb,off+k*7+j,none⟩ u:=fun j u hu=>by
    obtain⟨ad,hh,_,h⟩:=hr (k*7+j) u (flat_get c7len ho.out j u hu)
    injection hh with hh
    subst hh
    rwa [Nat.add_assoc]
   obtain⟨b,hb⟩:∃ b,Hid ((fun o=>!o.ok) o=b):=⟨_,rfl⟩
   have HC:Hid (∀ w,Calls Tryz.prog 107 #[valW o] w fun e w'=>e= .returned (.bool b)∧Grew w w'):=fun w=>by rw[← hb.out];exact HB.out w o
   cases b
   ·go_wp2_with (first
     | (refine wpl_load_agg (cs:=c7w o) (b:=gb) (o:=off+k*7) rfl aggW (sizeW o) hs2 hrd ?_)
     | (go_at_call 107;refine (HC.out _).mono ?_;rintro r w' ⟨rfl,hg2⟩))
    go_roundw
    case rel=>exact⟨k+1,by omega,by rw[Hid,any_take ho.out,hf.out,hb.out];rfl,by simp,hg.trans hg2⟩
    case measure=>simp[intOf];omega
   ·go_wp2_with (first
     | (refine wpl_load_agg (cs:=c7w o) (b:=gb) (o:=off+k*7) rfl aggW (sizeW o) hs2 hrd ?_)
     | (go_at_call 107;refine (HC.out _).mono ?_;rintro r w' ⟨rfl,hg2⟩))
    go_ret
    exact⟨(k:Nat),rfl,by rw[any_of ho.out hb.out];simp,hg.trans hg2⟩
  ·obtain rfl:k=n:=by omega
   go_wp2
   go_ret
   exact⟨-1,rfl,by rw[← hn.out,List.take_length] at hf;rw[hf.out];rfl,hg⟩
theorem containsD_c {w w0:World} {L:List As} {l:List OpW} {D:Option Addr} {cap:Nat} (hl:l.length≤4000000000) (hs:St w0 L w) (hr:RdS w0 L D (l.flatMap c7w)):
  Calls Tryz.prog 106 #[.slice D l.length cap, .func (Fn.func 107) #[] #[]] w fun r w'=>r= .returned (.bool (l.any (fun o=>!o.ok)))∧Grew w w':=by
 have HB:=Lib.hid (indexD_c (cap:=cap) hl hs hr)
 obtain⟨n,hn⟩:∃ n,Hid (l.length=n):=⟨_,rfl⟩
 rw[hn.out] at HB ⊢
 obtain⟨b,hb⟩:∃ b,Hid (l.any (fun o=>!o.ok)=b):=⟨_,rfl⟩
 rw[hb.out] at HB ⊢
 clear hl hr
 go_enter Tryz.func106,Tryz.ntmps106
 go_wp2_with (first
  | (go_at_call 147;refine HB.out.mono ?_;rintro r w' ⟨i,rfl,hi,hg⟩))
 go_ret
 exact⟨by rw[← hi];rfl,hg⟩
end
end Go.Proofs.YtiafdlofcjbllaaGreatDoor
