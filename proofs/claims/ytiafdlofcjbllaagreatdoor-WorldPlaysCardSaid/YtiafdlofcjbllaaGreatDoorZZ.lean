/-
  XJZ: joined of XRa0 XRa XRa2 XRa3 XRa4 XRa5 XRa6.
-/
import Derived.Test.YtiafdlofcjbllaaGreatDoorZW
set_option maxRecDepth 100000
namespace Go.Proofs.YtiafdlofcjbllaaGreatDoor
section
open Go Go.RowKit
def bsV (l:List Bool):List Value:=l.map Value.bool
theorem idx_first {s i:Nat} {cs:List ACell} (hi:i < cs.length) (hs:stA cs i=s) (hm:∀ j,j < i→stA cs j ≠ s):∃ l,idxS s cs=i::l:=by
 have hmem:i∈idxS s cs:=mem_idxS.2 ⟨hi,hs⟩
 cases h:idxS s cs with
 | nil=>rw[h] at hmem;cases hmem
 | cons a l=>
  have ha:a∈idxS s cs:=by rw[h];exact List.mem_cons_self
  have h1:=hm a
  have h2:=(mem_idxS.1 ha).2
  have h3:=sorted_idxS s cs
  rw[h] at h3 hmem
  rcases List.mem_cons.1 hmem with e | e
  ·exact⟨l,by rw[e]⟩
  ·have:=(List.pairwise_cons.1 h3).1 i e
   exact absurd h2 (h1 this)
theorem giveV_at {s i:Nat} {cs:List ACell} (hi:i < cs.length) (hs:stA cs i=0) (hm:∀ j,j < i→stA cs j ≠ 0) {g:Int} (hg:gnA cs i+1=g):giveV s cs=(((i:Int),g),0,cs.set i (s,g)):=by
 obtain⟨l,hl⟩:=idx_first hi hs hm
 rw[giveV_some hl,hg]
attribute [local irreducible] wpList Calls Code.wp hsV
theorem sameH_c {w0 w:World} {L:List As} {l:List Hdl} {A B:Option Addr} {n c1 c2:Nat} (hn:l.length=n) (hm:n≤4000000000) (hs:St w0 L w) (hr1:RdS w0 L A (hsV l)) (hr2:RdS w0 L B (hsV l)):
  Calls Tryz.prog 36 #[.slice A n c1, .slice B n c2] w fun e w'=>e= .returned (.bool true)∧Grew w w':=by
 have HN:=Lib.hid hn
 clear hn
 go_enter Tryz.func36,Tryz.ntmps36
 go_wp2
 go_loopw [5] (fun iv wr=>∃ k:Nat,k≤n∧iv= .int .i64 (k:Nat)∧Grew w wr) (fun iv _=>n - (intOf iv).toNat)
 case atStart=>exact⟨0,Nat.zero_le _,rfl,Grew.refl w⟩
 case round=>
  obtain⟨k,hk,rfl,hg⟩:=hrel
  by_cases hlt:k < n
  ·obtain⟨⟨i,g⟩,hx⟩:∃ x,l[k]? =some x:=⟨_,List.getElem?_eq_getElem (by rw[HN.out];omega)⟩
   obtain⟨p,o,rfl,a0⟩:=hr1.get (hsV_get hx 0 (.int .i64 i) rfl)
   obtain⟨p',o',rfl,b0⟩:=hr2.get (hsV_get hx 0 (.int .i64 i) rfl)
   obtain⟨_,_,e1,a1⟩:=hr1.get (hsV_get hx 1 (.int .i64 g) rfl)
   obtain⟨_,_,e2,b1⟩:=hr2.get (hsV_get hx 1 (.int .i64 g) rfl)
   injection e1 with e1
   injection e1 with e1 e3
   injection e2 with e2
   injection e2 with e2 e4
   subst e1;subst e2;subst e3;subst e4
   have a0:=a0 _ (hs.grew hg)
   have a1:=a1 _ (hs.grew hg)
   have b0:=b0 _ (hs.grew hg)
   have b1:=b1 _ (hs.grew hg)
   simp only[Nat.add_zero] at a0 b0
   rw[← Nat.add_assoc] at a1 b1
   clear hx
   go_wp2
   refine wp_region_grow (by kernel_rfl) (by kernel_rfl) fun hne2=>?_
   have g0:=fun p:GW wr=>p.grew.cell a0
   have g1:=fun p:GW wr=>p.grew.cell a1
   have g2:=fun p:GW wr=>p.grew.cell b0
   have g3:=fun p:GW wr=>p.grew.cell b1
   repeat (go_big_quiet_step (fail))
   refine wpQuiet_nil ?_
   clear hne2 g0 g1 g2 g3
   intro u hu
   go_wp2
   go_roundw
   case rel=>first | exact⟨k+1,by omega,by go_num,hg.trans hu⟩ | ((repeat apply Exists.intro);refine⟨?_,rfl⟩;exact⟨k+1,by omega,by go_num,hg.trans hu⟩)
   case measure=>simp[intOf] <;> omega
  ·go_wp2
   go_ret
   exact⟨rfl,hg⟩
end
section
open Go Go.RowKit
attribute [local irreducible] wpList Calls Code.wp
def padA (n:Nat) (c:List ACell):List ACell:=c++List.replicate (n - c.length) (0,0)
theorem padA_len {n:Nat} {c:List ACell} (h:c.length≤n):(padA n c).length=n:=by simp[padA];omega
theorem padA_get {n i:Nat} {c:List ACell} (h:i < c.length):(padA n c)[i]? =c[i]? :=by unfold padA;rw[List.getElem?_append_left h]
theorem stA_pad {n i:Nat} {c:List ACell} (h:i < n):stA (padA n c) i=if i < c.length then stA c i else 0:=by
 unfold stA
 rw[List.getD_eq_getElem?_getD,List.getD_eq_getElem?_getD]
 split
 ·rename_i h1;rw[padA_get h1]
 ·rename_i h1
  unfold padA
  rw[List.getElem?_append_right (by omega),List.getElem?_replicate,if_pos (by omega)]
  rfl
theorem gnA_pad {n i:Nat} {c:List ACell} (h:i < n):gnA (padA n c) i=if i < c.length then gnA c i else 0:=by
 unfold gnA
 rw[List.getD_eq_getElem?_getD,List.getD_eq_getElem?_getD]
 split
 ·rename_i h1;rw[padA_get h1]
 ·rename_i h1
  unfold padA
  rw[List.getElem?_append_right (by omega),List.getElem?_replicate,if_pos (by omega)]
  rfl
theorem padA_set {n i:Nat} {c:List ACell} {x:ACell} (h:i < c.length):padA n (c.set i x)=(padA n c).set i x:=by
 unfold padA
 rw[List.length_set,List.set_append_left _ _ h]
theorem padA_more {n:Nat} {c:List ACell} (h:c.length < n):padA n (c++[(0,0)])=padA n c:=by
 unfold padA
 rw[List.length_append,List.append_assoc]
 congr 1
 have:n - c.length=(n - (c.length+1))+1:=by omega
 rw[this,List.replicate_succ]
 rfl
theorem padA_nil (n:Nat):padA n []=newA n:=by simp[padA,newA]
structure RaOk (n:Nat) (top:Int) (c:List ACell):Prop where
 fits:c.length≤n
 few:n≤65536
 top2:top≤4294967295
 gen:∀ i,i < c.length→0≤gnA c i∧gnA c i≤top
 st:∀ i,i < c.length→stA c i=0∨stA c i=1∨stA c i=2∨stA c i=9
 free:∀ i,i < c.length→stA c i=0→gnA c i < top
 top1:1≤top
def stsV (c:List ACell):List Value:=c.map fun x=>Value.int .i64 (x.1:Nat)
theorem stsV_len (c:List ACell):(stsV c).length=c.length:=by simp[stsV]
theorem stsV_get {c:List ACell} {i:Nat} (h:i < c.length):(stsV c)[i]? =some (.int .i64 (stA c i:Nat)):=by simp[stsV,stA,h]
theorem stsV_set {c:List ACell} {i s:Nat} {g:Int}:(stsV c).set i (.int .i64 (s:Nat))=stsV (c.set i (s,g)):=by
 unfold stsV
 rw[List.map_set]
theorem gensV_same' {c:List ACell} {k s:Nat} (hk:k < c.length):gensV (c.set k (s,gnA c k))=gensV c:=gensV_same hk
def raC (n:Nat) (top:Int) (A:Option Addr) (m capA:Nat) (B:Option Addr) (capB:Nat):List Value:=[.int .i64 (n:Nat), .int .i64 top, .slice A m capA, .slice B m capB]
def RaB (E n:Nat) (top:Int) (c:List ACell):As:=fun h=>∃ A capA B capB,RaOk n top c∧
 big [blk E (raC n top A c.length capA B capB).toArray 183,own A c.length capA 2 1 (gensV c),own B c.length capB 3 1 (stsV c)] h
theorem St.raopen {w0 w:World} {E n:Nat} {top:Int} {c:List ACell} {L:List As} (hs:St w0 (RaB E n top c::L) w):RaOk n top c∧∃ A capA B capB,
  St w0 (YtiafdlofcjbllaaGreatDoor.blk E (raC n top A c.length capA B capB).toArray 183::YtiafdlofcjbllaaGreatDoor.own A c.length capA 2 1 (gensV c)::YtiafdlofcjbllaaGreatDoor.own B c.length capB 3 1 (stsV c)::L) w:=by
 obtain⟨hb,x,r,hd,hx,y,z,hyz,e,⟨A,capA,B,capB,hok,hh⟩,hz⟩:=hs
 refine⟨hok,A,capA,B,capB,?_⟩
 have h1:St w0 (big [YtiafdlofcjbllaaGreatDoor.blk E (raC n top A c.length capA B capB).toArray 183,YtiafdlofcjbllaaGreatDoor.own A c.length capA 2 1 (gensV c),YtiafdlofcjbllaaGreatDoor.own B c.length capB 3 1 (stsV c)]::L) w:=⟨hb,x,r,hd,hx,y,z,hyz,e,hh,hz⟩
 exact h1.ent (Ent.flat _ L)
theorem St.rashut {w0 w:World} {E n m capA capB:Nat} {A B:Option Addr} {top:Int} {c:List ACell} {L:List As} (hok:RaOk n top c) (hm:c.length=m)
  (hs:St w0 (YtiafdlofcjbllaaGreatDoor.blk E (raC n top A m capA B capB).toArray 183::YtiafdlofcjbllaaGreatDoor.own A m capA 2 1 (gensV c)::YtiafdlofcjbllaaGreatDoor.own B m capB 3 1 (stsV c)::L) w):St w0 (RaB E n top c::L) w:=by
 subst hm
 exact (hs.ent (Ent.unflat [_,_,_] L)).conv fun _ h=>⟨A,capA,B,capB,hok,h⟩
theorem raRd {w0 w:World} {E n m capA capB:Nat} {A B:Option Addr} {top:Int} {t:TypeId} {L:List As} (hs:St w0 (blk E (raC n top A m capA B capB).toArray t::L) w):
  w.cell? ⟨E,0,none⟩=some (.int .i64 (n:Nat))∧w.cell? ⟨E,1,none⟩=some (.int .i64 top)∧w.cell? ⟨E,2,none⟩=some (.slice A m capA)∧w.cell? ⟨E,3,none⟩=some (.slice B m capB):=
 ⟨Rd.blk (by rfl) w hs,Rd.blk (by rfl) w hs,Rd.blk (by rfl) w hs,Rd.blk (by rfl) w hs⟩
theorem of_pad {n:Nat} {c:List ACell} {h:Hdl} (hf:c.length≤n):stV (padA n c) h=stV c h:=by
 obtain⟨i,g⟩:=h
 by_cases hi:0≤i
 ·obtain⟨k,rfl⟩:=Int.eq_ofNat_of_zero_le hi
  by_cases hk:k < c.length
  ·by_cases hg:gnA c k=g
   ·rw[stV_in (by rw[padA_len hf];omega) (by rw[gnA_pad (by omega),if_pos hk];exact hg),stV_in hk hg,stA_pad (by omega),if_pos hk]
   ·rw[stV_gen hg,stV_gen (by rw[gnA_pad (by omega),if_pos hk];exact hg)]
  ·rw[stV_out (cs:=c) (by simp only;omega)]
   by_cases hkn:k < n
   ·by_cases hg:g=0
    ·rw[stV_in (by rw[padA_len hf];omega) (by rw[gnA_pad hkn,if_neg hk,hg]),stA_pad hkn,if_neg hk];rfl
    ·rw[stV_gen (by rw[gnA_pad hkn,if_neg hk];exact fun e=>hg e.symm)]
   ·exact stV_out (by simp only[padA_len hf];omega)
 ·rw[stV_out (by simp only;omega),stV_out (by simp only;omega)]
attribute [local irreducible] idxS addS okN memS remS errN insS delS nextS stA gnA stV atA hsV mergeA giveV delA newA bsV padA
set_option maxHeartbeats 1000000 in
theorem of_r5 {w0 w:World} {L:List As} {E n:Nat} {top:Int} {c:List ACell} (hs:St w0 (RaB E n top c::L) w) {h:Hdl} {v:Int} (HV:Hid (stV c h=v)):
  Calls Tryz.prog 42 #[.pointer (some ⟨E,0,none⟩),hv h] w fun e w'=>e= .returned (.int .i64 v)∧Grew w w':=by
 obtain⟨hok,A,capA,B,capB,hs⟩:=hs.raopen
 obtain⟨_,_,d2,d3⟩:=raRd hs
 have hfew:c.length≤65536:=Nat.le_trans hok.fits hok.few
 obtain⟨i,g⟩:=h
 by_cases ho:0≤i∧i < c.length
 ·obtain⟨h0,h1⟩:=ho
  obtain⟨k,rfl⟩:=Int.eq_ofNat_of_zero_le h0
  have hk:k < c.length:=by omega
  obtain⟨gA,rfl⟩:=hs.rot.own_at (by omega)
  obtain⟨gB,rfl⟩:=hs.up2.own_at (by omega)
  have dg:=Rd.own (gensV_get hk) _ hs.rot
  have ds:=Rd.own (stsV_get hk) _ hs.up2
  have hn1:=hs.rot.own_len
  have hn2:=hs.up2.own_len
  by_cases hgg:gnA c k=g
  ·have HVV:Hid (v=if stA c k=1 then 1 else if stA c k=2 then 2 else 0):=by rw[Hid,← HV.out];exact stV_in hk hgg
   rw[hgg] at dg
   generalize stA c k=s at ds HVV
   clear HV hgg h0 h1
   generalize c.length=m at*
   clear hok
   go_enter Tryz.func42,Tryz.ntmps42
   go_upto_region 1 with (first
    | (refine wpl_box_v (v:=hv ((k:Int),g)) rfl (St.start w) ?_;intro g3 w1 hw;replace hw:St w [blk g3 (h2 ((k:Int),g)).toArray 40] w1:=hw))
   have f0:w1.cell? ⟨g3,0,none⟩=some (.int .i64 (k:Int)):=Rd.blk (L:=[]) (by rfl) _ hw
   have f1:w1.cell? ⟨g3,1,none⟩=some (.int .i64 g):=Rd.blk (L:=[]) (by rfl) _ hw
   replace d2:=hw.made_grew.cell d2
   replace d3:=hw.made_grew.cell d3
   replace dg:=hw.made_grew.cell dg
   replace ds:=hw.made_grew.cell ds
   replace hw:=hw.made_grew
   refine wp_region_grow (by kernel_rfl) (by kernel_rfl) fun hne=>?_
   have g0:=fun p:GW _=>p.grew.cell f0
   have g1:=fun p:GW _=>p.grew.cell f1
   have g4:=fun p:GW _=>p.grew.cell d2
   have g5:=fun p:GW _=>p.grew.cell d3
   have gg:=fun p:GW _=>p.grew.cell dg
   have e1:decide ((k:Int) < 0)=false:=decide_eq_false (by omega)
   have e2:decide (m≤k)=false:=decide_eq_false (by omega)
   repeat (go_big_quiet_step (fail))
   refine wpQuiet_nil ?_
   clear hne g0 g1 g4 g5 gg e1 e2
   intro u hu
   replace hw:=hw.trans hu
   replace d3:=hu.cell d3
   replace f0:=hu.cell f0
   replace ds:=hu.cell ds
   clear hu
   go_upto_region 3 with (fail)
   refine wp_region_grow (by kernel_rfl) (by kernel_rfl) fun hne=>?_
   have g0:=fun p:GW _=>p.grew.cell f0
   have g1:=fun p:GW _=>p.grew.cell d3
   have g2:=fun p:GW _=>p.grew.cell ds
   repeat (go_big_quiet_step (fail))
   refine wpQuiet_nil ?_
   clear hne g0 g1 g2
   intro u2 hu
   replace hw:=hw.trans hu
   clear hu
   by_cases hs1:s=1
   ·subst hs1
    go_wp2
    go_ret
    exact⟨by rw[HVV.out];rfl,hw⟩
   ·by_cases hs2:s=2
    ·subst hs2
     go_wp2
     go_ret
     exact⟨by rw[HVV.out];rfl,hw⟩
    ·have HV0:Hid (v=0):=by rw[Hid,HVV.out,if_neg hs1,if_neg hs2]
     have e1:((s:Int)==1)=false:=by simp;omega
     have e2:((s:Int)==2)=false:=by simp;omega
     clear HVV
     go_wp2
     go_ret
     exact⟨by rw[HV0.out];rfl,hw⟩
  ·have HVV:Hid (v=0):=by rw[Hid,← HV.out];exact stV_gen hgg
   generalize gnA c k=g' at*
   clear HV h0 h1
   generalize c.length=m at*
   clear hok
   go_enter Tryz.func42,Tryz.ntmps42
   go_upto_region 1 with (first
    | (refine wpl_box_v (v:=hv ((k:Int),g)) rfl (St.start w) ?_;intro g3 w1 hw;replace hw:St w [blk g3 (h2 ((k:Int),g)).toArray 40] w1:=hw))
   have f0:w1.cell? ⟨g3,0,none⟩=some (.int .i64 (k:Int)):=Rd.blk (L:=[]) (by rfl) _ hw
   have f1:w1.cell? ⟨g3,1,none⟩=some (.int .i64 g):=Rd.blk (L:=[]) (by rfl) _ hw
   replace d2:=hw.made_grew.cell d2
   replace d3:=hw.made_grew.cell d3
   replace dg:=hw.made_grew.cell dg
   replace hw:=hw.made_grew
   refine wp_region_grow (by kernel_rfl) (by kernel_rfl) fun hne=>?_
   have g0:=fun p:GW _=>p.grew.cell f0
   have g1:=fun p:GW _=>p.grew.cell f1
   have g4:=fun p:GW _=>p.grew.cell d2
   have g5:=fun p:GW _=>p.grew.cell d3
   have gg:=fun p:GW _=>p.grew.cell dg
   have e1:decide ((k:Int) < 0)=false:=decide_eq_false (by omega)
   have e2:decide (m≤k)=false:=decide_eq_false (by omega)
   have e3:(g' !=g)=true:=by simpa using hgg
   repeat (go_big_quiet_step (fail))
   refine wpQuiet_nil ?_
   clear hne g0 g1 g4 g5 gg e1 e2 e3
   intro u hu
   replace hw:=hw.trans hu
   clear hu
   go_wp2
   go_ret
   exact⟨by rw[HVV.out];rfl,hw⟩
 ·have HVV:Hid (v=0):=by rw[Hid,← HV.out];exact stV_out ho
  clear HV
  generalize c.length=m at*
  clear hok
  by_cases hi:i < 0
  ·clear ho
   go_enter Tryz.func42,Tryz.ntmps42
   go_upto_region 1 with (first
    | (refine wpl_box_v (v:=hv (i,g)) rfl (St.start w) ?_;intro g3 w1 hw;replace hw:St w [blk g3 (h2 (i,g)).toArray 40] w1:=hw))
   have f0:w1.cell? ⟨g3,0,none⟩=some (.int .i64 i):=Rd.blk (L:=[]) (by rfl) _ hw
   have f1:w1.cell? ⟨g3,1,none⟩=some (.int .i64 g):=Rd.blk (L:=[]) (by rfl) _ hw
   replace d3:=hw.made_grew.cell d3
   replace hw:=hw.made_grew
   refine wp_region_grow (by kernel_rfl) (by kernel_rfl) fun hne=>?_
   have g0:=fun p:GW _=>p.grew.cell f0
   have g1:=fun p:GW _=>p.grew.cell f1
   have g4:=fun p:GW _=>p.grew.cell d3
   have e1:decide (i < 0)=true:=decide_eq_true (by omega)
   repeat (go_big_quiet_step (fail))
   refine wpQuiet_nil ?_
   clear hne g0 g1 g4 e1
   intro u hu
   replace hw:=hw.trans hu
   clear hu
   go_wp2
   go_ret
   exact⟨by rw[HVV.out];rfl,hw⟩
  ·have hni:(m:Int)≤i:=by omega
   clear ho
   go_enter Tryz.func42,Tryz.ntmps42
   go_upto_region 1 with (first
    | (refine wpl_box_v (v:=hv (i,g)) rfl (St.start w) ?_;intro g3 w1 hw;replace hw:St w [blk g3 (h2 (i,g)).toArray 40] w1:=hw))
   have f0:w1.cell? ⟨g3,0,none⟩=some (.int .i64 i):=Rd.blk (L:=[]) (by rfl) _ hw
   have f1:w1.cell? ⟨g3,1,none⟩=some (.int .i64 g):=Rd.blk (L:=[]) (by rfl) _ hw
   replace d3:=hw.made_grew.cell d3
   replace hw:=hw.made_grew
   refine wp_region_grow (by kernel_rfl) (by kernel_rfl) fun hne=>?_
   have g0:=fun p:GW _=>p.grew.cell f0
   have g1:=fun p:GW _=>p.grew.cell f1
   have g4:=fun p:GW _=>p.grew.cell d3
   have e1:decide (i < 0)=false:=decide_eq_false (by omega)
   have e2:decide ((m:Int)≤i)=true:=decide_eq_true (by omega)
   repeat (go_big_quiet_step (fail))
   refine wpQuiet_nil ?_
   clear hne g0 g1 g4 e1 e2
   intro u hu
   replace hw:=hw.trans hu
   clear hu
   go_wp2
   go_ret
   exact⟨by rw[HVV.out];rfl,hw⟩
def mayR (v:Int):Int:=if v=0 then 4 else if v=2 then 5 else 0
set_option maxHeartbeats 1000000 in
theorem may_c {w0 w:World} {L:List As} {E n:Nat} {top:Int} {c:List ACell} (hs:St w0 (RaB E n top c::L) w) {h:Hdl}:
  Calls Tryz.prog 83 #[.pointer (some ⟨E,0,none⟩),hv h] w fun e w'=>e= .returned (.int .i64 (mayR (stV c h)))∧Grew w w':=by
 obtain⟨i,g⟩:=h
 rcases stV_cases c (i,g) with h1 | h1 | h1
 ·skip
  have HS:=Lib.hid h1
  rw[h1]
  clear h1
  go_enter Tryz.func83,Tryz.ntmps83
  go_wp2_with (first
   | (refine wpl_box_v (v:=hv (i,g)) rfl (St.start w) ?_;intro g3 w1 hw;replace hw:St w [blk g3 (h2 (i,g)).toArray 40] w1:=hw)
   | (refine wpl_load_agg (cs:=h2 (i,g)) (b:=g3) (o:=0) rfl aggH (sizeHd _) hw ?hh ?_;case hh=>exact fun j x hx=>Rd.blk (by simpa using hx))
   | (go_at_call 42;refine (of_r5 (hs.grew hw.made_grew) HS).mono ?_;rintro e w' ⟨rfl,hg⟩;replace hw:=hw.grew hg;clear hg))
  go_ret
  exact⟨rfl,hw.made_grew⟩
 ·skip
  have HS:=Lib.hid h1
  rw[h1]
  clear h1
  go_enter Tryz.func83,Tryz.ntmps83
  go_wp2_with (first
   | (refine wpl_box_v (v:=hv (i,g)) rfl (St.start w) ?_;intro g3 w1 hw;replace hw:St w [blk g3 (h2 (i,g)).toArray 40] w1:=hw)
   | (refine wpl_load_agg (cs:=h2 (i,g)) (b:=g3) (o:=0) rfl aggH (sizeHd _) hw ?hh ?_;case hh=>exact fun j x hx=>Rd.blk (by simpa using hx))
   | (go_at_call 42;refine (of_r5 (hs.grew hw.made_grew) HS).mono ?_;rintro e w' ⟨rfl,hg⟩;replace hw:=hw.grew hg;clear hg))
  go_ret
  exact⟨rfl,hw.made_grew⟩
 ·skip
  have HS:=Lib.hid h1
  rw[h1]
  clear h1
  go_enter Tryz.func83,Tryz.ntmps83
  go_wp2_with (first
   | (refine wpl_box_v (v:=hv (i,g)) rfl (St.start w) ?_;intro g3 w1 hw;replace hw:St w [blk g3 (h2 (i,g)).toArray 40] w1:=hw)
   | (refine wpl_load_agg (cs:=h2 (i,g)) (b:=g3) (o:=0) rfl aggH (sizeHd _) hw ?hh ?_;case hh=>exact fun j x hx=>Rd.blk (by simpa using hx))
   | (go_at_call 42;refine (of_r5 (hs.grew hw.made_grew) HS).mono ?_;rintro e w' ⟨rfl,hg⟩;replace hw:=hw.grew hg;clear hg))
  go_ret
  exact⟨rfl,hw.made_grew⟩
end
section
open Go Go.RowKit
attribute [local irreducible] wpList Calls Code.wp
theorem del_pad {n:Nat} {top:Int} {c:List ACell} {h:Hdl} (hf:c.length≤n):delA top (padA n c) h=((delA top c h).1,padA n (delA top c h).2):=by
 rcases stV_cases c h with h1 | h1 | h1
 ·unfold delA;rw[of_pad hf,h1];rfl
 ·unfold delA;rw[of_pad hf,h1];rfl
 ·obtain⟨k,hk,hl,_⟩:=stV_one h1
  unfold delA
  rw[of_pad hf,h1,hk,Int.toNat_natCast]
  simp only[show ¬ (1:Int)=0 by decide,show ¬ (1:Int)=2 by decide,if_false]
  rw[padA_set hl]
theorem RaOk.set {n:Nat} {top:Int} {c:List ACell} (h:RaOk n top c) {k s:Nat} {g:Int} (hk:k < c.length) (hs:s=0∨s=1∨s=2∨s=9) (h1:0≤g) (h2:g≤top) (h3:s=0→g < top):RaOk n top (c.set k (s,g)) where
 fits:=by rw[List.length_set];exact h.fits
 few:=h.few
 top2:=h.top2
 top1:=h.top1
 gen j hj:=by
  rw[gnA_set hk];split
  ·exact⟨h1,h2⟩
  ·exact h.gen j (by simpa using hj)
 st j hj:=by
  rw[stA_set hk];split
  ·exact hs
  ·exact h.st j (by simpa using hj)
 free j hj:=by
  rw[gnA_set hk,stA_set hk];split
  ·exact h3
  ·exact h.free j (by simpa using hj)
attribute [local irreducible] idxS addS okN memS remS errN insS delS nextS stA gnA stV atA hsV mergeA giveV delA newA bsV padA
theorem mayR_0 {v:Int} (h:v=0):mayR v=4:=by rw[h];rfl
theorem mayR_2 {v:Int} (h:v=2):mayR v=5:=by rw[h];rfl
theorem mayR_1 {v:Int} (h:v=1):mayR v=0:=by rw[h];rfl
theorem may_v {w0 w:World} {L:List As} {E n:Nat} {top:Int} {c:List ACell} (hs:St w0 (RaB E n top c::L) w) {h:Hdl} {x:Int} (hx:Hid (mayR (stV c h)=x)):
  Calls Tryz.prog 83 #[.pointer (some ⟨E,0,none⟩),hv h] w fun e w'=>e= .returned (.int .i64 x)∧Grew w w':=by
 rw[← hx.out];exact may_c hs
set_option maxHeartbeats 1000000 in
theorem delete_r {w0 w:World} {L:List As} {E n:Nat} {top:Int} {c:List ACell} (hs:St w0 (RaB E n top c::L) w) {h:Hdl} {x:Int} {c':List ACell} (HV:Hid (delA top c h=(x,c'))):
  Calls Tryz.prog 85 #[.pointer (some ⟨E,0,none⟩),hv h] w fun e w'=>e= .returned (.int .i64 x)∧St w0 (RaB E n top c'::L) w':=by
 obtain⟨i,g⟩:=h
 rcases stV_cases c (i,g) with h1 | h1 | h1
 ·have HM:=Lib.hid (mayR_0 h1)
  have HVV:Hid (delA top c (i,g)=(4,c)):=by rw[Hid];unfold delA;rw[h1];rfl
  rw[HVV.out] at HV
  clear h1
  go_enter Tryz.func85,Tryz.ntmps85
  go_wp2_with (first
   | (refine wpl_box_v (v:=hv (i,g)) rfl hs ?_;clear hs;intro g3 w1 hs;replace hs:St w0 (blk g3 (h2 (i,g)).toArray 40::_) w1:=hs)
   | (refine wpl_load_agg (cs:=h2 (i,g)) (b:=g3) (o:=0) rfl aggH (sizeHd _) hs ?hh ?_;case hh=>exact fun j x hx=>Rd.blk (by simpa using hx))
   | (go_at_call 83;refine (may_v hs.rot HM).mono ?_;rintro e w' ⟨rfl,hg⟩;replace hs:=hs.grew hg;clear hg))
  go_ret
  cases HV.out
  exact⟨rfl,hs.drop⟩
 ·have HM:=Lib.hid (mayR_2 h1)
  have HVV:Hid (delA top c (i,g)=(5,c)):=by rw[Hid];unfold delA;rw[h1];rfl
  rw[HVV.out] at HV
  clear h1
  go_enter Tryz.func85,Tryz.ntmps85
  go_wp2_with (first
   | (refine wpl_box_v (v:=hv (i,g)) rfl hs ?_;clear hs;intro g3 w1 hs;replace hs:St w0 (blk g3 (h2 (i,g)).toArray 40::_) w1:=hs)
   | (refine wpl_load_agg (cs:=h2 (i,g)) (b:=g3) (o:=0) rfl aggH (sizeHd _) hs ?hh ?_;case hh=>exact fun j x hx=>Rd.blk (by simpa using hx))
   | (go_at_call 83;refine (may_v hs.rot HM).mono ?_;rintro e w' ⟨rfl,hg⟩;replace hs:=hs.grew hg;clear hg))
  go_ret
  cases HV.out
  exact⟨rfl,hs.drop⟩
 ·have HM:=Lib.hid (mayR_1 h1)
  obtain⟨k,hik,hk,hgk,hsk⟩:=stV_one h1
  simp only at hik hgk
  subst hik
  have hok:=hs.raopen.1
  have hgb:=hok.gen k hk
  rw[hgk] at hgb
  obtain⟨s',hs'⟩:∃ s':Nat,(if top≤g then 9 else 0)=s':=⟨_,rfl⟩
  have HVV:delA top c ((k:Int),g)=(0,c.set k (s',g)):=by unfold delA;rw[h1,← hs'];rfl
  rw[HVV] at HV
  cases HV.out
  have hok':RaOk n top (c.set k (s',g)):=hok.set hk (by rw[← hs'];split <;> simp) hgb.1 hgb.2 (fun h0=>by
   rw[h0] at hs'
   split at hs'
   ·cases hs'
   ·omega)
  have HG:Hid (gensV c=gensV (c.set k (s',g))):=by rw[Hid,← hgk,gensV_same' hk]
  have HS0:Hid ((stsV c).set k (.int .i64 0)=stsV (c.set k (0,g))):=stsV_set (s:=0)
  have HLn:Hid ((c.set k (s',g)).length=c.length):=by rw[Hid,List.length_set]
  have hl0:k < (stsV c).length:=by rw[stsV_len];exact hk
  have hgt:g≤4294967295:=by have:=hok.top2;omega
  have hmf:c.length≤65536:=Nat.le_trans hok.fits hok.few
  clear h1 HVV HV hsk hok
  by_cases htg:top≤g
  ·obtain rfl:9=s':=by rw[← hs',if_pos htg]
   obtain rfl:top=g:=by omega
   have HS9:Hid ((stsV (c.set k (0,top))).set k (.int .i64 9)=stsV (c.set k (9,top))):=by
    have e:(stsV (c.set k (0,top))).set k (.int .i64 ((9:Nat):Int))=stsV ((c.set k (0,top)).set k (9,top)):=stsV_set
    rw[List.set_set] at e
    exact e
   have hl9:k < (stsV (c.set k (0,top))).length:=by rw[stsV_len,List.length_set];exact hk
   generalize c.set k (9,top)=c' at*
   generalize c.set k (0,top)=c0 at*
   clear hs' hgk hgb htg
   go_enter Tryz.func85,Tryz.ntmps85
   go_upto_region 4 with (first
   | (refine wpl_box_v (v:=hv ((k:Int),top)) rfl hs ?_;clear hs;intro g3 w1 hs;replace hs:St w0 (blk g3 (h2 ((k:Int),top)).toArray 40::_) w1:=hs)
   | (refine wpl_load_agg (cs:=h2 ((k:Int),top)) (b:=g3) (o:=0) rfl aggH (sizeHd _) hs ?hh ?_;case hh=>exact fun j x hx=>Rd.blk (by simpa using hx))
   | (go_at_call 83;refine (may_v hs.rot HM).mono ?_;rintro e w' ⟨rfl,hg⟩;replace hs:=hs.grew hg;clear hg))
   obtain⟨_,A,capA,B,capB,hs⟩:=hs.rot.raopen
   obtain⟨gA,rfl⟩:=hs.rot.own_at (by omega)
   obtain⟨gB,rfl⟩:=hs.up2.own_at (by omega)
   have hn2:=hs.up2.own_len
   generalize c.length=m at*
   have hsN:=hs.up3.only2
   refine wp_region_plain [false,false,false,false,false,false,false,true] hsN (by kernel_rfl) (by kernel_rfl) fun hne=>?_
   have g0:=(Rd.blk (w0:=w0) (g:=g3) (k:=0) (cs:=(h2 ((k:Int),top)).toArray) (v:= .int .i64 (k:Int)) (t:=40) (L:=[blk E (raC n top (some ⟨gA,0,none⟩) m capA (some ⟨gB,0,none⟩) capB).toArray 183]) (by rfl)).alln
   have g1:=((Rd.blk (w0:=w0) (g:=E) (k:=3) (cs:=(raC n top (some ⟨gA,0,none⟩) m capA (some ⟨gB,0,none⟩) capB).toArray) (v:= .slice (some ⟨gB,0,none⟩) m capB) (t:=183) (L:=[]) (by rfl)).tail (p:=blk g3 (h2 ((k:Int),top)).toArray 40)).alln
   simp only[pickOps]
   repeat (go_big_quiet_step (fail))
   refine wpQuiet_nil ?_
   clear hne g0 g1
   simp only[chainIx]
   refine wpChain_last rfl ?_
   replace hs:=hs.drew
   clear hsN
   go_upto_region 5 with (first
    | (refine wpl_store (ad:=⟨gB,k,none⟩) (v:= .int .i64 0) rfl rfl rfl size_int3 hs.up2 (Wr.own hl0) ?_;clear hs;intro w3 hs;rw[HS0.out] at hs;replace hs:=hs.dn2))
   obtain⟨_,d1,_,_⟩:=raRd hs
   have f1:World.cell? _ ⟨g3,1,none⟩=some (.int .i64 top):=Rd.blk (by rfl) _ hs.up3
   refine wp_region_grow (by kernel_rfl) (by kernel_rfl) fun hne=>?_
   have g0:=fun p:GW _=>p.grew.cell f1
   have g1:=fun p:GW _=>p.grew.cell d1
   repeat (go_big_quiet_step (fail))
   refine wpQuiet_nil ?_
   clear hne g0 g1 f1 d1
   intro u hu
   replace hs:=hs.grew hu
   clear hu
   go_upto_region 6 with (fail)
   have hsN:=hs.up3.only2
   refine wp_region_plain [false,false,false,false,false,false,false,true] hsN (by kernel_rfl) (by kernel_rfl) fun hne=>?_
   have g0:=(Rd.blk (w0:=w0) (g:=g3) (k:=0) (cs:=(h2 ((k:Int),top)).toArray) (v:= .int .i64 (k:Int)) (t:=40) (L:=[blk E (raC n top (some ⟨gA,0,none⟩) m capA (some ⟨gB,0,none⟩) capB).toArray 183]) (by rfl)).alln
   have g1:=((Rd.blk (w0:=w0) (g:=E) (k:=3) (cs:=(raC n top (some ⟨gA,0,none⟩) m capA (some ⟨gB,0,none⟩) capB).toArray) (v:= .slice (some ⟨gB,0,none⟩) m capB) (t:=183) (L:=[]) (by rfl)).tail (p:=blk g3 (h2 ((k:Int),top)).toArray 40)).alln
   simp only[pickOps]
   repeat (go_big_quiet_step (fail))
   refine wpQuiet_nil ?_
   clear hne g0 g1
   simp only[chainIx]
   refine wpChain_last rfl ?_
   replace hs:=hs.drew
   clear hsN
   go_wp2_with (first
    | (refine wpl_store (ad:=⟨gB,k,none⟩) (v:= .int .i64 9) rfl rfl rfl size_int3 hs.up2 (Wr.own hl9) ?_;clear hs;intro w3 hs;rw[HS9.out] at hs;replace hs:=hs.dn2))
   go_ret
   rw[HG.out] at hs
   exact⟨rfl,(hs.rashut hok' HLn.out).rot.drop⟩
  ·obtain rfl:0=s':=by rw[← hs',if_neg htg]
   have htop:¬ g=top:=by omega
   generalize c.set k (0,g)=c' at*
   clear hs' hgk hgb
   go_enter Tryz.func85,Tryz.ntmps85
   go_upto_region 4 with (first
   | (refine wpl_box_v (v:=hv ((k:Int),g)) rfl hs ?_;clear hs;intro g3 w1 hs;replace hs:St w0 (blk g3 (h2 ((k:Int),g)).toArray 40::_) w1:=hs)
   | (refine wpl_load_agg (cs:=h2 ((k:Int),g)) (b:=g3) (o:=0) rfl aggH (sizeHd _) hs ?hh ?_;case hh=>exact fun j x hx=>Rd.blk (by simpa using hx))
   | (go_at_call 83;refine (may_v hs.rot HM).mono ?_;rintro e w' ⟨rfl,hg⟩;replace hs:=hs.grew hg;clear hg))
   obtain⟨_,A,capA,B,capB,hs⟩:=hs.rot.raopen
   obtain⟨gA,rfl⟩:=hs.rot.own_at (by omega)
   obtain⟨gB,rfl⟩:=hs.up2.own_at (by omega)
   have hn2:=hs.up2.own_len
   generalize c.length=m at*
   have hsN:=hs.up3.only2
   refine wp_region_plain [false,false,false,false,false,false,false,true] hsN (by kernel_rfl) (by kernel_rfl) fun hne=>?_
   have g0:=(Rd.blk (w0:=w0) (g:=g3) (k:=0) (cs:=(h2 ((k:Int),g)).toArray) (v:= .int .i64 (k:Int)) (t:=40) (L:=[blk E (raC n top (some ⟨gA,0,none⟩) m capA (some ⟨gB,0,none⟩) capB).toArray 183]) (by rfl)).alln
   have g1:=((Rd.blk (w0:=w0) (g:=E) (k:=3) (cs:=(raC n top (some ⟨gA,0,none⟩) m capA (some ⟨gB,0,none⟩) capB).toArray) (v:= .slice (some ⟨gB,0,none⟩) m capB) (t:=183) (L:=[]) (by rfl)).tail (p:=blk g3 (h2 ((k:Int),g)).toArray 40)).alln
   simp only[pickOps]
   repeat (go_big_quiet_step (fail))
   refine wpQuiet_nil ?_
   clear hne g0 g1
   simp only[chainIx]
   refine wpChain_last rfl ?_
   replace hs:=hs.drew
   clear hsN
   go_upto_region 5 with (first
    | (refine wpl_store (ad:=⟨gB,k,none⟩) (v:= .int .i64 0) rfl rfl rfl size_int3 hs.up2 (Wr.own hl0) ?_;clear hs;intro w3 hs;rw[HS0.out] at hs;replace hs:=hs.dn2))
   obtain⟨_,d1,_,_⟩:=raRd hs
   have f1:World.cell? _ ⟨g3,1,none⟩=some (.int .i64 g):=Rd.blk (by rfl) _ hs.up3
   refine wp_region_grow (by kernel_rfl) (by kernel_rfl) fun hne=>?_
   have g0:=fun p:GW _=>p.grew.cell f1
   have g1:=fun p:GW _=>p.grew.cell d1
   repeat (go_big_quiet_step (fail))
   refine wpQuiet_nil ?_
   clear hne g0 g1 f1 d1
   intro u hu
   replace hs:=hs.grew hu
   clear hu
   go_wp2
   go_ret
   rw[HG.out] at hs
   exact⟨rfl,(hs.rashut hok' HLn.out).rot.drop⟩
end
section
open Go Go.RowKit
attribute [local irreducible] wpList Calls Code.wp
def idxU (s:Nat) (c:List ACell) (i:Nat):List Nat:=(List.range i).filter fun j=>stA c j==s
theorem idxU_all (s:Nat) (c:List ACell):idxU s c c.length=idxS s c:=rfl
theorem idxU_zero (s:Nat) (c:List ACell):idxU s c 0=[]:=rfl
theorem idxU_yes {s i:Nat} {c:List ACell} (h:stA c i=s):idxU s c (i+1)=idxU s c i++[i]:=by
 unfold idxU
 rw[List.range_succ,List.filter_append]
 congr 1
 simp[h]
theorem idxU_no {s i:Nat} {c:List ACell} (h:stA c i ≠ s):idxU s c (i+1)=idxU s c i:=by
 unfold idxU
 rw[List.range_succ,List.filter_append]
 simp[h]
theorem idxU_len (s:Nat) (c:List ACell) (i:Nat):(idxU s c i).length≤i:=by
 have:=List.length_filter_le (fun j=>stA c j==s) (List.range i)
 simpa [idxU] using this
theorem idxS_pad {n s:Nat} {c:List ACell} (hf:c.length≤n) (hs:s ≠ 0):idxS s (padA n c)=idxS s c:=
 sorted_ext (sorted_idxS _ _) (sorted_idxS _ _) fun i=>by
  rw[mem_idxS,mem_idxS,padA_len hf]
  constructor
  ·rintro⟨h1,h2⟩
   rw[stA_pad h1] at h2
   split at h2
   ·exact⟨by assumption,h2⟩
   ·exact absurd h2.symm hs
  ·rintro⟨h1,h2⟩
   exact⟨by omega,by rw[stA_pad (by omega),if_pos h1];exact h2⟩
theorem all_pad {n s:Nat} {c:List ACell} (hf:c.length≤n) (hs:s ≠ 0):allH (padA n c) (idxS s (padA n c))=allH c (idxS s c):=by
 rw[idxS_pad hf hs]
 unfold allH handA
 refine List.map_congr_left fun a ha=>?_
 have h1:=(mem_idxS.1 ha).1
 rw[gnA_pad (by omega),if_pos h1]
theorem merge_pad {n:Nat} {c:List ACell}:mergeA (padA n c)=padA n (mergeA c):=by
 unfold mergeA padA
 rw[List.map_append,List.length_map]
 congr 1
 simp
theorem cells_ext {c d:List ACell} (hl:c.length=d.length) (hs:∀ i,i < c.length→stA c i=stA d i) (hg:∀ i,i < c.length→gnA c i=gnA d i):c=d:=by
 refine List.ext_getElem hl fun i h1 h2'=>?_
 have a1:=hs i h1
 have a2:=hg i h1
 unfold stA at a1
 unfold gnA at a2
 rw[List.getD_eq_getElem?_getD,List.getD_eq_getElem?_getD,List.getElem?_eq_getElem h1,List.getElem?_eq_getElem h2'] at a1 a2
 exact Prod.ext a1 a2
structure MgI (c:List ACell) (k:Nat) (d:List ACell):Prop where
 len:d.length=c.length
 gn:∀ i,i < c.length→gnA d i=gnA c i
 st:∀ i,i < c.length→stA d i=if i∈(idxS 2 c).take k then 1 else stA c i
theorem mgI_start (c:List ACell):MgI c 0 c:=⟨rfl,fun _ _=>rfl,fun _ _=>by simp⟩
theorem MgI.step {c d:List ACell} {k a:Nat} (h:MgI c k d) (ha:(idxS 2 c)[k]? =some a):MgI c (k+1) (d.set a (1,gnA d a)):=by
 obtain⟨hl,he⟩:=List.getElem?_eq_some_iff.1 ha
 have hac:=(mem_idxS.1 (List.mem_of_getElem? ha)).1
 have had:a < d.length:=by rw[h.len];exact hac
 refine⟨by rw[List.length_set];exact h.len,fun i hi=>?_,fun i hi=>?_⟩
 ·rw[gnA_set had];split
  ·rename_i e;rw[e];exact h.gn a hac
  ·exact h.gn i hi
 ·rw[stA_set had,List.take_succ_eq_append_getElem hl,he]
  by_cases e:i=a
  ·simp[e]
  ·rw[if_neg e,h.st i hi]
   simp[e]
theorem MgI.done {c d:List ACell} {k:Nat} (h:MgI c k d) (hk:(idxS 2 c).length≤k):d=mergeA c:=
 cells_ext (by rw[h.len,mergeA_len]) (fun i hi=>by
  rw[h.len] at hi
  rw[h.st i hi,stA_merge,List.take_of_length_le hk]
  by_cases e:stA c i=2
  ·rw[if_pos (mem_idxS.2 ⟨hi,e⟩),if_pos e]
  ·rw[if_neg (fun hm=>e (mem_idxS.1 hm).2),if_neg e]) (fun i hi=>by rw[h.len] at hi;rw[h.gn i hi,gnA_merge])
theorem RaOk.merge {n:Nat} {top:Int} {c:List ACell} (h:RaOk n top c):RaOk n top (mergeA c) where
 fits:=by rw[mergeA_len];exact h.fits
 few:=h.few
 top2:=h.top2
 top1:=h.top1
 gen i hi:=by rw[gnA_merge];exact h.gen i (by rwa [mergeA_len] at hi)
 st i hi:=by
  rw[mergeA_len] at hi
  rw[stA_merge];split
  ·exact .inr (.inl rfl)
  ·exact h.st i hi
 free i hi h0:=by
  rw[mergeA_len] at hi
  rw[gnA_merge]
  rw[stA_merge] at h0
  split at h0
  ·cases h0
  ·exact h.free i hi h0
attribute [local irreducible] idxS addS okN memS remS errN insS delS nextS stA gnA stV atA hsV mergeA giveV delA newA bsV padA idxU
set_option maxHeartbeats 1000000 in
theorem in_c {w0 w:World} {L:List As} {E n:Nat} {top:Int} {c:List ACell} (hs:St w0 (RaB E n top c::L) w) {s k:Nat} (hk:Hid ((idxS s c).length=k)):
  Calls Tryz.prog 45 #[.pointer (some ⟨E,0,none⟩), .int .i64 (s:Nat)] w fun e w'=>∃ B cap,e= .returned (.slice B k cap)∧St w [own B k cap 40 2 (hsV (allH c (idxS s c)))] w':=by
 obtain⟨hok,A,capA,B,capB,hs⟩:=hs.raopen
 have hfew:c.length≤65536:=Nat.le_trans hok.fits hok.few
 have HU:=Lib.hid (idxU_all s c)
 have HZ:Hid (hsV (allH c (idxU s c 0))=[]):=by rw[Hid,idxU_zero];unfold hsV;rfl
 have hl1:=hs.rot.own_len
 have hl2:=hs.up2.own_len
 obtain⟨m,hm⟩:∃ m,c.length=m:=⟨_,rfl⟩
 have HM:=Lib.hid hm
 rw[hm] at hfew hs HU hl1 hl2
 clear hm hok
 go_enter Tryz.func45,Tryz.ntmps45
 go_wp2
 have hm0:=(St.start w).own_nil 40 2
 rw[← HZ.out] at hm0
 go_loopw [5,6] (fun ov iv wr=>∃ (i q:Nat) (D:Option Addr) (cap:Nat),i≤m∧ov= .slice D q cap∧iv= .int .i64 (i:Nat)∧(idxU s c i).length=q∧St w [own D q cap 40 2 (hsV (allH c (idxU s c i)))] wr) (fun _ iv _=>m - (intOf iv).toNat)
 case atStart=>exact⟨0,0,none,0,Nat.zero_le _,rfl,rfl,by rw[idxU_zero];rfl,hm0⟩
 case round=>
  clear hm0 HZ
  obtain⟨i,q,D,cap,hi,rfl,rfl,hq,hw⟩:=hrel
  have hsw:=hs.grew hw.made_grew
  obtain⟨_,_,d2,d3⟩:=raRd hsw
  have hqi:q≤i:=by rw[← hq];exact idxU_len s c i
  by_cases hlt:i < m
  ·obtain⟨gA,rfl⟩:=hs.rot.own_at (by omega)
   obtain⟨gB,rfl⟩:=hs.up2.own_at (by omega)
   have dg:=Rd.own (gensV_get (cs:=c) (i:=i) (by rw[HM.out];exact hlt)) _ hsw.rot
   have ds:=Rd.own (stsV_get (c:=c) (i:=i) (by rw[HM.out];exact hlt)) _ hsw.up2
   by_cases he:stA c i=s
   ·have HT:Hid (hsV (allH c (idxU s c i))++h2 ((i:Int),gnA c i)=hsV (allH c (idxU s c (i+1)))):=by
     rw[Hid,hsV_append,idxU_yes he];simp[allH,handA]
    have HQ:Hid ((idxU s c (i+1)).length=q+1):=by rw[Hid,idxU_yes he,List.length_append,hq];rfl
    generalize gnA c i=g at*
    rw[he] at ds
    clear hq he
    go_wp2_with (first
     | (refine wpl_buildS (build_h2 _ _) rfl ?_)
     | (refine wpl_build1 (v:=hv ((i:Int),g)) elemH (by decide) rfl rfl hw ?_;clear hw;intro gb w2 hw;replace hw:St w [blk gb (h2 ((i:Int),g)).toArray 40,own D q cap 40 2 (hsV (allH c (idxU s c i)))] w2:=hw)
     | (refine wpl_append (B:=some ⟨gb,0,none⟩) (m:=1) (news:=h2 ((i:Int),g)) elemH rfl rfl hw (Ent.skip (Ent.refl _)) RdS.blk rfl (h2_one _) (by unfold maxLen;omega) (by omega) ?_;clear hw;intro D' cap' w3 hw;replace hw:=hw.rot.drop;rw[HT.out] at hw))
    go_roundw
    case rel=>first | exact⟨i+1,q+1,D',cap',by omega,rfl,by go_num,HQ.out,hw⟩ | ((repeat apply Exists.intro);refine⟨?_,rfl⟩;exact⟨i+1,q+1,D',cap',by omega,rfl,by go_num,HQ.out,hw⟩)
    case measure=>simp[intOf] <;> omega
   ·have HT:Hid (idxU s c (i+1)=idxU s c i):=idxU_no he
    have hes:¬ ((stA c i:Nat):Int)=(s:Int):=by omega
    generalize stA c i=s' at*
    clear he dg
    go_wp2
    go_roundw
    case rel=>first | exact⟨i+1,q,D,cap,by omega,rfl,by go_num,by rw[HT.out];exact hq,by rw[HT.out];exact hw⟩ | ((repeat apply Exists.intro);refine⟨?_,rfl⟩;exact⟨i+1,q,D,cap,by omega,rfl,by go_num,by rw[HT.out];exact hq,by rw[HT.out];exact hw⟩)
    case measure=>simp[intOf] <;> omega
  ·obtain rfl:i=m:=by omega
   rw[HU.out] at hq hw
   obtain rfl:k=q:=by rw[← hk.out,hq]
   clear hq HU
   go_wp2
   go_ret
   exact⟨D,cap,rfl,hw⟩
set_option maxHeartbeats 1000000 in
theorem merge_r {w0 w:World} {L:List As} {E n:Nat} {top:Int} {c:List ACell} (hs:St w0 (RaB E n top c::L) w) {k:Nat} (hk:Hid ((idxS 2 c).length=k)):
  Calls Tryz.prog 38 #[.pointer (some ⟨E,0,none⟩)] w fun e w'=>∃ B cap,e= .returned (.slice B k cap)∧St w0 (own B k cap 40 2 (hsV (allH c (idxS 2 c)))::RaB E n top (mergeA c)::L) w':=by
 have hok:=hs.raopen.1
 have hfew:c.length≤65536:=Nat.le_trans hok.fits hok.few
 have hk2:k≤65536:=by have:=idx_len 2 c;rw[hk.out] at this;omega
 go_enter Tryz.func38,Tryz.ntmps38
 go_wp2_with (first
  | (go_at_call 45;refine (in_c (s:=2) hs hk).mono ?_;rintro e w' ⟨D,capD,rfl,hm⟩;replace hs:=hs.made hm;clear hm))
 obtain⟨_,A,capA,B,capB,hs⟩:=hs.rot.raopen
 replace hs:St w0 (blk E (raC n top A c.length capA B capB).toArray 183::own A c.length capA 2 1 (gensV c)::own B c.length capB 3 1 (stsV c)::own D k capD 40 2 (hsV (allH c (idxS 2 c)))::L) _:=hs
 go_loopw [4] (fun cv wr=>∃ (i:Nat) (d:List ACell),i≤k∧cv= .int .i64 (i:Nat)∧MgI c i d∧
  St w0 (blk E (raC n top A c.length capA B capB).toArray 183::own A c.length capA 2 1 (gensV c)::own B c.length capB 3 1 (stsV d)::own D k capD 40 2 (hsV (allH c (idxS 2 c)))::L) wr) (fun cv _=>k - (intOf cv).toNat)
 case atStart=>exact⟨0,c,Nat.zero_le _,rfl,mgI_start c,hs⟩
 case round=>
  clear hs
  obtain⟨i,d,hi,rfl,HI,hs⟩:=hrel
  by_cases hlt:i < k
  ·obtain⟨a,ha⟩:∃ a,(idxS 2 c)[i]? =some a:=⟨_,List.getElem?_eq_getElem (by rw[hk.out];exact hlt)⟩
   have hac:=(mem_idxS.1 (List.mem_of_getElem? ha)).1
   obtain⟨gD,rfl⟩:=hs.up3.own_at (by omega)
   obtain⟨gB,rfl⟩:=hs.up2.own_at (by omega)
   have HI2:=HI.step ha
   have hh:(allH c (idxS 2 c))[i]? =some ((a:Int),gnA c a):=by unfold allH;rw[List.getElem?_map,ha];rfl
   have hl0:a < (stsV d).length:=by rw[stsV_len,HI.len];exact hac
   have HS:Hid ((stsV d).set a (.int .i64 1)=stsV (d.set a (1,gnA d a))):=stsV_set (s:=1)
   have hn2:=hs.up2.own_len
   generalize d.set a (1,gnA d a)=d' at*
   generalize hcl:c.length=m at*
   clear hcl
   have hsN:=hs.up3.ent (Ent.cons _ (Ent.refl _))
   have hsN2:=hsN.only2
   go_wp2
   refine wp_region_plain [false,false,false,false,false,false,false,false,false,false,true] hsN2 (by kernel_rfl) (by kernel_rfl) fun hne=>?_
   have g0:=(hsV_at (w0:=w0) (B:=gD) (n:=k) (cap:=capD) (L:=[blk E (raC n top A m capA (some ⟨gB,0,none⟩) capB).toArray 183]) hh 0 (.int .i64 (a:Int)) rfl).alln
   have g1:=((Rd.blk (w0:=w0) (g:=E) (k:=3) (cs:=(raC n top A m capA (some ⟨gB,0,none⟩) capB).toArray) (v:= .slice (some ⟨gB,0,none⟩) m capB) (t:=183) (L:=[]) (by rfl)).tail (p:=own (some ⟨gD,0,none⟩) k capD 40 2 (hsV (allH c (idxS 2 c))))).alln
   simp only[Nat.add_zero] at g0
   simp only[pickOps]
   repeat (go_big_quiet_step (fail))
   refine wpQuiet_nil ?_
   clear hne g0 g1
   simp only[chainIx]
   refine wpChain_last rfl ?_
   replace hs:=hs.drew
   clear hsN hsN2 hh ha
   go_wp2_with (first
    | (refine wpl_store (ad:=⟨gB,a,none⟩) (v:= .int .i64 1) rfl rfl rfl size_int3 hs.up2 (Wr.own hl0) ?_;clear hs;intro w3 hs;rw[HS.out] at hs;replace hs:=hs.dn2))
   go_roundw
   case rel=>first | exact⟨i+1,d',by omega,by go_num,HI2,hs⟩ | ((repeat apply Exists.intro);refine⟨?_,rfl⟩;exact⟨i+1,d',by omega,by go_num,HI2,hs⟩)
   case measure=>simp[intOf] <;> omega
  ·have he:=HI.done (by rw[hk.out];omega)
   subst he
   have hok':=hok.merge
   have hml:=mergeA_len c
   have hgm:=(gensV_merge c).symm
   rw[hgm] at hs
   have hs3:=(hs.rashut hok' hml).rot
   clear HI hs hgm hml hok'
   go_wp2
   go_ret
   exact⟨D,capD,rfl,hs3⟩
end
section
open Go Go.RowKit
attribute [local irreducible] wpList Calls Code.wp
structure TkI (c:List ACell) (i:Nat) (u:Bool):Prop where
 le:i≤c.length
 no:∀ j,j < i→stA c j ≠ 0
 used:u=true↔∃ j,j < i∧stA c j ≠ 9
theorem tkI_start (c:List ACell):TkI c 0 false:=⟨Nat.zero_le _,fun j h=>absurd h (Nat.not_lt_zero j),⟨fun h=>(nomatch h),fun ⟨j,h,_⟩=>absurd h (Nat.not_lt_zero j)⟩⟩
theorem TkI.next {c:List ACell} {i:Nat} {u:Bool} (h:TkI c i u) (hi:i < c.length) (h0:stA c i ≠ 0):TkI c (i+1) (u || !decide (stA c i=9)) where
 le:=hi
 no j hj:=by
  rcases Nat.lt_or_ge j i with h1 | h1
  ·exact h.no j h1
  ·obtain rfl:j=i:=by omega
   exact h0
 used:=by
  rw[Bool.or_eq_true,h.used]
  constructor
  ·rintro (⟨j,h1,h2'⟩ | h1)
   ·exact⟨j,by omega,h2'⟩
   ·exact⟨i,by omega,by simpa using h1⟩
  ·rintro⟨j,h1,h2'⟩
   rcases Nat.lt_or_ge j i with h3 | h3
   ·exact .inl ⟨j,h3,h2'⟩
   ·obtain rfl:j=i:=by omega
    exact .inr (by simpa using h2')
theorem TkI.take {n s i:Nat} {c:List ACell} {u:Bool} {g:Int} (h:TkI c i u) (hf:c.length≤n) (hi:i < c.length) (h0:stA c i=0) (hg:gnA c i+1=g):giveV s (padA n c)=(((i:Int),g),0,padA n (c.set i (s,g))):=by
 rw[padA_set hi]
 exact giveV_at (by rw[padA_len hf];omega) (by rw[stA_pad (by omega),if_pos hi];exact h0) (fun j hj=>by rw[stA_pad (by omega),if_pos (by omega)];exact h.no j hj) (by rw[gnA_pad (by omega),if_pos hi];exact hg)
theorem stA_snoc {c:List ACell} {j:Nat} (h:j < c.length):stA (c++[(0,0)]) j=stA c j:=by
 unfold stA
 rw[List.getD_eq_getElem?_getD,List.getD_eq_getElem?_getD,List.getElem?_append_left h]
theorem gnA_snoc {c:List ACell} {j:Nat} (h:j < c.length):gnA (c++[(0,0)]) j=gnA c j:=by
 unfold gnA
 rw[List.getD_eq_getElem?_getD,List.getD_eq_getElem?_getD,List.getElem?_append_left h]
theorem stA_last (c:List ACell):stA (c++[(0,0)]) c.length=0:=by simp[stA]
theorem gnA_last (c:List ACell):gnA (c++[(0,0)]) c.length=0:=by simp[gnA]
theorem TkI.more {c:List ACell} {u:Bool} (h:TkI c c.length u):TkI (c++[(0,0)]) c.length u where
 le:=by simp
 no j hj:=by rw[stA_snoc hj];exact h.no j hj
 used:=by
  rw[h.used]
  constructor
  ·rintro⟨j,h1,h2'⟩;exact⟨j,h1,by rw[stA_snoc h1];exact h2'⟩
  ·rintro⟨j,h1,h2'⟩;exact⟨j,h1,by rw[stA_snoc h1] at h2';exact h2'⟩
theorem RaOk.more {n:Nat} {top:Int} {c:List ACell} (h:RaOk n top c) (hn:c.length < n):RaOk n top (c++[(0,0)]) where
 fits:=by simp;omega
 few:=h.few
 top2:=h.top2
 top1:=h.top1
 gen j hj:=by
  rcases Nat.lt_or_ge j c.length with h1 | h1
  ·rw[gnA_snoc h1];exact h.gen j h1
  ·obtain rfl:j=c.length:=by simp at hj;omega
   rw[gnA_last];have:=h.top1;omega
 st j hj:=by
  rcases Nat.lt_or_ge j c.length with h1 | h1
  ·rw[stA_snoc h1];exact h.st j h1
  ·obtain rfl:j=c.length:=by simp at hj;omega
   exact .inl (stA_last c)
 free j hj h0:=by
  rcases Nat.lt_or_ge j c.length with h1 | h1
  ·rw[stA_snoc h1] at h0;rw[gnA_snoc h1];exact h.free j h1 h0
  ·obtain rfl:j=c.length:=by simp at hj;omega
   rw[gnA_last];have:=h.top1;omega
theorem TkI.none {n s:Nat} {top:Int} {c:List ACell} {u:Bool} (h:TkI c n u) (hok:RaOk n top c):giveV s (padA n c)=((0,0),if u then 6 else 7,padA n c):=by
 have hl:c.length=n:=Nat.le_antisymm hok.fits h.le
 have h0:idxS 0 (padA n c)=[]:=by
  refine List.eq_nil_iff_forall_not_mem.2 fun i hi=>?_
  obtain⟨h1,h2'⟩:=mem_idxS.1 hi
  rw[padA_len hok.fits] at h1
  rw[stA_pad h1,if_pos (by omega)] at h2'
  exact h.no i h1 h2'
 rw[giveV_none h0,idxS_pad hok.fits (by decide),idxS_pad hok.fits (by decide)]
 cases hu:u with
 | true=>
  obtain⟨j,hj,h9⟩:=h.used.1 hu
  have hst:=hok.st j (by omega)
  have hn0:=h.no j hj
  have:0 < (idxS 1 c).length+(idxS 2 c).length:=by
   rcases hst with e | e | e | e
   ·exact absurd e hn0
   ·have:=List.length_pos_of_mem (mem_idxS.2 ⟨show j < c.length by omega,e⟩);omega
   ·have:=List.length_pos_of_mem (mem_idxS.2 ⟨show j < c.length by omega,e⟩);omega
   ·exact absurd e h9
  rw[if_pos this]
  rfl
 | false=>
  have hall:∀ j,j < n→stA c j=9:=fun j hj=>Classical.byContradiction fun h9=>by
   have:=h.used.2 ⟨j,hj,h9⟩
   rw[hu] at this
   cases this
  have e1:idxS 1 c=[]:=List.eq_nil_iff_forall_not_mem.2 fun i hi=>by
   obtain⟨h1,h2'⟩:=mem_idxS.1 hi
   rw[hall i (by omega)] at h2';cases h2'
  have e2:idxS 2 c=[]:=List.eq_nil_iff_forall_not_mem.2 fun i hi=>by
   obtain⟨h1,h2'⟩:=mem_idxS.1 hi
   rw[hall i (by omega)] at h2';cases h2'
  rw[e1,e2]
  rfl
def raC2 (n:Nat) (top:Int) (A:Option Addr) (m capA:Nat) (B:Option Addr) (q capB:Nat):List Value:=[.int .i64 (n:Nat), .int .i64 top, .slice A m capA, .slice B q capB]
theorem Wr.raS {w0:World} {E n m capA q capB q' capB':Nat} {A B B':Option Addr} {top:Int} {t:TypeId} {L:List As}:Wr w0 (YtiafdlofcjbllaaGreatDoor.blk E (raC2 n top A m capA B q capB).toArray t::L) ⟨E,3,none⟩ (.slice B' q' capB') (YtiafdlofcjbllaaGreatDoor.blk E (raC2 n top A m capA B' q' capB').toArray t::L):=
 Wr.blk (k:=3) (v:= .slice B' q' capB') (cs:=(raC2 n top A m capA B q capB).toArray) (by simp[raC2])
theorem Wr.raG {w0:World} {E n m capA m' capA' q capB:Nat} {A A' B:Option Addr} {top:Int} {t:TypeId} {L:List As}:Wr w0 (YtiafdlofcjbllaaGreatDoor.blk E (raC2 n top A m capA B q capB).toArray t::L) ⟨E,2,none⟩ (.slice A' m' capA') (YtiafdlofcjbllaaGreatDoor.blk E (raC2 n top A' m' capA' B q capB).toArray t::L):=
 Wr.blk (k:=2) (v:= .slice A' m' capA') (cs:=(raC2 n top A m capA B q capB).toArray) (by simp[raC2])
theorem raRd2 {w0 w:World} {E n m capA q capB:Nat} {A B:Option Addr} {top:Int} {t:TypeId} {L:List As} (hs:St w0 (blk E (raC2 n top A m capA B q capB).toArray t::L) w):
  w.cell? ⟨E,0,none⟩=some (.int .i64 (n:Nat))∧w.cell? ⟨E,1,none⟩=some (.int .i64 top)∧w.cell? ⟨E,2,none⟩=some (.slice A m capA)∧w.cell? ⟨E,3,none⟩=some (.slice B q capB):=
 ⟨Rd.blk (by rfl) w hs,Rd.blk (by rfl) w hs,Rd.blk (by rfl) w hs,Rd.blk (by rfl) w hs⟩
theorem elem64r:ElemOk Tryz.prog 26 2 1 8:=ElemOk.of Tryz.underlying26 (z:= .int .i64 0) (by kernel_rfl) rfl (by decide)
theorem size_sl:(Tryz.prog.info? 22).map (·.size)=some 1:=by kernel_rfl
theorem size_sl64:(Tryz.prog.info? 26).map (·.size)=some 1:=by kernel_rfl
theorem stsV_app (c:List ACell):stsV c++[Value.int .i64 0]=stsV (c++[(0,0)]):=by simp[stsV]
theorem gensV_app (c:List ACell):gensV c++[Value.int .i64 0]=gensV (c++[(0,0)]):=by simp[gensV]
attribute [local irreducible] idxS addS okN memS remS errN insS delS nextS stA gnA stV atA hsV mergeA giveV delA newA bsV padA idxU
set_option maxHeartbeats 2000000 in
theorem take_r5 {w0 w:World} {L:List As} {E n s:Nat} {top:Int} {c:List ACell} (hs12:s=1∨s=2) (hs:St w0 (RaB E n top c::L) w) {v:Hdl} {x:Int} {d:List ACell} (HV:Hid (giveV s (padA n c)=(v,x,d))):
  Calls Tryz.prog 79 #[.pointer (some ⟨E,0,none⟩), .int .i64 (s:Nat)] w fun e w'=>∃ c',padA n c'=d∧e= .returned (.tuple #[hv v, .int .i64 x])∧St w0 (RaB E n top c'::L) w':=by
 obtain⟨hok,A,capA,B,capB,hs⟩:=hs.raopen
 replace hs:St w0 (blk E (raC2 n top A c.length capA B c.length capB).toArray 183::own A c.length capA 2 1 (gensV c)::own B c.length capB 3 1 (stsV c)::L) w:=hs
 have hn:=hok.few
 have hcn:=hok.fits
 go_enter Tryz.func79,Tryz.ntmps79
 go_wp2_with (first
  | (refine wpl_alloc zeroH hs ?_;clear hs;intro g4 w hs;replace hs:St w0 (blk g4 (h2 (0,0)).toArray 40::_) w:=hs))
 go_loopw [6,7] (fun uv iv wr=>∃ (i:Nat) (u:Bool),i≤n∧uv= .bool u∧iv= .int .i64 (i:Nat)∧TkI c i u∧St w0 (blk g4 (h2 (0,0)).toArray 40::blk E (raC2 n top A c.length capA B c.length capB).toArray 183::own A c.length capA 2 1 (gensV c)::own B c.length capB 3 1 (stsV c)::L) wr) (fun _ iv _=>n - (intOf iv).toNat)
 case atStart=>exact⟨0,false,Nat.zero_le _,rfl,rfl,tkI_start c,hs⟩
 case round=>
  clear hs
  obtain⟨i,u,hi,rfl,rfl,HI,hs⟩:=hrel
  obtain⟨d0,d1,d2,d3⟩:=raRd2 hs.rot
  have hna:=hs.up2.own_len
  have hnb:=hs.up3.own_len
  by_cases hlt:i < n
  ·by_cases hil:i < c.length
   ·obtain⟨gA,rfl⟩:=hs.up2.own_at (by omega)
    obtain⟨gB,rfl⟩:=hs.up3.own_at (by omega)
    by_cases h0:stA c i=0
    ·have hokc:=hok
     have hpad:padA n c=padA n c:=rfl
     have hgt:=hokc.free i hil h0
     have hgb:=hokc.gen i hil
     have htop:=hokc.top2
     obtain⟨g,hg⟩:∃ g,gnA c i=g:=⟨_,rfl⟩
     have hg0:=Lib.hid hg
     have hv0:=HI.take (s:=s) (n:=n) hokc.fits hil h0 (show gnA c i+1=g+1 by rw[hg])
     have dg:=Rd.own (gensV_get hil) _ hs.up2
     have ds:=Rd.own (stsV_get hil) _ hs.up3
     rw[hg] at dg hgt hgb
     rw[h0] at ds
     have hok':RaOk n top (c.set i (s,g+1)):=hokc.set hil (by omega) (by omega) (by omega) (fun h=>by omega)
     have HS:Hid ((stsV c).set i (.int .i64 (s:Nat))=stsV (c.set i (s,g+1))):=stsV_set
     have HG:Hid ((gensV c).set i (.int .i64 (g+1))=gensV (c.set i (s,g+1))):=gensV_set
     have HGN:Hid (gnA (c.set i (s,g+1)) i=g+1):=by rw[Hid,gnA_set hil,if_pos rfl]
     have hl1:i < (stsV c).length:=by rw[stsV_len];exact hil
     have hl2':i < (gensV c).length:=by rw[gensV_len];exact hil
     have hil':i < (c.set i (s,g+1)).length:=by rw[List.length_set];exact hil
     have HL':Hid ((c.set i (s,g+1)).length=c.length):=by rw[Hid,List.length_set]
     rw[hpad] at HV
     rw[hv0] at HV
     cases HV.out
     have hna:=hs.up2.own_len
     have hnb:=hs.up3.own_len
     generalize hce:c.set i (s,g+1)=c' at*
     have HCE:=Lib.hid hce
     clear hce
     clear hv0 h0 hg HI hokc
     go_wp2_with (first
      | (refine wpl_store (ad:=⟨gB,i,none⟩) (v:= .int .i64 (s:Nat)) rfl rfl rfl size_int3 hs.up3 (Wr.own hl1) ?_;clear hs d0 d1 d2 d3 dg ds;intro w3 hs;rw[HS.out] at hs;replace hs:=hs.dn3;obtain⟨d0,d1,d2,d3⟩:=raRd2 hs.rot;have dg:=Rd.own (gensV_get hil) _ hs.up2;rw[hg0.out] at dg)
      | (refine wpl_store (ad:=⟨gA,i,none⟩) (v:= .int .i64 (g+1)) rfl rfl rfl size_i64 hs.up2 (Wr.own hl2') ?_;clear hs d0 d1 d2 d3 dg;intro w3 hs;rw[HG.out] at hs;replace hs:=hs.dn2;obtain⟨d0,d1,d2,d3⟩:=raRd2 hs.rot;have dg:=Rd.own (gensV_get hil') _ hs.up2;rw[HGN.out] at dg)
      | (refine wpl_buildS (build_h2 _ _) rfl ?_)
      | (refine wpl_store_agg (v:=hv ((i:Int),g+1)) rfl rfl (sizeHd _) hs WrA.slotH ?_;clear hs;intro w4 hs))
     refine bodyPost_at (results_cell_tmp Tryz.results79 rfl (hs.slot_run aggH (sizeHd _))) rfl ?_
     exact⟨c',by first | rfl | rw[HCE.out],rfl,hs.drop.rashut hok' (by first | exact HL'.out | exact HL'.out.trans HLC.out)⟩
    ·have ds:=Rd.own (stsV_get hil) _ hs.up3
     have HI2:=HI.next hil h0
     obtain⟨q,hq⟩:∃ q,stA c i=q:=⟨_,rfl⟩
     rw[hq] at ds h0 HI2
     have e0:((q:Int)==0)=false:=by simp;omega
     clear HI hq HV
     cases u with
     | true=>
      go_wp2
      go_roundw
      case rel=>first | exact⟨i+1,true,by omega,rfl,by go_num,HI2,hs⟩ | ((repeat apply Exists.intro);refine⟨?_,rfl⟩;exact⟨i+1,true,by omega,rfl,by go_num,HI2,hs⟩)
      case measure=>simp[intOf] <;> omega
     | false=>
      by_cases h9:q=9
      ·subst h9
       go_wp2
       go_roundw
       case rel=>first | exact⟨i+1,false,by omega,rfl,by go_num,HI2,hs⟩ | ((repeat apply Exists.intro);refine⟨?_,rfl⟩;exact⟨i+1,false,by omega,rfl,by go_num,HI2,hs⟩)
       case measure=>simp[intOf] <;> omega
      ·have e9:((q:Int) !=9)=true:=by simp;omega
       have HI3:TkI c (i+1) true:=by simpa [h9] using HI2
       clear HI2
       go_wp2
       go_roundw
       case rel=>first | exact⟨i+1,true,by omega,by first | rfl | rw[e9],by go_num,HI3,hs⟩ | ((repeat apply Exists.intro);refine⟨?_,rfl⟩;exact⟨i+1,true,by omega,by first | rfl | rw[e9],by go_num,HI3,hs⟩)
       case measure=>simp[intOf] <;> omega
   ·obtain rfl:i=c.length:=Nat.le_antisymm HI.le (by omega)
    have HX1:Hid (stsV c++[Value.int .i64 0]=stsV (c++[(0,0)])):=stsV_app c
    have HX2:Hid (gensV c++[Value.int .i64 0]=gensV (c++[(0,0)])):=gensV_app c
    go_upto_region 8 with (first
     | (refine wpl_build1 (v:= .int .i64 0) elem24 (by decide) rfl rfl hs ?_;clear hs d0 d1 d3;intro gb w2 hs;replace hs:St w0 (blk gb #[.int .i64 0] 3::_) w2:=hs)
     | (refine wpl_append (B:=some ⟨gb,0,none⟩) (m:=1) (news:=[.int .i64 0]) elem24 rfl rfl hs (Ent.skip (Ent.skip (Ent.skip (Ent.skip (Ent.refl _))))) RdS.blk rfl (ints_one _) (by unfold maxLen;omega) (by omega) ?_;clear hs d2;intro B' capB' w3 hs;rw[HX1.out] at hs;replace hs:=hs.rot.drop;obtain⟨d0,d1,d2,d3⟩:=raRd2 hs.up2)
     | (refine wpl_store (ad:=⟨E,3,none⟩) (v:= .slice B' (c.length+1) capB') rfl rfl rfl size_sl hs.up2 Wr.raS ?_;clear hs d0 d1 d2 d3;intro w3 hs;obtain⟨d0,d1,d2,d3⟩:=raRd2 hs)
     | (refine wpl_build1 (v:= .int .i64 0) elem64r (by decide) rfl rfl hs ?_;clear hs d0 d1 d2;intro gb2 w2 hs;replace hs:St w0 (blk gb2 #[.int .i64 0] 2::_) w2:=hs)
     | (refine wpl_append (B:=some ⟨gb2,0,none⟩) (m:=1) (news:=[.int .i64 0]) elem64r rfl rfl hs (Ent.skip (Ent.skip (Ent.skip (Ent.skip (Ent.refl _))))) RdS.blk rfl (ints_one _) (by unfold maxLen;omega) (by omega) ?_;clear hs d3;intro A' capA' w3 hs;rw[HX2.out] at hs;replace hs:=hs.rot.drop;obtain⟨d0,d1,d2,d3⟩:=raRd2 hs.rot)
     | (refine wpl_store (ad:=⟨E,2,none⟩) (v:= .slice A' (c.length+1) capA') rfl rfl rfl size_sl64 hs.rot Wr.raG ?_;clear hs d0 d1 d2 d3;intro w3 hs;obtain⟨d0,d1,d2,d3⟩:=raRd2 hs))
    have hokc:=hok.more hlt
    have hpad:=(padA_more hlt).symm
    have h0:=stA_last c
    have HIm:=HI.more
    have hil2:c.length < (c++[(0,0)]).length:=by simp
    have HLC:Hid ((c++[(0,0)]).length=c.length+1):=by simp[Hid]
    clear HI HX1 HX2 hil hok hna hnb
    generalize c++[(0,0)]=c1 at*
    generalize c.length=i at*
    replace hs:=hs.up3
    obtain⟨gA,rfl⟩:=hs.up2.own_at (by omega)
    obtain⟨gB,rfl⟩:=hs.up3.own_at (by omega)
    have HI:=HIm
    have hil:=hil2
    clear HIm hil2
    have hgt:=hokc.free i hil h0
    have hgb:=hokc.gen i hil
    have htop:=hokc.top2
    obtain⟨g,hg⟩:∃ g,gnA c1 i=g:=⟨_,rfl⟩
    have hg0:=Lib.hid hg
    have hv0:=HI.take (s:=s) (n:=n) hokc.fits hil h0 (show gnA c1 i+1=g+1 by rw[hg])
    have dg:=Rd.own (gensV_get hil) _ hs.up2
    have ds:=Rd.own (stsV_get hil) _ hs.up3
    rw[hg] at dg hgt hgb
    rw[h0] at ds
    have hok':RaOk n top (c1.set i (s,g+1)):=hokc.set hil (by omega) (by omega) (by omega) (fun h=>by omega)
    have HS:Hid ((stsV c1).set i (.int .i64 (s:Nat))=stsV (c1.set i (s,g+1))):=stsV_set
    have HG:Hid ((gensV c1).set i (.int .i64 (g+1))=gensV (c1.set i (s,g+1))):=gensV_set
    have HGN:Hid (gnA (c1.set i (s,g+1)) i=g+1):=by rw[Hid,gnA_set hil,if_pos rfl]
    have hl1:i < (stsV c1).length:=by rw[stsV_len];exact hil
    have hl2':i < (gensV c1).length:=by rw[gensV_len];exact hil
    have hil':i < (c1.set i (s,g+1)).length:=by rw[List.length_set];exact hil
    have HL':Hid ((c1.set i (s,g+1)).length=c1.length):=by rw[Hid,List.length_set]
    rw[hpad] at HV
    rw[hv0] at HV
    cases HV.out
    have hna:=hs.up2.own_len
    have hnb:=hs.up3.own_len
    generalize hce:c1.set i (s,g+1)=c' at*
    have HCE:=Lib.hid hce
    clear hce
    clear hv0 h0 hg HI hokc
    go_wp2_with (first
     | (refine wpl_store (ad:=⟨gB,i,none⟩) (v:= .int .i64 (s:Nat)) rfl rfl rfl size_int3 hs.up3 (Wr.own hl1) ?_;clear hs d0 d1 d2 d3 dg ds;intro w3 hs;rw[HS.out] at hs;replace hs:=hs.dn3;obtain⟨d0,d1,d2,d3⟩:=raRd2 hs.rot;have dg:=Rd.own (gensV_get hil) _ hs.up2;rw[hg0.out] at dg)
     | (refine wpl_store (ad:=⟨gA,i,none⟩) (v:= .int .i64 (g+1)) rfl rfl rfl size_i64 hs.up2 (Wr.own hl2') ?_;clear hs d0 d1 d2 d3 dg;intro w3 hs;rw[HG.out] at hs;replace hs:=hs.dn2;obtain⟨d0,d1,d2,d3⟩:=raRd2 hs.rot;have dg:=Rd.own (gensV_get hil') _ hs.up2;rw[HGN.out] at dg)
     | (refine wpl_buildS (build_h2 _ _) rfl ?_)
     | (refine wpl_store_agg (v:=hv ((i:Int),g+1)) rfl rfl (sizeHd _) hs WrA.slotH ?_;clear hs;intro w4 hs))
    refine bodyPost_at (results_cell_tmp Tryz.results79 rfl (hs.slot_run aggH (sizeHd _))) rfl ?_
    exact⟨c',by first | rfl | rw[HCE.out],rfl,hs.drop.rashut hok' (by first | exact HL'.out | exact HL'.out.trans HLC.out)⟩
  ·obtain rfl:i=n:=by omega
   have hv0:=HI.none (s:=s) hok
   rw[hv0] at HV
   cases u with
   | true=>
    cases HV.out
    clear HV hv0 HI
    go_wp2_with (first
     | (refine wpl_buildS (parts:=[]) build_h0 rfl ?_)
     | (refine wpl_store_agg (v:=hv (0,0)) rfl rfl (sizeHd _) hs WrA.slotH ?_;clear hs;intro w4 hs))
    refine bodyPost_at (results_cell_tmp Tryz.results79 rfl (hs.slot_run aggH (sizeHd _))) rfl ?_
    exact⟨c,rfl,rfl,hs.drop.rashut hok rfl⟩
   | false=>
    cases HV.out
    clear HV hv0 HI
    go_wp2_with (first
     | (refine wpl_buildS (parts:=[]) build_h0 rfl ?_)
     | (refine wpl_store_agg (v:=hv (0,0)) rfl rfl (sizeHd _) hs WrA.slotH ?_;clear hs;intro w4 hs))
    refine bodyPost_at (results_cell_tmp Tryz.results79 rfl (hs.slot_run aggH (sizeHd _))) rfl ?_
    exact⟨c,rfl,rfl,hs.drop.rashut hok rfl⟩
set_option maxHeartbeats 1000000 in
theorem create_r {w0 w:World} {L:List As} {E n:Nat} {top:Int} {c:List ACell} (hs:St w0 (RaB E n top c::L) w) {v:Hdl} {x:Int} {d:List ACell} (HV:Hid (giveV 1 (padA n c)=(v,x,d))):
  Calls Tryz.prog 78 #[.pointer (some ⟨E,0,none⟩)] w fun e w'=>∃ c',padA n c'=d∧e= .returned (.tuple #[hv v, .int .i64 x])∧St w0 (RaB E n top c'::L) w':=by
 go_enter Tryz.func78,Tryz.ntmps78
 go_wp2_with (first
  | (refine wpl_alloc zeroH hs ?_;clear hs;intro g4 w hs;replace hs:St w0 (blk g4 (h2 (0,0)).toArray 40::_) w:=hs)
  | (go_at_call 79;refine (take_r5 (s:=1) (by decide) hs.rot HV).mono ?_;clear hs;rintro e w' ⟨c',hp,rfl,hs⟩;replace hs:=hs.rot)
  | (refine wpl_store_agg (v:=hv v) rfl rfl (sizeHd _) hs WrA.slotH ?_;clear hs;intro w3 hs))
 refine bodyPost_at (results_cell_tmp Tryz.results78 rfl (hs.slot_run aggH (sizeHd _))) rfl ?_
 exact⟨c',hp,rfl,hs.drop⟩
set_option maxHeartbeats 1000000 in
theorem raise_r {w0 w:World} {L:List As} {E n:Nat} {top:Int} {c:List ACell} (hs:St w0 (RaB E n top c::L) w) {v:Hdl} {x:Int} {d:List ACell} (HV:Hid (giveV 2 (padA n c)=(v,x,d))):
  Calls Tryz.prog 22 #[.pointer (some ⟨E,0,none⟩)] w fun e w'=>∃ c',padA n c'=d∧e= .returned (.tuple #[hv v, .int .i64 x])∧St w0 (RaB E n top c'::L) w':=by
 go_enter Tryz.func22,Tryz.ntmps22
 go_wp2_with (first
  | (refine wpl_alloc zeroH hs ?_;clear hs;intro g4 w hs;replace hs:St w0 (blk g4 (h2 (0,0)).toArray 40::_) w:=hs)
  | (go_at_call 79;refine (take_r5 (s:=2) (by decide) hs.rot HV).mono ?_;clear hs;rintro e w' ⟨c',hp,rfl,hs⟩;replace hs:=hs.rot)
  | (refine wpl_store_agg (v:=hv v) rfl rfl (sizeHd _) hs WrA.slotH ?_;clear hs;intro w3 hs))
 refine bodyPost_at (results_cell_tmp Tryz.results22 rfl (hs.slot_run aggH (sizeHd _))) rfl ?_
 exact⟨c',hp,rfl,hs.drop⟩
end
section
open Go Go.RowKit
attribute [local irreducible] wpList Calls Code.wp
attribute [local irreducible] idxS addS okN memS remS errN insS delS nextS stA gnA stV atA hsV mergeA giveV delA newA bsV padA idxU listS
end
section
open Go Go.RowKit
attribute [local irreducible] wpList Calls Code.wp
theorem build_ra (n top:Int) (w:World):(Instr.build 183 #[(0, .int .i64 n),(1, .int .i64 top)]).run Tryz.prog w= .ok (.agg #[.int .i64 n, .int .i64 top, .slice none 0 0, .slice none 0 0]) w:=by kernel_rfl
theorem raOk_nil {n:Nat} {top:Int} (h1:n≤65536) (h2':1≤top) (h3:top≤4294967295):RaOk n top []:=⟨Nat.zero_le _,h1,h3,fun i hi=>absurd hi (Nat.not_lt_zero i),fun i hi=>absurd hi (Nat.not_lt_zero i),fun i hi=>absurd hi (Nat.not_lt_zero i),h2'⟩
theorem rnew_c {w0 w:World} {L:List As} (hs:St w0 L w) {n:Nat} {top:Int} (h1:n≤65536) (h2':1≤top) (h3:top≤4294967295):
  Calls Tryz.prog 75 #[.int .i64 (n:Nat), .int .i64 top] w fun e w'=>∃ E,e= .returned (.pointer (some ⟨E,0,none⟩))∧St w0 (RaB E n top []::L) w':=by
 have hok:=raOk_nil h1 h2' h3
 go_enter Tryz.func75,Tryz.ntmps75
 go_wp2_with (first
  | (refine wpl_buildS (build_ra _ _) rfl ?_)
  | (refine wpl_box_v (v:= .agg (raC n top none 0 0 none 0).toArray) rfl hs ?_;clear hs;intro E w1 hs))
 go_ret
 refine⟨E,rfl,?_⟩
 have hs2:=((hs.own_nil 3 1).own_nil 2 1).up2
 exact St.rashut (A:=none) (B:=none) (capA:=0) (capB:=0) hok rfl hs2
attribute [local irreducible] idxS addS okN memS remS errN insS delS nextS stA gnA stV atA hsV mergeA giveV delA newA bsV padA idxU listS allH
end
end Go.Proofs.YtiafdlofcjbllaaGreatDoor
