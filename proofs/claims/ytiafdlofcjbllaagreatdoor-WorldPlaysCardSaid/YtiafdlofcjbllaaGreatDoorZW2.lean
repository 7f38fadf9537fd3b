/-
  Contracts of lazy.Queue (New, Len, Add, Drain, All) and of slices.Clone over Ops.
-/
import Derived.Test.YtiafdlofcjbllaaGreatDoorZW1
set_option maxRecDepth 100000
namespace Go.Proofs.YtiafdlofcjbllaaGreatDoor
section
open Go Go.RowKit
attribute [local irreducible] wpList Calls Code.wp
theorem elemW:ElemOk Tryz.prog 57 99 7 56:=ElemOk.of Tryz.underlying57 (z:=valW ⟨0,(0,0),0,V3.z⟩) (by kernel_rfl) rfl (by decide)
theorem sizeSW:(Tryz.prog.info? 57).map (·.size)=some 1:=by kernel_rfl
theorem St.own_no {w0 w:World} {A:Option Addr} {n cap:Nat} {e:TypeId} {size:Nat} {xs:List Value} {L:List As} (hs:St w0 (own A n cap e size xs::L) w):A=none→n=0∧cap=0:=
 hs.fact fun _ h hA=>by
  rcases h.2 with ⟨_,h0,h1,_⟩ | ⟨g,cur,hB,_⟩
  ·exact⟨h0,h1⟩
  ·rw[hA] at hB;cases hB
theorem Wr.qu {w0:World} {L:List As} {Q:Nat} {t:TypeId} {u v:Value}:Wr w0 (YtiafdlofcjbllaaGreatDoor.blk Q #[u] t::L) ⟨Q,0,none⟩ v (YtiafdlofcjbllaaGreatDoor.blk Q #[v] t::L):=Wr.blk (by simp)
theorem c7_one (l:List OpW):∀ u∈l.flatMap c7w,u.oneCell'=true:=by
 intro u hu
 obtain⟨o,_,h⟩:=List.mem_flatMap.1 hu
 simp only[c7w,List.mem_cons,List.not_mem_nil,or_false] at h
 rcases h with rfl | rfl | rfl | rfl | rfl | rfl | rfl <;> rfl
theorem c7_len (l:List OpW):(l.flatMap c7w).length=l.length*7:=flat_len c7len l
def QuB (Q:Nat) (l:List OpW):As:=fun h=>∃ (A:Option Addr) (cap:Nat),big [blk Q #[.slice A l.length cap] 199,own A l.length cap 99 7 (l.flatMap c7w)] h
section
variable {w0 w:World} {L:List As} {Q:Nat} {l:List OpW}
theorem St.quopen (hs:St w0 (QuB Q l::L) w):∃ (A:Option Addr) (cap:Nat),St w0 (YtiafdlofcjbllaaGreatDoor.blk Q #[.slice A l.length cap] 199::YtiafdlofcjbllaaGreatDoor.own A l.length cap 99 7 (l.flatMap c7w)::L) w:=by
 obtain⟨hb,x,r,hd,hx,y,z,hyz,e,⟨A,cap,hh⟩,hz⟩:=hs
 refine⟨A,cap,?_⟩
 have h1:St w0 (big [YtiafdlofcjbllaaGreatDoor.blk Q #[.slice A l.length cap] 199,YtiafdlofcjbllaaGreatDoor.own A l.length cap 99 7 (l.flatMap c7w)]::L) w:=⟨hb,x,r,hd,hx,y,z,hyz,e,hh,hz⟩
 exact h1.ent (Ent.flat _ L)
theorem St.qushut {n:Nat} {A:Option Addr} {cap:Nat} (hn:l.length=n) (hs:St w0 (YtiafdlofcjbllaaGreatDoor.blk Q #[.slice A n cap] 199::YtiafdlofcjbllaaGreatDoor.own A n cap 99 7 (l.flatMap c7w)::L) w):St w0 (QuB Q l::L) w:=by
 subst hn
 exact (hs.ent (Ent.unflat [_,_] L)).conv fun _ h=>⟨A,cap,h⟩
end
theorem qnew_c {w0 w:World} {L:List As} (hs:St w0 L w):Calls Tryz.prog 101 #[] w fun e w'=>∃ Q,e= .returned (.pointer (some ⟨Q,0,none⟩))∧St w0 (QuB Q []::L) w':=by
 have hs:=hs.own_nil 99 7
 go_enter Tryz.func101,Tryz.ntmps101
 go_wp2_with (first
  | (refine wpl_box_v (v:= .agg #[.slice none 0 0]) rfl hs ?_;clear hs;intro g1 w1 hs))
 go_ret
 exact⟨g1,rfl,St.qushut rfl hs⟩
theorem eqlW_nil (w:World):(binOp .eql 57 (.slice none 0 0) (.slice none 0 0)).run Tryz.prog w= .ok (.bool true) w:=by kernel_rfl
theorem eqlW_some (a:Addr) (n cap:Nat) (w:World):(binOp .eql 57 (.slice (some a) n cap) (.slice none 0 0)).run Tryz.prog w= .ok (.bool false) w:=by kernel_rfl
theorem cloneW_c {w0 w:World} {L:List As} {A:Option Addr} {n cap:Nat} {l:List OpW} (hA:A=none→n=0∧cap=0) (hn:l.length=n) (hm:n≤1000000) (hs:St w0 L w) (hr:RdS w0 L A (l.flatMap c7w)):
  Calls Tryz.prog 157 #[.slice A n cap] w fun e w'=>∃ B cap',e= .returned (.slice B n cap')∧St w0 (own B n cap' 99 7 (l.flatMap c7w)::L) w':=by
 have HN:=Lib.hid hn
 clear hn
 cases A with
 | none=>
  obtain⟨rfl,rfl⟩:=hA rfl
  have he:=eqlW_nil
  have hl:l=[]:=List.eq_nil_of_length_eq_zero HN.out
  subst hl
  have hs2:=Lib.hid (hs.own_nil 99 7)
  clear hA hr
  go_enter Tryz.func157,Tryz.ntmps157
  go_wp2
  go_ret
  exact⟨none,0,rfl,hs2.out⟩
 | some a=>
  have he:=eqlW_some a n cap
  clear hA
  go_enter Tryz.func157,Tryz.ntmps157
  go_wp2_with (first
   | (refine wpl_build_none elemW hs ?_;clear hs;intro B w hs)
   | (refine wpl_append (n:=0) (m:=n) (news:=l.flatMap c7w) elemW rfl rfl hs (Ent.refl _) hr.tail (by rw[c7_len,HN.out]) (c7_one _) (by unfold maxLen;omega) (by omega) ?_;clear hs;intro B2 cap2 w hs))
  go_ret
  rw[Nat.zero_add,List.nil_append] at hs
  exact⟨B2,cap2,by first | rfl | (rw[Nat.zero_add];rfl),hs⟩
def quE (l q:List OpW):Int:=if l.any (fun o=>!o.ok) then 1 else if 10000 < q.length+l.length then 2 else 0
theorem qadd_c {w0 w:World} {L:List As} {Q:Nat} {q l:List OpW} {D:Option Addr} {cap:Nat} (hq:q.length≤10000) (hl:l.length≤1000000) (hs:St w0 (QuB Q q::L) w) (hr:RdS w0 L D (l.flatMap c7w)):
  Calls Tryz.prog 110 #[.pointer (some ⟨Q,0,none⟩), .slice D l.length cap] w fun e w'=>e= .returned (.int .i64 (quE l q))∧St w0 (QuB Q (if quE l q=0 then q++l else q)::L) w':=by
 have hr2:RdS w0 (QuB Q q::L) D (l.flatMap c7w):=hr.tail
 have HB:=Lib.hid (containsA_c (cap:=cap) (by omega) hs hr2)
 by_cases h1:l.any (fun o=>!o.ok)=true
 ·have e:quE l q=1:=by unfold quE;rw[if_pos h1]
  rw[h1] at HB
  rw[e,if_neg (by decide)]
  generalize l.length=n at HB ⊢
  clear h1 e hr hr2
  go_enter Tryz.func110,Tryz.ntmps110
  go_wp2_with (first
   | (go_at_call 106;refine HB.out.mono ?_;rintro r w' ⟨rfl,hg⟩))
  go_ret
  exact⟨rfl,hs.grew hg⟩
 replace h1:l.any (fun o=>!o.ok)=false:=by simpa using h1
 rw[h1] at HB
 obtain⟨n,hn⟩:∃ n,Hid (l.length=n):=⟨_,rfl⟩
 obtain⟨m,hm⟩:∃ m,Hid (q.length=m):=⟨_,rfl⟩
 by_cases h2:10000 < q.length+l.length
 ·have e:quE l q=2:=by unfold quE;rw[h1,if_pos h2];rfl
  rw[e,if_neg (by decide)]
  have d:decide ((n:Int) > 10000 - (m:Int))=true:=decide_eq_true (by rw[hn.out,hm.out] at h2;omega)
  have hw:m≤10000:=hm.out ▸ hq
  obtain⟨A,c,hs3⟩:=hs.quopen
  clear hs3
  rw[hn.out] at HB ⊢
  clear h1 e hr hr2 h2 hq hl
  go_enter Tryz.func110,Tryz.ntmps110
  go_wp2_with (first
   | (go_at_call 106;refine HB.out.mono ?_;rintro r w' ⟨rfl,hg⟩;have hs2:=hs.grew hg;obtain⟨A,c,hs3⟩:=hs2.quopen;rw[hm.out] at hs3;have c0:=Rd.blk (w0:=w0) (g:=Q) (k:=0) (cs:=#[.slice A m c]) (t:=199) (v:= .slice A m c) rfl _ hs3))
  go_ret
  exact⟨rfl,hs2⟩
 ·have e:quE l q=0:=by unfold quE;rw[h1,if_neg h2];rfl
  rw[e,if_pos rfl]
  have d:decide ((n:Int) > 10000 - (m:Int))=false:=decide_eq_false (by rw[hn.out,hm.out] at h2;omega)
  have hw:m≤10000:=hm.out ▸ hq
  have hw2:n≤1000000:=hn.out ▸ hl
  have hln:(l.flatMap c7w).length=n*7:=by rw[c7_len,hn.out]
  have hone:=Lib.hid (c7_one l)
  rw[hn.out] at HB ⊢
  clear h1 e hr2 h2 hq hl
  go_enter Tryz.func110,Tryz.ntmps110
  go_wp2_with (first
   | (go_at_call 106;refine HB.out.mono ?_;rintro r w' ⟨rfl,hg⟩;have hs2:=hs.grew hg;obtain⟨A,c,hs3⟩:=hs2.quopen;rw[hm.out] at hs3;have c0:=Rd.blk (w0:=w0) (g:=Q) (k:=0) (cs:=#[.slice A m c]) (t:=199) (v:= .slice A m c) rfl _ hs3;clear hs hs2)
   | (refine wpl_append (n:=m) (m:=n) (news:=l.flatMap c7w) (xs:=q.flatMap c7w) elemW rfl rfl hs3 (Ent.swap _ _ _) hr.tail.tail hln hone.out (by unfold maxLen;omega) (by omega) ?_;clear hs3 c0;intro B2 cap2 w hs)
   | (refine wpl_store (v:= .slice B2 (m+n) cap2) rfl rfl rfl sizeSW hs.rot Wr.qu ?_;clear hs;intro w hs))
  go_ret
  refine⟨rfl,St.qushut (n:=m+n) (A:=B2) (cap:=cap2) (by rw[List.length_append,hn.out,hm.out]) ?_⟩
  rw[List.flatMap_append]
  exact hs
theorem qdrain_c {w0 w:World} {L:List As} {Q:Nat} {q:List OpW} (hs:St w0 (QuB Q q::L) w):
  Calls Tryz.prog 111 #[.pointer (some ⟨Q,0,none⟩)] w fun e w'=>∃ A cap,e= .returned (.slice A q.length cap)∧St w0 (QuB Q []::own A q.length cap 99 7 (q.flatMap c7w)::L) w':=by
 obtain⟨A,cap,hs⟩:=hs.quopen
 have c0:=Rd.blk (w0:=w0) (g:=Q) (k:=0) (cs:=#[.slice A q.length cap]) (t:=199) (v:= .slice A q.length cap) rfl _ hs
 obtain⟨n,hn⟩:∃ n,Hid (q.length=n):=⟨_,rfl⟩
 rw[hn.out] at c0 hs ⊢
 go_enter Tryz.func111,Tryz.ntmps111
 go_wp2_with (first
  | (refine wpl_store (v:= .slice none 0 0) rfl rfl rfl sizeSW hs Wr.qu ?_;clear hs c0;intro w hs))
 go_ret
 exact⟨A,cap,rfl,St.qushut rfl ((hs.ent (Ent.swap _ _ _)).own_nil 99 7 |>.pm)⟩
end
section
open Go Go.RowKit
attribute [local irreducible] wpList Calls Code.wp
def ReB (R:Nat) (l:List Int):As:=fun h=>∃ (A:Option Addr) (cap:Nat),big [blk R #[.slice A l.length cap] 192,own A l.length cap 2 1 (i8v l)] h
section
variable {w0 w:World} {L:List As} {R:Nat} {l:List Int}
theorem St.reopen (hs:St w0 (ReB R l::L) w):∃ (A:Option Addr) (cap:Nat),St w0 (YtiafdlofcjbllaaGreatDoor.blk R #[.slice A l.length cap] 192::YtiafdlofcjbllaaGreatDoor.own A l.length cap 2 1 (i8v l)::L) w:=by
 obtain⟨hb,x,r,hd,hx,y,z,hyz,e,⟨A,cap,hh⟩,hz⟩:=hs
 refine⟨A,cap,?_⟩
 have h1:St w0 (big [YtiafdlofcjbllaaGreatDoor.blk R #[.slice A l.length cap] 192,YtiafdlofcjbllaaGreatDoor.own A l.length cap 2 1 (i8v l)]::L) w:=⟨hb,x,r,hd,hx,y,z,hyz,e,hh,hz⟩
 exact h1.ent (Ent.flat _ L)
theorem St.reshut {n:Nat} {A:Option Addr} {cap:Nat} (hn:l.length=n) (hs:St w0 (YtiafdlofcjbllaaGreatDoor.blk R #[.slice A n cap] 192::YtiafdlofcjbllaaGreatDoor.own A n cap 2 1 (i8v l)::L) w):St w0 (ReB R l::L) w:=by
 subst hn
 exact (hs.ent (Ent.unflat [_,_] L)).conv fun _ h=>⟨A,cap,h⟩
end
theorem eql8_nil (w:World):(binOp .eql 26 (.slice none 0 0) (.slice none 0 0)).run Tryz.prog w= .ok (.bool true) w:=by kernel_rfl
theorem eql8_some (a:Addr) (n cap:Nat) (w:World):(binOp .eql 26 (.slice (some a) n cap) (.slice none 0 0)).run Tryz.prog w= .ok (.bool false) w:=by kernel_rfl
theorem clone8_c {w0 w:World} {L:List As} {A:Option Addr} {n cap:Nat} {l:List Int} (hA:A=none→n=0∧cap=0) (hn:l.length=n) (hm:n≤1000000) (hs:St w0 L w) (hr:RdS w0 L A (i8v l)):
  Calls Tryz.prog 145 #[.slice A n cap] w fun e w'=>∃ B cap',e= .returned (.slice B n cap')∧St w0 (own B n cap' 2 1 (i8v l)::L) w':=by
 have HN:=Lib.hid hn
 clear hn
 cases A with
 | none=>
  obtain⟨rfl,rfl⟩:=hA rfl
  have he:=eql8_nil
  have hl:l=[]:=List.eq_nil_of_length_eq_zero HN.out
  subst hl
  have hs2:=Lib.hid (hs.own_nil 2 1)
  clear hA hr
  go_enter Tryz.func145,Tryz.ntmps145
  go_wp2
  go_ret
  exact⟨none,0,rfl,hs2.out⟩
 | some a=>
  have he:=eql8_some a n cap
  clear hA
  go_enter Tryz.func145,Tryz.ntmps145
  go_wp2_with (first
   | (refine wpl_build_none elem8 hs ?_;clear hs;intro B w hs)
   | (refine wpl_append (n:=0) (m:=n) (news:=i8v l) elem8 rfl rfl hs (Ent.refl _) hr.tail (by rw[i8v_len,HN.out,Nat.mul_one]) (i8v_one _) (by unfold maxLen;omega) (by omega) ?_;clear hs;intro B2 cap2 w hs))
  go_ret
  rw[Nat.zero_add,List.nil_append] at hs
  exact⟨B2,cap2,by first | rfl | (rw[Nat.zero_add];rfl),hs⟩
theorem reall_c {w0 w:World} {L:List As} {R:Nat} {l:List Int} (hl:l.length≤32) (hs:St w0 (ReB R l::L) w):
  Calls Tryz.prog 125 #[.pointer (some ⟨R,0,none⟩)] w fun e w'=>∃ A cap,e= .returned (.slice A l.length cap)∧St w0 (own A l.length cap 2 1 (i8v l)::ReB R l::L) w':=by
 obtain⟨A,cap,hs⟩:=hs.reopen
 have c0:=Rd.blk (w0:=w0) (g:=R) (k:=0) (cs:=#[.slice A l.length cap]) (t:=192) (v:= .slice A l.length cap) rfl _ hs
 have HB:=Lib.hid (clone8_c (l:=l) hs.drop.own_no rfl (by omega) hs (RdS.own hs.drop).tail)
 obtain⟨n,hn⟩:∃ n,Hid (l.length=n):=⟨_,rfl⟩
 rw[hn.out] at HB c0 hs ⊢
 go_enter Tryz.func125,Tryz.ntmps125
 go_wp2_with (first
  | (go_at_call 145;refine HB.out.mono ?_;clear hs c0;rintro r w ⟨B,cB,rfl,hs⟩))
 go_ret
 have hs2:=hs.ent (M:=_::_::_::L) ((Ent.swap _ _ _).trans ((Ent.cons _ (Ent.swap _ _ _))))
 exact⟨B,cB,rfl,(St.reshut hn.out hs2).rot⟩
theorem renew_c {w0 w:World} {L:List As} {B:Option Addr} {k cB:Nat} {rs:List Int} (hs:St w0 L w) (hB:B=none→k=0∧cB=0) (hk:Hid (rs.length=k)) (hk2:k≤32) (hkc:k≤cB) (hrs:RdS w0 L B (i8v rs)):
  Calls Tryz.prog 100 #[.slice B k cB] w fun e w'=>∃ R,e= .returned (.pointer (some ⟨R,0,none⟩))∧St w0 (ReB R rs::L) w':=by
 have hmin:min (k:Int) 32=(k:Int):=by omega
 have hk3:(k:Int)≤32:=by omega
 have HB:=Lib.hid (clone8_c (l:=rs) (cap:=cB) hB hk.out (by omega) hs hrs)
 clear hrs hB
 go_enter Tryz.func100,Tryz.ntmps100
 go_wp2_with (first
  | (go_at_call 145;refine HB.out.mono ?_;clear hs;rintro r w ⟨A,cA,rfl,hs⟩)
  | (refine wpl_box_v (v:= .agg #[.slice A k cA]) rfl hs ?_;clear hs;intro g1 w hs))
 go_ret
 exact⟨g1,rfl,St.reshut hk.out hs⟩
end
section
open Go Go.RowKit
attribute [local irreducible] wpList Calls Code.wp
def woC (E X Q:Nat) (held:Bool) (n:Nat) (top:Int):Array Value:=#[.pointer (some ⟨E,0,none⟩), .pointer (some ⟨X,0,none⟩), .pointer (some ⟨Q,0,none⟩), .bool held, .int .i64 (n:Nat), .int .i64 top]
def WoB (W E A R X Q n:Nat) (s:WoS):As:=star (blk W (woC E X Q s.held n s.e.top) 132) (star (EnB E A R s.e) (star (ReB X s.r) (QuB Q s.q)))
section
variable {w0 w:World} {L:List As} {W E A R X Q n:Nat} {s:WoS}
theorem St.woopen (hs:St w0 (WoB W E A R X Q n s::L) w):St w0 (YtiafdlofcjbllaaGreatDoor.blk W (woC E X Q s.held n s.e.top) 132::EnB E A R s.e::ReB X s.r::QuB Q s.q::L) w:=
 hs.ent ((Ent.open2 fun _ h=>h).trans (Ent.cons _ ((Ent.open2 fun _ h=>h).trans (Ent.cons _ (Ent.open2 fun _ h=>h)))))
theorem St.woshut (hs:St w0 (YtiafdlofcjbllaaGreatDoor.blk W (woC E X Q s.held n s.e.top) 132::EnB E A R s.e::ReB X s.r::QuB Q s.q::L) w):St w0 (WoB W E A R X Q n s::L) w:=
 hs.ent ((Ent.cons _ ((Ent.cons _ (Ent.shut2 fun _ h=>h)).trans (Ent.shut2 fun _ h=>h))).trans (Ent.shut2 fun _ h=>h))
theorem wofree_c (hs:St w0 (WoB W E A R X Q n s::L) w):Calls Tryz.prog 104 #[.pointer (some ⟨W,0,none⟩)] w fun e w'=>e= .returned (.int .i64 s.free)∧Grew w w':=by
 have hs:=hs.woopen
 obtain⟨b,hb⟩:∃ b,Hid (s.held=b):=⟨_,rfl⟩
 have e:s.free=if b then 13 else 0:=by unfold WoS.free;rw[hb.out]
 rw[e]
 have c3:=Rd.blk (w0:=w0) (g:=W) (k:=3) (cs:=woC E X Q s.held n s.e.top) (t:=132) (v:= .bool s.held) rfl _ hs
 rw[hb.out] at c3
 clear hs e hb
 cases b
 ·go_enter Tryz.func104,Tryz.ntmps104
  go_wp2
  go_ret
  exact⟨rfl,Grew.refl _⟩
 ·go_enter Tryz.func104,Tryz.ntmps104
  go_wp2
  go_ret
  exact⟨rfl,Grew.refl _⟩
end
attribute [local irreducible] stV EnS.live
set_option maxHeartbeats 1000000 in
theorem womay_c {w0 w:World} {L:List As} {W E A R X Q n:Nat} {s:WoS} (hs:St w0 (WoB W E A R X Q n s::L) w) {h:Hdl} {e:Int} (he:Hid (s.may h=e)):
  Calls Tryz.prog 116 #[.pointer (some ⟨W,0,none⟩),hv h] w fun r w'=>r= .returned (.int .i64 e)∧Grew w w':=by
 obtain⟨i,g⟩:=h
 obtain⟨f,hf⟩:∃ f,Hid (s.free=f):=⟨_,rfl⟩
 rcases stV_cases s.e.cs (i,g) with h1 | h1 | h1
 ·obtain rfl:e=4:=by rw[← he.out];unfold WoS.may;rw[if_pos h1]
  have HS:=Lib.hid h1
  clear h1
  have hw:=St.start w
  go_enter Tryz.func116,Tryz.ntmps116
  go_upto_region 1 with (first
   | (refine wpl_box_v (v:=hv (i,g)) rfl hw ?_;clear hw;intro g3 w1 hw;replace hw:St w [blk g3 (h2 (i,g)).toArray 40] w1:=hw))
  have hs1:=hs.grew hw.made_grew
  have hs2:=hs1.woopen
  have hs3:=hs2.drop.enopen
  have kW:=Rd.blk (k:=0) (v:= .pointer (some ⟨E,0,none⟩)) (by rfl) _ hs2
  have k0:=Rd.en0 _ hs2.drop
  have k1:World.cell? _ ⟨g3,0,none⟩=some (.int .i64 i):=Rd.blk (by rfl) _ hw
  have k2:World.cell? _ ⟨g3,1,none⟩=some (.int .i64 g):=Rd.blk (by rfl) _ hw
  refine wp_region_grow (by kernel_rfl) (by kernel_rfl) fun hne=>?_
  have gW:=fun p:GW _=>p.grew.cell kW
  have g0:=fun p:GW _=>p.grew.cell k0
  have g1:=fun p:GW _=>p.grew.cell k1
  have g2:=fun p:GW _=>p.grew.cell k2
  repeat (go_big_quiet_step (first
   | (go_at_call 41;exact in_grew (state_c (h:=(i,g)) (hs3.grew (GW.grew _)) HS))))
  refine wpQuiet_nil ?_
  clear hne gW g0 g1 g2 kW k0 k1 k2
  intro u hu
  replace hw:=hw.grew hu
  have hs4:=hs1.grew hu
  clear hu hs2 hs3
  go_wp2
  go_ret
  exact⟨rfl,hw.made_grew⟩
 ·obtain rfl:e=f:=by rw[← he.out,← hf.out];unfold WoS.may;rw[if_neg (by rw[h1];decide)]
  have HS:=Lib.hid h1
  clear h1
  have hw:=St.start w
  go_enter Tryz.func116,Tryz.ntmps116
  go_upto_region 1 with (first
   | (refine wpl_box_v (v:=hv (i,g)) rfl hw ?_;clear hw;intro g3 w1 hw;replace hw:St w [blk g3 (h2 (i,g)).toArray 40] w1:=hw))
  have hs1:=hs.grew hw.made_grew
  have hs2:=hs1.woopen
  have hs3:=hs2.drop.enopen
  have kW:=Rd.blk (k:=0) (v:= .pointer (some ⟨E,0,none⟩)) (by rfl) _ hs2
  have k0:=Rd.en0 _ hs2.drop
  have k1:World.cell? _ ⟨g3,0,none⟩=some (.int .i64 i):=Rd.blk (by rfl) _ hw
  have k2:World.cell? _ ⟨g3,1,none⟩=some (.int .i64 g):=Rd.blk (by rfl) _ hw
  refine wp_region_grow (by kernel_rfl) (by kernel_rfl) fun hne=>?_
  have gW:=fun p:GW _=>p.grew.cell kW
  have g0:=fun p:GW _=>p.grew.cell k0
  have g1:=fun p:GW _=>p.grew.cell k1
  have g2:=fun p:GW _=>p.grew.cell k2
  repeat (go_big_quiet_step (first
   | (go_at_call 41;exact in_grew (state_c (h:=(i,g)) (hs3.grew (GW.grew _)) HS))))
  refine wpQuiet_nil ?_
  clear hne gW g0 g1 g2 kW k0 k1 k2
  intro u hu
  replace hw:=hw.grew hu
  have hs4:=hs1.grew hu
  clear hu hs2 hs3
  have HF:=Lib.hid (wofree_c hs4)
  rw[hf.out] at HF
  go_wp2_with (first
   | (go_at_call 104;refine HF.out.mono ?_;rintro r w' ⟨rfl,hg⟩))
  go_ret
  exact⟨rfl,hw.made_grew.trans hg⟩
 ·obtain rfl:e=f:=by rw[← he.out,← hf.out];unfold WoS.may;rw[if_neg (by rw[h1];decide)]
  have HS:=Lib.hid h1
  clear h1
  have hw:=St.start w
  go_enter Tryz.func116,Tryz.ntmps116
  go_upto_region 1 with (first
   | (refine wpl_box_v (v:=hv (i,g)) rfl hw ?_;clear hw;intro g3 w1 hw;replace hw:St w [blk g3 (h2 (i,g)).toArray 40] w1:=hw))
  have hs1:=hs.grew hw.made_grew
  have hs2:=hs1.woopen
  have hs3:=hs2.drop.enopen
  have kW:=Rd.blk (k:=0) (v:= .pointer (some ⟨E,0,none⟩)) (by rfl) _ hs2
  have k0:=Rd.en0 _ hs2.drop
  have k1:World.cell? _ ⟨g3,0,none⟩=some (.int .i64 i):=Rd.blk (by rfl) _ hw
  have k2:World.cell? _ ⟨g3,1,none⟩=some (.int .i64 g):=Rd.blk (by rfl) _ hw
  refine wp_region_grow (by kernel_rfl) (by kernel_rfl) fun hne=>?_
  have gW:=fun p:GW _=>p.grew.cell kW
  have g0:=fun p:GW _=>p.grew.cell k0
  have g1:=fun p:GW _=>p.grew.cell k1
  have g2:=fun p:GW _=>p.grew.cell k2
  repeat (go_big_quiet_step (first
   | (go_at_call 41;exact in_grew (state_c (h:=(i,g)) (hs3.grew (GW.grew _)) HS))))
  refine wpQuiet_nil ?_
  clear hne gW g0 g1 g2 kW k0 k1 k2
  intro u hu
  replace hw:=hw.grew hu
  have hs4:=hs1.grew hu
  clear hu hs2 hs3
  have HF:=Lib.hid (wofree_c hs4)
  rw[hf.out] at HF
  go_wp2_with (first
   | (go_at_call 104;refine HF.out.mono ?_;rintro r w' ⟨rfl,hg⟩))
  go_ret
  exact⟨rfl,hw.made_grew.trans hg⟩
end
section
open Go Go.RowKit
attribute [local irreducible] wpList Calls Code.wp
section
variable {w0 w:World} {L:List As} {W E A R X Q n:Nat} {s:WoS}
theorem size_bo:(Tryz.prog.info? 4).map (·.size)=some 1:=by kernel_rfl
theorem Wr.wo3 {E X Q n:Nat} {held b:Bool} {top:Int} {t:TypeId}:Wr w0 (YtiafdlofcjbllaaGreatDoor.blk W (woC E X Q held n top) t::L) ⟨W,3,none⟩ (.bool b) (YtiafdlofcjbllaaGreatDoor.blk W (woC E X Q b n top) t::L):=Wr.blk (by simp[woC])
theorem woheld_c (hs:St w0 (WoB W E A R X Q n s::L) w):Calls Tryz.prog 51 #[.pointer (some ⟨W,0,none⟩)] w fun e w'=>e= .returned (.bool s.held)∧Grew w w':=by
 have hs:=hs.woopen
 have c3:=Rd.blk (w0:=w0) (g:=W) (k:=3) (cs:=woC E X Q s.held n s.e.top) (t:=132) (v:= .bool s.held) rfl _ hs
 clear hs
 go_enter Tryz.func51,Tryz.ntmps51
 go_wp2
 go_ret
 exact⟨rfl,Grew.refl _⟩
theorem wohold_c (hs:St w0 (WoB W E A R X Q n s::L) w):Calls Tryz.prog 62 #[.pointer (some ⟨W,0,none⟩)] w fun e w'=>e= .returned (.int .i64 s.free)∧St w0 (WoB W E A R X Q n { s with held:=true }::L) w':=by
 have HF:=Lib.hid (wofree_c hs)
 obtain⟨f,hf⟩:∃ f,Hid (s.free=f):=⟨_,rfl⟩
 rw[hf.out] at HF ⊢
 go_enter Tryz.func62,Tryz.ntmps62
 go_wp2_with (first
  | (go_at_call 104;refine HF.out.mono ?_;rintro r w' ⟨rfl,hg⟩;replace hs:=(hs.grew hg).woopen)
  | (refine wpl_store (v:= .bool true) rfl rfl rfl size_bo hs (Wr.wo3 (b:=true)) ?_;clear hs;intro w hs))
 go_ret
 exact⟨rfl,St.woshut (s:={ s with held:=true }) hs⟩
theorem wofreeW_c (hs:St w0 (WoB W E A R X Q n s::L) w):Calls Tryz.prog 68 #[.pointer (some ⟨W,0,none⟩)] w fun e w'=>e= .returned (.tuple #[])∧St w0 (WoB W E A R X Q n { s with held:=false }::L) w':=by
 replace hs:=hs.woopen
 go_enter Tryz.func68,Tryz.ntmps68
 go_wp2_with (first
  | (refine wpl_store (v:= .bool false) rfl rfl rfl size_bo hs (Wr.wo3 (b:=false)) ?_;clear hs;intro w hs))
 go_end0
 exact⟨rfl,St.woshut (s:={ s with held:=false }) hs⟩
end
end
end Go.Proofs.YtiafdlofcjbllaaGreatDoor
