/-
  Two slots that differ in nothing that is told.
-/
import Derived.Test.YtiafdlofcjbllaaGreatDoorZU
import Derived.Test.YtiafdlofcjbllaaGreatDoorZE3
set_option maxRecDepth 100000
namespace Go.Proofs.YtiafdlofcjbllaaGreatDoor
section
open Go Go.RowKit
structure AlD (s t:SlS):Prop where
 d_:s.d=t.d
 S:s.S=t.S
 g:s.g=t.g
 evs:s.evs=t.evs
 rds:s.rds=t.rds
 F:s.F.isSome=t.F.isSome
section
variable {s t:SlS} (h:AlD s t) (i:Int) (v:V3)
include h
theorem AlD.err:s.err i v=t.err i v:=by unfold SlS.err;rw[h.d_]
theorem AlD.nt (k:Int):s.noted k i=t.noted k i:=by unfold SlS.noted ntE;rw[h.F,h.evs]
theorem AlD.get:s.get i=t.get i:=by unfold SlS.get;rw[h.S,h.g]
theorem AlD.has:s.has i=t.has i:=by unfold SlS.has;rw[h.S]
theorem AlD.putU:s.putU i v=t.putU i v:=by unfold SlS.putU;rw[h.err,h.get]
theorem AlD.putB:s.putB i v=t.putB i v:=by unfold SlS.putB;rw[h.err,h.has]
theorem AlD.errSet:s.errSet i v=t.errSet i v:=by unfold SlS.errSet;rw[h.err,h.S]
theorem AlD.put:AlD (s.put i v) (t.put i v):=by
 unfold SlS.put
 rw[h.err,h.S,h.g,h.nt]
 split
 ·exact⟨h.d_,rfl,rfl,rfl,h.rds,h.F⟩
 ·exact h
theorem AlD.take:AlD (s.take i) (t.take i):=by
 unfold SlS.take
 rw[h.S,h.nt]
 split
 ·exact⟨h.d_,rfl,h.g,rfl,h.rds,h.F⟩
 ·exact h
theorem AlD.set:AlD (s.set i v) (t.set i v):=by
 unfold SlS.set
 rw[h.errSet,h.g,h.nt]
 split
 ·exact⟨h.d_,h.S,rfl,rfl,h.rds,h.F⟩
 ·exact h
theorem AlD.rdr:AlD { s with rds:=s.rds++[s.evs.length] } { t with rds:=t.rds++[t.evs.length] }:=⟨h.d_,h.S,h.g,h.evs,by show s.rds++[s.evs.length]=t.rds++[t.evs.length];rw[h.rds,h.evs],h.F⟩
theorem AlD.rd (r:Nat):AlD { s with rds:=s.rds.set r s.evs.length } { t with rds:=t.rds.set r t.evs.length }:=⟨h.d_,h.S,h.g,h.evs,by show s.rds.set r s.evs.length=t.rds.set r t.evs.length;rw[h.rds,h.evs],h.F⟩
end
end
section
open Go Go.RowKit
structure AlE (s t:EnS):Prop where
 top_:s.top=t.top
 cs:s.cs=t.cs
 len:s.l.length=t.l.length
 at_:∀ (c:Nat) (x y:Cmp),s.l[c]? =some x→t.l[c]? =some y→AlD x.2 y.2
section
variable {s t:EnS} (h:AlE s t)
include h
theorem AlE.live (d:Hdl):s.live d=t.live d:=by unfold EnS.live;rw[h.cs]
theorem AlE.slot (c:Int):(s.slot c=none∧t.slot c=none)∨∃ x y,s.slot c=some x∧t.slot c=some y∧AlD x.2 y.2:=by
 unfold EnS.slot
 by_cases h0:0≤c
 ·rw[if_pos h0,if_pos h0]
  cases hx:s.l[c.toNat]? with
  | none=>exact .inl ⟨rfl,by rw[List.getElem?_eq_none_iff] at hx ⊢;rw[← h.len];exact hx⟩
  | some x=>
   have hl:=(List.getElem?_eq_some_iff.1 hx).1
   obtain⟨y,hy⟩:∃ y,t.l[c.toNat]? =some y:=⟨_,List.getElem?_eq_getElem (by rw[← h.len];exact hl)⟩
   exact .inr ⟨x,y,rfl,hy,h.at_ _ _ _ hx hy⟩
 ·rw[if_neg h0,if_neg h0];exact .inl ⟨rfl,rfl⟩
theorem AlE.put (c:Nat) {X Y:Nat} {a b:SlS} (hab:AlD a b):AlE ⟨s.top,s.cs,s.l.set c (X,a)⟩ ⟨t.top,t.cs,t.l.set c (Y,b)⟩ where
 top_:=h.top_
 cs:=h.cs
 len:=by show (s.l.set _ _).length=(t.l.set _ _).length;rw[List.length_set,List.length_set];exact h.len
 at_ q x y hx hy:=by
  replace hx:(s.l.set c (X,a))[q]? =some x:=hx
  replace hy:(t.l.set c (Y,b))[q]? =some y:=hy
  rw[List.getElem?_set] at hx hy
  split at hx
  ·rename_i e
   subst e
   rw[if_pos rfl] at hy
   split at hx
   ·split at hy
    ·injection hx with hx;injection hy with hy
     subst hx;subst hy
     exact hab
    ·cases hy
   ·cases hx
  ·rename_i e
   rw[if_neg e] at hy
   exact h.at_ q x y hx hy
theorem AlE.cells (c:List ACell):AlE ⟨s.top,c,s.l⟩ ⟨t.top,c,t.l⟩:=⟨h.top_,rfl,h.len,h.at_⟩
theorem AlE.ins (d:Hdl) (c:Int) (v:V3):(s.ins d c v).1=(t.ins d c v).1∧(s.ins d c v).2.1=(t.ins d c v).2.1∧(s.ins d c v).2.2.1=(t.ins d c v).2.2.1∧AlE (s.ins d c v).2.2.2 (t.ins d c v).2.2.2:=by
 unfold EnS.ins
 rw[h.live d]
 split
 ·rcases h.slot c with ⟨h1,h2⟩ | ⟨x,y,h1,h2,hd⟩
  ·rw[h1,h2];exact⟨rfl,rfl,rfl,h⟩
  ·rw[h1,h2]
   exact⟨hd.putU _ _,hd.putB _ _,hd.err _ _,h.put _ (hd.put _ _)⟩
 ·exact⟨rfl,rfl,rfl,h⟩
theorem AlE.get (d:Hdl) (c:Int):s.get d c=t.get d c:=by
 unfold EnS.get
 rw[h.live d]
 split
 ·rcases h.slot c with ⟨h1,h2⟩ | ⟨x,y,h1,h2,hd⟩
  ·rw[h1,h2]
  ·rw[h1,h2]
   simp only
   rw[hd.has,hd.get]
 ·rfl
theorem AlE.rem (d:Hdl) (c:Int):(s.rem d c).1=(t.rem d c).1∧(s.rem d c).2.1=(t.rem d c).2.1∧AlE (s.rem d c).2.2 (t.rem d c).2.2:=by
 unfold EnS.rem
 rw[h.live d]
 split
 ·rcases h.slot c with ⟨h1,h2⟩ | ⟨x,y,h1,h2,hd⟩
  ·rw[h1,h2];exact⟨rfl,rfl,h⟩
  ·rw[h1,h2]
   simp only
   rw[hd.has,hd.get]
   split
   ·exact⟨rfl,rfl,h.put _ (hd.take _)⟩
   ·exact⟨rfl,rfl,h⟩
 ·exact⟨rfl,rfl,h⟩
theorem AlE.set (d:Hdl) (c:Int) (v:V3):(s.set d c v).1=(t.set d c v).1∧AlE (s.set d c v).2 (t.set d c v).2:=by
 unfold EnS.set
 rw[h.live d]
 split
 ·rcases h.slot c with ⟨h1,h2⟩ | ⟨x,y,h1,h2,hd⟩
  ·rw[h1,h2];exact⟨rfl,h⟩
  ·rw[h1,h2]
   exact⟨hd.errSet _ _,h.put _ (hd.set _ _)⟩
 ·exact⟨rfl,h⟩
theorem AlE.hasAt (i:Int) (c:Nat):YtiafdlofcjbllaaGreatDoor.hasAt s.l i c=YtiafdlofcjbllaaGreatDoor.hasAt t.l i c:=by
 unfold YtiafdlofcjbllaaGreatDoor.hasAt
 cases hx:s.l[c]? with
 | none=>rw[show t.l[c]? =none by rw[List.getElem?_eq_none_iff] at hx ⊢;rw[← h.len];exact hx]
 | some x=>
  have hl:=(List.getElem?_eq_some_iff.1 hx).1
  obtain⟨y,hy⟩:∃ y,t.l[c]? =some y:=⟨_,List.getElem?_eq_getElem (by rw[← h.len];exact hl)⟩
  rw[hy]
  exact (h.at_ _ _ _ hx hy).has _
theorem AlE.ofN (i:Int) (k:Nat):YtiafdlofcjbllaaGreatDoor.ofN s.l i k=YtiafdlofcjbllaaGreatDoor.ofN t.l i k:=ofN_congr fun c _=>h.hasAt i c
theorem AlE.parts (d:Hdl):s.parts d=t.parts d:=by
 unfold EnS.parts
 rw[h.live d,h.len,h.ofN]
theorem AlE.del (d:Hdl):(s.del d).1=(t.del d).1∧(s.del d).2.1=(t.del d).2.1∧AlE (s.del d).2.2 (t.del d).2.2:=by
 unfold EnS.del
 rw[h.live d]
 split
 ·refine⟨by rw[h.len,h.ofN],rfl,?_⟩
  refine⟨h.top_,by show (delA s.top s.cs d).2=(delA t.top t.cs d).2;rw[h.top_,h.cs],by show (strL _ _).length=(strL _ _).length;rw[strL_len,strL_len];exact h.len,fun c x y hx hy=>?_⟩
  replace hx:(strL s.l d.1)[c]? =some x:=hx
  replace hy:(strL t.l d.1)[c]? =some y:=hy
  unfold strL at hx hy
  rw[List.getElem?_map] at hx hy
  cases h1:s.l[c]? with
  | none=>rw[h1] at hx;cases hx
  | some x1=>
   cases h2:t.l[c]? with
   | none=>rw[h2] at hy;cases hy
   | some y1=>
    rw[h1] at hx;rw[h2] at hy
    simp only[Option.map_some,Option.some.injEq] at hx hy
    subst hx;subst hy
    exact (h.at_ _ _ _ h1 h2).take _
 ·exact⟨rfl,rfl,h⟩
end
end
section
open Go Go.RowKit
structure OpW where
 k:Int
 h:Hdl
 c:Int
 v:V3
def OpW.ok (o:OpW):Bool:=if o.k=1 then decide (o.c=0∧o.v=V3.z) else if o.k=2 then decide (0≤o.c) && okVal o.v else if o.k=3 then decide (0≤o.c∧o.v=V3.z) else false
structure WoS where
 e:EnS
 q:List OpW
 r:List Int
 held:Bool
def WoS.free (s:WoS):Int:=if s.held then 13 else 0
def WoS.may (s:WoS) (h:Hdl):Int:=if stV s.e.cs h=0 then 4 else s.free
def WoS.give (k:Nat) (s:WoS):Hdl × Int × WoS:=match giveV k s.e.cs with | (v,x,c)=>(v,x,{ s with e:=⟨s.e.top,c,s.e.l⟩ })
def WoS.create (s:WoS):Hdl × Int × WoS:=if s.free=0 then s.give 1 else ((0,0),s.free,s)
def WoS.del (s:WoS) (h:Hdl):Int × Int × WoS:=if s.may h=0 then (match s.e.del h with | (n,x,e)=>(n,x,{ s with e:=e })) else (0,s.may h,s)
def WoS.ins (s:WoS) (h:Hdl) (c:Int) (v:V3):V3 × Bool × Int × WoS:=if s.may h=0 then (match s.e.ins h c v with | (u,b,x,e)=>(u,b,x,{ s with e:=e })) else (V3.z,false,s.may h,s)
def WoS.rem (s:WoS) (h:Hdl) (c:Int):V3 × Int × WoS:=if s.may h=0 then (match s.e.rem h c with | (u,x,e)=>(u,x,{ s with e:=e })) else (V3.z,s.may h,s)
def WoS.get (s:WoS) (h:Hdl) (c:Int):V3 × Int:=s.e.get h c
def WoS.set (s:WoS) (h:Hdl) (c:Int) (v:V3):Int × WoS:=match s.e.set h c v with | (x,e)=>(x,{ s with e:=e })
def WoS.kn (s:WoS) (o:OpW):Bool × Bool:=if o.k=1 then (true,true) else match s.e.slot o.c with
 | some x=>(true,decide (o.k=3) || decide (o.v.k=x.2.d.k))
 | none=>(false,true)
def WoS.defE (s:WoS) (l:List OpW):Int:=if l.any fun o=>!o.ok then 1 else if l.any fun o=>decide (stV s.e.cs o.h=0) then 4 else if !(l.all fun o=>(s.kn o).1) then 11 else if !(l.all fun o=>(s.kn o).2) then 9 else if 10000 < s.q.length+l.length then 2 else 0
def WoS.defer (s:WoS) (l:List OpW):Int × WoS:=if s.defE l=0 then (0,{ s with q:=s.q++l }) else (s.defE l,s)
def WoS.apply (s:WoS) (o:OpW):Bool × WoS:=
 if o.k=1 then (match s.e.del o.h with | (_,x,e)=>(decide (x=0),{ s with e:=e }))
 else if o.k=2 then (match s.e.ins o.h o.c o.v with | (_,_,x,e)=>(decide (x=0),{ s with e:=e }))
 else (match s.e.rem o.h o.c with | (_,x,e)=>(decide (x=0),{ s with e:=e }))
def WoS.run (s:WoS):List OpW→Nat × Nat × WoS
 | []=>(0,0,s)
 | o::l=>match s.apply o with
  | (b,t)=>match t.run l with
   | (a,k,u)=>(if b then a+1 else a,if b then k else k+1,u)
def WoS.maint (s:WoS):V3 × Int × WoS:=if s.free=0 then (match ({ s with e:=⟨s.e.top,mergeA s.e.cs,s.e.l⟩,q:=[] }:WoS).run s.q with
 | (a,k,u)=>(⟨((idxS 2 s.e.cs).length:Nat),(a:Nat),(k:Nat)⟩,0,u)) else (V3.z,s.free,s)
def WoS.flE (s:WoS) (c:Int):Int:=match s.e.slot c with
 | none=>11
 | some x=>if x.2.F.isSome then 0 else 14
section
variable {s:WoS} {h:Hdl}
theorem WoS.may_live4 (h4:s.e.live h=4):s.may h=4:=by
 have hs:stV s.e.cs h=0:=by
  unfold EnS.live at h4
  rcases stV_cases s.e.cs h with h1 | h1 | h1
  ·exact h1
  ·rw[h1] at h4;cases h4
  ·rw[h1] at h4;cases h4
 unfold WoS.may;rw[if_pos hs]
theorem WoS.may_not4 (h4:s.e.live h ≠ 4):s.may h=s.free:=by
 have hs:stV s.e.cs h ≠ 0:=fun h0=>h4 (by unfold EnS.live;rw[if_pos h0])
 unfold WoS.may;rw[if_neg hs]
theorem WoS.free_held (hh:s.held=true):s.free=13:=by unfold WoS.free;rw[hh];rfl
theorem WoS.free_free (hh:s.held=false):s.free=0:=by unfold WoS.free;rw[hh];rfl
theorem WoS.eta_free (hh:s.held=false):({ e:=s.e,q:=s.q,r:=s.r,held:=false }:WoS)=s:=by rw[← hh]
end
theorem St.front {w0 w:World}:∀ {L M:List As},St w0 (L++M) w→St w0 L w
 | L,[],hs=>by rwa [List.append_nil] at hs
 | L,p::M,hs=>St.front (L:=L) (M:=M) (hs.ent (Ent.pull p L M)).drop
theorem St.only3 {w0 w:World} {a b c:As} {L:List As} (hs:St w0 (a::b::c::L) w):St w0 [a,b,c] w:=St.front (L:=[a,b,c]) (M:=L) hs
theorem St.only4 {w0 w:World} {a b c d:As} {L:List As} (hs:St w0 (a::b::c::d::L) w):St w0 [a,b,c,d] w:=St.front (L:=[a,b,c,d]) (M:=L) hs
def c7w (o:OpW):List Value:=[.int .i64 o.k, .int .i64 o.h.1, .int .i64 o.h.2, .int .i64 o.c, .int .i64 o.v.k, .int .i64 o.v.a, .int .i64 o.v.b]
def i8v (l:List Int):List Value:=l.map (Value.int .i64)
theorem i8v_len (l:List Int):(i8v l).length=l.length:=by simp[i8v]
theorem i8v_one (l:List Int):∀ u∈i8v l,u.oneCell'=true:=by
 intro u hu
 obtain⟨x,_,rfl⟩:=List.mem_map.1 hu
 rfl
end
section
open Go Go.RowKit
section
variable {s:EnS} {h:Hdl} {c:Int} {v:V3}
theorem EnS.ins_top:(s.ins h c v).2.2.2.top=s.top:=by unfold EnS.ins;split <;> (try split) <;> rfl
theorem EnS.rem_top:(s.rem h c).2.2.top=s.top:=by unfold EnS.rem;split <;> (try split) <;> (try split) <;> rfl
theorem EnS.del_top:(s.del h).2.2.top=s.top:=by unfold EnS.del;split <;> rfl
theorem EnS.set_top:(s.set h c v).2.top=s.top:=by unfold EnS.set;split <;> (try split) <;> rfl
end
section
variable {s:WoS} {h:Hdl} {c:Int} {v u:V3} {b:Bool} {x n:Int} {e:EnS}
theorem WoS.ins_ok (h0:s.may h=0) (hi:s.e.ins h c v=(u,b,x,e)):s.ins h c v=(u,b,x,{ s with e:=e }):=by unfold WoS.ins;rw[if_pos h0,hi]
theorem WoS.ins_bad (h0:s.may h ≠ 0):s.ins h c v=(V3.z,false,s.may h,s):=by unfold WoS.ins;rw[if_neg h0]
theorem WoS.rem_ok (h0:s.may h=0) (hi:s.e.rem h c=(u,x,e)):s.rem h c=(u,x,{ s with e:=e }):=by unfold WoS.rem;rw[if_pos h0,hi]
theorem WoS.rem_bad (h0:s.may h ≠ 0):s.rem h c=(V3.z,s.may h,s):=by unfold WoS.rem;rw[if_neg h0]
theorem WoS.del_ok (h0:s.may h=0) (hi:s.e.del h=(n,x,e)):s.del h=(n,x,{ s with e:=e }):=by unfold WoS.del;rw[if_pos h0,hi]
theorem WoS.del_bad (h0:s.may h ≠ 0):s.del h=(0,s.may h,s):=by unfold WoS.del;rw[if_neg h0]
theorem WoS.set_ok (hi:s.e.set h c v=(x,e)):s.set h c v=(x,{ s with e:=e }):=by unfold WoS.set;rw[hi]
theorem WoS.create_ok (h0:s.free=0) {d:Hdl} {cs:List ACell} (hi:giveV 1 s.e.cs=(d,x,cs)):s.create=(d,x,{ s with e:=⟨s.e.top,cs,s.e.l⟩ }):=by unfold WoS.create WoS.give;rw[if_pos h0,hi]
theorem WoS.create_bad (h0:s.free ≠ 0):s.create=((0,0),s.free,s):=by unfold WoS.create;rw[if_neg h0]
end
def WoS.reader (s:WoS) (c:Int):Int × Int × WoS:=if s.free=0 then (match s.e.slot c with
 | none=>(0,11,s)
 | some x=>if x.2.F.isSome then (if x.2.rds.length < 100 then ((x.2.rds.length:Nat),0,{ s with e:=⟨s.e.top,s.e.cs,s.e.l.set c.toNat (x.1,{ x.2 with rds:=x.2.rds++[x.2.evs.length] })⟩ }) else (0,2,s)) else (0,14,s)) else (0,s.free,s)
def WoS.read (s:WoS) (c r:Int):List Ev × Bool × Int × WoS:=match s.e.slot c with
 | none=>([],false,11,s)
 | some x=>if x.2.F.isSome then (match (if 0≤r then x.2.rds[r.toNat]? else none) with
  | none=>([],false,8,s)
  | some k=>(newE x.2.d.b.toNat x.2.evs k,lagE x.2.d.b.toNat x.2.evs k,0,{ s with e:=⟨s.e.top,s.e.cs,s.e.l.set c.toNat (x.1,{ x.2 with rds:=x.2.rds.set r.toNat x.2.evs.length })⟩ })) else ([],false,14,s)
section
variable {s:WoS} {c r:Int} {X:Nat} {t:SlS}
theorem WoS.reader_bad (h0:s.free ≠ 0):s.reader c=(0,s.free,s):=by unfold WoS.reader;rw[if_neg h0]
theorem WoS.reader_comp (h0:s.free=0) (hc:s.e.slot c=none):s.reader c=(0,11,s):=by unfold WoS.reader;rw[if_pos h0,hc]
theorem WoS.reader_flag (h0:s.free=0) (hc:s.e.slot c=some (X,t)) (hF:t.F=none):s.reader c=(0,14,s):=by unfold WoS.reader;rw[if_pos h0,hc];simp only;rw[hF];rfl
theorem WoS.reader_many (h0:s.free=0) (hc:s.e.slot c=some (X,t)) {f:Nat} (hF:t.F=some f) (hr:¬ t.rds.length < 100):s.reader c=(0,2,s):=by unfold WoS.reader;rw[if_pos h0,hc];simp only;rw[if_pos (show t.F.isSome=true by rw[hF];rfl),if_neg hr]
theorem WoS.reader_ok (h0:s.free=0) {j:Nat} (hc:s.e.l[j]? =some (X,t)) {f:Nat} (hF:t.F=some f) (hr:t.rds.length < 100):s.reader (j:Int)=(((t.rds.length:Nat):Int),0,{ s with e:=⟨s.e.top,s.e.cs,s.e.l.set j (X,{ t with rds:=t.rds++[t.evs.length] })⟩ }):=by
 unfold WoS.reader;rw[if_pos h0,EnS.slot_nat,hc];simp only[Int.toNat_natCast];rw[if_pos (show t.F.isSome=true by rw[hF];rfl),if_pos hr]
theorem WoS.read_comp (hc:s.e.slot c=none):s.read c r=([],false,11,s):=by unfold WoS.read;rw[hc]
theorem WoS.read_flag (hc:s.e.slot c=some (X,t)) (hF:t.F=none):s.read c r=([],false,14,s):=by unfold WoS.read;rw[hc];simp only;rw[hF];rfl
theorem WoS.read_no (hc:s.e.slot c=some (X,t)) {f:Nat} (hF:t.F=some f) (hr:r < 0∨(t.rds.length:Int)≤r):s.read c r=([],false,8,s):=by
 unfold WoS.read;rw[hc];simp only;rw[if_pos (show t.F.isSome=true by rw[hF];rfl)]
 have:(if 0≤r then t.rds[r.toNat]? else none)=none:=by
  split
  ·exact List.getElem?_eq_none (by omega)
  ·rfl
 rw[this]
theorem WoS.read_ok {j i k:Nat} (hc:s.e.l[j]? =some (X,t)) {f:Nat} (hF:t.F=some f) (hr:t.rds[i]? =some k):s.read (j:Int) (i:Int)=(newE t.d.b.toNat t.evs k,lagE t.d.b.toNat t.evs k,0,{ s with e:=⟨s.e.top,s.e.cs,s.e.l.set j (X,{ t with rds:=t.rds.set i t.evs.length })⟩ }):=by
 unfold WoS.read;rw[EnS.slot_nat,hc];simp only[Int.toNat_natCast];rw[if_pos (show t.F.isSome=true by rw[hF];rfl),if_pos (by omega),hr]
end
end
section
open Go Go.RowKit
structure AlW (s t:WoS):Prop where
 e:AlE s.e t.e
 q:s.q=t.q
 r:s.r=t.r
 held:s.held=t.held
section
variable {s t:WoS} (h:AlW s t)
include h
theorem AlW.free:s.free=t.free:=by unfold WoS.free;rw[h.held]
theorem AlW.may (d:Hdl):s.may d=t.may d:=by unfold WoS.may;rw[h.e.cs,h.free]
theorem AlW.withE {a b:EnS} (hab:AlE a b):AlW { s with e:=a } { t with e:=b }:=⟨hab,h.q,h.r,h.held⟩
theorem AlW.withH (b:Bool):AlW { s with held:=b } { t with held:=b }:=⟨h.e,h.q,h.r,rfl⟩
theorem AlW.give (k:Nat):(s.give k).1=(t.give k).1∧(s.give k).2.1=(t.give k).2.1∧AlW (s.give k).2.2 (t.give k).2.2:=by
 unfold WoS.give
 rw[h.e.cs]
 obtain⟨v,x,c⟩:=giveV k t.e.cs
 exact⟨rfl,rfl,h.withE (h.e.cells c)⟩
theorem AlW.create:s.create.1=t.create.1∧s.create.2.1=t.create.2.1∧AlW s.create.2.2 t.create.2.2:=by
 unfold WoS.create
 rw[h.free]
 split
 ·exact h.give 1
 ·exact⟨rfl,rfl,h⟩
theorem AlW.del (d:Hdl):(s.del d).1=(t.del d).1∧(s.del d).2.1=(t.del d).2.1∧AlW (s.del d).2.2 (t.del d).2.2:=by
 unfold WoS.del
 rw[h.may d]
 split
 ·have ha:=h.e.del d
  exact⟨ha.1,ha.2.1,h.withE ha.2.2⟩
 ·exact⟨rfl,rfl,h⟩
theorem AlW.ins (d:Hdl) (c:Int) (v:V3):(s.ins d c v).1=(t.ins d c v).1∧(s.ins d c v).2.1=(t.ins d c v).2.1∧(s.ins d c v).2.2.1=(t.ins d c v).2.2.1∧AlW (s.ins d c v).2.2.2 (t.ins d c v).2.2.2:=by
 unfold WoS.ins
 rw[h.may d]
 split
 ·have ha:=h.e.ins d c v
  exact⟨ha.1,ha.2.1,ha.2.2.1,h.withE ha.2.2.2⟩
 ·exact⟨rfl,rfl,rfl,h⟩
theorem AlW.rem (d:Hdl) (c:Int):(s.rem d c).1=(t.rem d c).1∧(s.rem d c).2.1=(t.rem d c).2.1∧AlW (s.rem d c).2.2 (t.rem d c).2.2:=by
 unfold WoS.rem
 rw[h.may d]
 split
 ·have ha:=h.e.rem d c
  exact⟨ha.1,ha.2.1,h.withE ha.2.2⟩
 ·exact⟨rfl,rfl,h⟩
theorem AlW.get (d:Hdl) (c:Int):s.get d c=t.get d c:=h.e.get d c
theorem AlW.set (d:Hdl) (c:Int) (v:V3):(s.set d c v).1=(t.set d c v).1∧AlW (s.set d c v).2 (t.set d c v).2:=by
 have ha:=h.e.set d c v
 exact⟨ha.1,h.withE ha.2⟩
theorem AlW.kn (o:OpW):s.kn o=t.kn o:=by
 unfold WoS.kn
 split
 ·rfl
 ·rcases h.e.slot o.c with ⟨h1,h2⟩ | ⟨x,y,h1,h2,hd⟩
  ·rw[h1,h2]
  ·rw[h1,h2]
   simp only
   rw[hd.d_]
theorem AlW.defE (l:List OpW):s.defE l=t.defE l:=by
 unfold WoS.defE
 rw[h.e.cs,h.q,show s.kn=t.kn from funext h.kn]
theorem AlW.defer (l:List OpW):(s.defer l).1=(t.defer l).1∧AlW (s.defer l).2 (t.defer l).2:=by
 unfold WoS.defer
 rw[h.defE l]
 split
 ·exact⟨rfl,h.e,by show s.q++l=t.q++l;rw[h.q],h.r,h.held⟩
 ·exact⟨rfl,h⟩
theorem AlW.apply (o:OpW):(s.apply o).1=(t.apply o).1∧AlW (s.apply o).2 (t.apply o).2:=by
 unfold WoS.apply
 split
 ·have ha:=h.e.del o.h
  exact⟨by show decide ((s.e.del o.h).2.1=0)=decide ((t.e.del o.h).2.1=0);rw[ha.2.1],h.withE ha.2.2⟩
 ·split
  ·have ha:=h.e.ins o.h o.c o.v
   exact⟨by show decide ((s.e.ins o.h o.c o.v).2.2.1=0)=decide ((t.e.ins o.h o.c o.v).2.2.1=0);rw[ha.2.2.1],h.withE ha.2.2.2⟩
  ·have ha:=h.e.rem o.h o.c
   exact⟨by show decide ((s.e.rem o.h o.c).2.1=0)=decide ((t.e.rem o.h o.c).2.1=0);rw[ha.2.1],h.withE ha.2.2⟩
end
theorem AlW.run (l:List OpW):∀ {s t:WoS},AlW s t→(s.run l).1=(t.run l).1∧(s.run l).2.1=(t.run l).2.1∧AlW (s.run l).2.2 (t.run l).2.2:=by
 induction l with
 | nil=>exact fun h=>⟨rfl,rfl,h⟩
 | cons o l ih=>
  intro s t h
  have ha:=h.apply o
  have hb:=ih ha.2
  unfold WoS.run
  refine⟨?_,?_,hb.2.2⟩
  ·show (if (s.apply o).1 then ((s.apply o).2.run l).1+1 else ((s.apply o).2.run l).1)=(if (t.apply o).1 then ((t.apply o).2.run l).1+1 else ((t.apply o).2.run l).1)
   rw[ha.1,hb.1]
  ·show (if (s.apply o).1 then ((s.apply o).2.run l).2.1 else ((s.apply o).2.run l).2.1+1)=(if (t.apply o).1 then ((t.apply o).2.run l).2.1 else ((t.apply o).2.run l).2.1+1)
   rw[ha.1,hb.2.1]
section
variable {s t:WoS} (h:AlW s t)
include h
theorem AlW.maint:s.maint.1=t.maint.1∧s.maint.2.1=t.maint.2.1∧AlW s.maint.2.2 t.maint.2.2:=by
 unfold WoS.maint
 rw[h.free]
 split
 ·have h0:AlW ({ s with e:=⟨s.e.top,mergeA s.e.cs,s.e.l⟩,q:=[] }:WoS) ({ t with e:=⟨t.e.top,mergeA t.e.cs,t.e.l⟩,q:=[] }:WoS):=by
   rw[h.e.cs]
   exact⟨h.e.cells _,rfl,h.r,h.held⟩
  have ha:=AlW.run s.q h0
  rw[show t.q=s.q from h.q.symm]
  refine⟨?_,rfl,ha.2.2⟩
  show (⟨((idxS 2 s.e.cs).length:Nat),_,_⟩:V3)=⟨((idxS 2 t.e.cs).length:Nat),_,_⟩
  rw[ha.1,ha.2.1,h.e.cs]
 ·exact⟨rfl,rfl,h⟩
theorem AlW.reader (c:Int):(s.reader c).1=(t.reader c).1∧(s.reader c).2.1=(t.reader c).2.1∧AlW (s.reader c).2.2 (t.reader c).2.2:=by
 unfold WoS.reader
 rw[h.free]
 split
 ·rcases h.e.slot c with ⟨h1,h2⟩ | ⟨x,y,h1,h2,hd⟩
  ·rw[h1,h2];exact⟨rfl,rfl,h⟩
  ·rw[h1,h2]
   simp only
   rw[hd.F,hd.rds]
   split
   ·split
    ·refine⟨rfl,rfl,h.withE (h.e.put _ ?_)⟩
     have:=hd.rdr
     rwa [hd.rds] at this
    ·exact⟨rfl,rfl,h⟩
   ·exact⟨rfl,rfl,h⟩
 ·exact⟨rfl,rfl,h⟩
theorem AlW.read (c r:Int):(s.read c r).1=(t.read c r).1∧(s.read c r).2.1=(t.read c r).2.1∧(s.read c r).2.2.1=(t.read c r).2.2.1∧AlW (s.read c r).2.2.2 (t.read c r).2.2.2:=by
 unfold WoS.read
 rcases h.e.slot c with ⟨h1,h2⟩ | ⟨x,y,h1,h2,hd⟩
 ·rw[h1,h2];exact⟨rfl,rfl,rfl,h⟩
 ·rw[h1,h2]
  simp only
  rw[hd.F,hd.rds]
  split
  ·split
   ·exact⟨rfl,rfl,rfl,h⟩
   ·refine⟨by rw[hd.d_,hd.evs],by rw[hd.d_,hd.evs],rfl,h.withE (h.e.put _ ?_)⟩
    have:=hd.rd r.toNat
    rwa [hd.rds] at this
  ·exact⟨rfl,rfl,rfl,h⟩
end
end
end Go.Proofs.YtiafdlofcjbllaaGreatDoor
