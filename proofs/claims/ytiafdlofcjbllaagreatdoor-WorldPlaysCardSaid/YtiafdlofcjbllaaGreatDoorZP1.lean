/-
  WorldPlays: plain law: a world and the document's, side by side. No function of the program is walked here.
-/
import Derived.Test.YtiafdlofcjbllaaGreatDoorZL
import Derived.Test.YtiafdlofcjbllaaGreatDoorZW4
import Derived.Test.YtiafdlofcjbllaaGreatDoorZD5
import Derived.Test.YtiafdlofcjbllaaGreatDoorZD6
import Derived.Test.YtiafdlofcjbllaaGreatDoorZW3
import Derived.Test.YtiafdlofcjbllaaGreatDoorZW6
import Derived.Test.YtiafdlofcjbllaaGreatDoorZD4
import Derived.Test.YtiafdlofcjbllaaGreatDoorZD8
set_option maxRecDepth 100000
namespace Go.Proofs.YtiafdlofcjbllaaGreatDoor
section
open Go Go.RowKit
def Kp (j:Nat) (l l':List Cmp):Prop:=l'.length=l.length∧∀ (c:Nat) (x y:Cmp),l[c]? =some x→l'[c]? =some y→y.2.rds=x.2.rds∧x.2.evs.length≤y.2.evs.length∧y.2.evs.length≤x.2.evs.length+j
theorem Kp.refl (j:Nat) (l:List Cmp):Kp j l l:=⟨rfl,fun c x y hx hy=>by rw[hx] at hy;injection hy with hy;subst hy;exact⟨rfl,Nat.le_refl _,Nat.le_add_right _ _⟩⟩
theorem Kp.trans {i j:Nat} {l1 l2 l3:List Cmp} (h1:Kp i l1 l2) (h2:Kp j l2 l3):Kp (i+j) l1 l3:=⟨h2.1.trans h1.1,fun c x z hx hz=>by
 have hl:=(List.getElem?_eq_some_iff.1 hx).1
 obtain⟨y,hy⟩:∃ y,l2[c]? =some y:=⟨_,List.getElem?_eq_getElem (by rw[h1.1];exact hl)⟩
 obtain⟨a1,a2,a3⟩:=h1.2 c x y hx hy
 obtain⟨b1,b2,b3⟩:=h2.2 c y z hy hz
 exact⟨b1.trans a1,by omega,by omega⟩⟩
theorem Kp.le {i j:Nat} {l l':List Cmp} (h:Kp i l l') (hij:i≤j):Kp j l l':=⟨h.1,fun c x y hx hy=>by obtain⟨a,b,d⟩:=h.2 c x y hx hy;exact⟨a,b,by omega⟩⟩
theorem Kp.put {l:List Cmp} {c:Nat} {x:Cmp} (hx:l[c]? =some x) {S:SlS} {X:Nat} (h1:S.rds=x.2.rds) (h2:x.2.evs.length≤S.evs.length) (h3:S.evs.length≤x.2.evs.length+1):Kp 1 l (l.set c (X,S)):=⟨by simp,fun d y z hy hz=>by
 rw[List.getElem?_set] at hz
 split at hz
 ·rename_i e
  subst e
  split at hz
  ·injection hz with hz
   subst hz
   rw[hx] at hy;injection hy with hy;subst hy
   exact⟨h1,h2,h3⟩
  ·cases hz
 ·rw[hy] at hz;injection hz with hz;subst hz;exact⟨rfl,Nat.le_refl _,Nat.le_add_right _ _⟩⟩
section
variable {s:SlS} {i:Int} {v:V3}
theorem SlS.put_more:s.evs.length≤(s.put i v).evs.length:=by unfold SlS.put SlS.noted ntE;split <;> (try split) <;> simp
theorem SlS.take_more:s.evs.length≤(s.take i).evs.length:=by unfold SlS.take SlS.noted ntE;split <;> (try split) <;> simp
theorem SlS.set_more:s.evs.length≤(s.set i v).evs.length:=by unfold SlS.set SlS.noted ntE;split <;> (try split) <;> simp
end
section
variable {s:EnS} {h:Hdl} {c:Int} {v:V3}
theorem EnS.slot_to {x:Cmp} (hx:s.slot c=some x):s.l[c.toNat]? =some x:=by
 unfold EnS.slot at hx
 split at hx
 ·exact hx
 ·cases hx
theorem Kp.ins:Kp 1 s.l (s.ins h c v).2.2.2.l:=by
 unfold EnS.ins
 split
 ·split
  ·rename_i x hx
   exact Kp.put (EnS.slot_to hx) (SlS.put_rds _ _ _) SlS.put_more (by have:=SlS.put_len x.2 h.1 v;omega)
  ·exact Kp.refl _ _
 ·exact Kp.refl _ _
theorem Kp.rem:Kp 1 s.l (s.rem h c).2.2.l:=by
 unfold EnS.rem
 split
 ·split
  ·rename_i x hx
   split
   ·exact Kp.put (EnS.slot_to hx) (SlS.take_rds _ _) SlS.take_more (by have:=SlS.take_len x.2 h.1;omega)
   ·exact Kp.refl _ _
  ·exact Kp.refl _ _
 ·exact Kp.refl _ _
theorem Kp.sets:Kp 1 s.l (s.set h c v).2.l:=by
 unfold EnS.set
 split
 ·split
  ·rename_i x hx
   exact Kp.put (EnS.slot_to hx) (SlS.set_rds _ _ _) SlS.set_more (by have:=SlS.set_len x.2 h.1 v;omega)
  ·exact Kp.refl _ _
 ·exact Kp.refl _ _
theorem Kp.strip (l:List Cmp) (i:Int):Kp 1 l (strL l i):=⟨strL_len _ _,fun c x y hx hy=>by
 unfold strL at hy
 rw[List.getElem?_map,hx] at hy
 simp only[Option.map_some,Option.some.injEq] at hy
 subst hy
 exact⟨SlS.take_rds _ _,SlS.take_more,by have:=SlS.take_len x.2 i;show (x.2.take i).evs.length≤_;omega⟩⟩
theorem Kp.del:Kp 1 s.l (s.del h).2.2.l:=by
 unfold EnS.del
 split
 ·exact Kp.strip _ _
 ·exact Kp.refl _ _
end
theorem Kp.apply (s:WoS) (o:OpW):Kp 1 s.e.l (s.apply o).2.e.l:=by
 unfold WoS.apply
 split
 ·exact Kp.del
 ·split
  ·exact Kp.ins
  ·exact Kp.rem
theorem Kp.run (l:List OpW):∀ s:WoS,Kp l.length s.e.l (s.run l).2.2.e.l:=by
 induction l with
 | nil=>exact fun s=>Kp.refl _ _
 | cons o l ih=>
  intro s
  have h:=(Kp.apply s o).trans (ih (s.apply o).2)
  unfold WoS.run
  rw[List.length_cons,Nat.add_comm]
  exact h
section
variable (s:WoS)
theorem WoS.run_q (l:List OpW):∀ s:WoS,(s.run l).2.2.q=s.q:=by
 induction l with
 | nil=>exact fun s=>rfl
 | cons o l ih=>
  intro s
  unfold WoS.run
  show ((s.apply o).2.run l).2.2.q=_
  rw[ih]
  unfold WoS.apply
  split
  ·rfl
  ·split <;> rfl
theorem WoS.run_r (l:List OpW):∀ s:WoS,(s.run l).2.2.r=s.r:=by
 induction l with
 | nil=>exact fun s=>rfl
 | cons o l ih=>
  intro s
  unfold WoS.run
  show ((s.apply o).2.run l).2.2.r=_
  rw[ih]
  unfold WoS.apply
  split
  ·rfl
  ·split <;> rfl
end
def RdL (k:Nat) (l:List Cmp):Prop:=∀ x∈l,x.2.rds.length≤k∧∀ p∈x.2.rds,p≤x.2.evs.length
theorem mem_at {α:Type} {l:List α} {x:α} (h:x∈l):∃ c:Nat,l[c]? =some x:=List.getElem?_of_mem h
theorem Kp.evl {j k:Nat} {l l':List Cmp} (h:Kp j l l') (he:EvL k l):EvL (k+j) l':=fun y hy=>by
 obtain⟨c,hc⟩:=mem_at hy
 have hl:=(List.getElem?_eq_some_iff.1 hc).1
 obtain⟨x,hx⟩:∃ x,l[c]? =some x:=⟨_,List.getElem?_eq_getElem (by rw[← h.1];exact hl)⟩
 have h1:=(h.2 c x y hx hc).2.2
 have h2:=he x (List.mem_of_getElem? hx)
 omega
theorem Kp.rdl {j k:Nat} {l l':List Cmp} (h:Kp j l l') (he:RdL k l):RdL k l':=fun y hy=>by
 obtain⟨c,hc⟩:=mem_at hy
 have hl:=(List.getElem?_eq_some_iff.1 hc).1
 obtain⟨x,hx⟩:∃ x,l[c]? =some x:=⟨_,List.getElem?_eq_getElem (by rw[← h.1];exact hl)⟩
 obtain⟨h1,h2,h3⟩:=h.2 c x y hx hc
 obtain⟨h4,h5⟩:=he x (List.mem_of_getElem? hx)
 rw[h1]
 exact⟨h4,fun p hp=>Nat.le_trans (h5 p hp) h2⟩
theorem RdL.more {k:Nat} {l:List Cmp} (h:RdL k l):RdL (k+1) l:=fun x hx=>⟨Nat.le_succ_of_le (h x hx).1,(h x hx).2⟩
theorem RdL.put {K:Nat} {l:List Cmp} (h9:RdL K l) {c:Nat} {X:Nat} {S:SlS} (h1:S.rds.length≤K∧∀ p∈S.rds,p≤S.evs.length):RdL K (l.set c (X,S)):=fun y hy=>by
 rcases List.mem_or_eq_of_mem_set hy with h2 | rfl
 ·exact h9 y h2
 ·exact h1
structure WpI (s t:WoS) (m k:Nat):Prop where
 al:AlW s t
 len:s.e.l.length=m
 ev:EvL (k*300) s.e.l
 q:s.q.length≤3*k
 r:s.r.length≤32
 rd:RdL k s.e.l
theorem EvL.le {i j:Nat} {l:List Cmp} (h:EvL i l) (hij:i≤j):EvL j l:=fun x hx=>Nat.le_trans (h x hx) hij
section
variable {s t:WoS} {m k:Nat} (h:WpI s t m k)
include h
theorem WpI.over (y:Cmp) (hy:y∈t.e.l):∃ x∈s.e.l,x.2.evs=y.2.evs∧x.2.rds=y.2.rds:=by
 obtain⟨c,hc⟩:=mem_at hy
 have hl:=(List.getElem?_eq_some_iff.1 hc).1
 obtain⟨x,hx⟩:∃ x,s.e.l[c]? =some x:=⟨_,List.getElem?_eq_getElem (by rw[h.al.e.len];exact hl)⟩
 have:=h.al.e.at_ _ _ _ hx hc
 exact⟨x,List.mem_of_getElem? hx,this.evs,this.rds⟩
theorem WpI.evt:EvL (k*300) t.e.l:=fun y hy=>by
 obtain⟨x,hx,h1,h2⟩:=h.over y hy
 rw[← h1];exact h.ev x hx
theorem WpI.rdt:RdL k t.e.l:=fun y hy=>by
 obtain⟨x,hx,h1,h2⟩:=h.over y hy
 rw[← h1,← h2];exact h.rd x hx
theorem WpI.lent:t.e.l.length=m:=by rw[← h.al.e.len];exact h.len
theorem WpI.step {s' t':WoS} (al:AlW s' t') (kp:Kp 300 s.e.l s'.e.l) (q:s'.q.length≤3*(k+1)) (r:s'.r=s.r):WpI s' t' m (k+1) where
 al:=al
 len:=kp.1.trans h.len
 ev:=(kp.evl h.ev).le (by omega)
 q:=q
 r:=r ▸ h.r
 rd:=(kp.rdl h.rd).more
theorem WpI.more:WpI s t m (k+1):=h.step h.al (Kp.refl _ _) (by have:=h.q;omega) rfl
theorem WpI.hold (b:Bool):WpI { s with held:=b } { t with held:=b } m (k+1):=h.step (h.al.withH b) (Kp.refl _ _) (by have:=h.q;show s.q.length≤_;omega) rfl
theorem WpI.give (g:Nat) {d:Hdl} {x:Int} {s':WoS} (hi:s.give g=(d,x,s')):∃ t',t.give g=(d,x,t')∧WpI s' t' m (k+1):=by
 have ha:=h.al.give g
 have hq:=h.q
 refine⟨(t.give g).2.2,by rw[← show (s.give g).1=d by rw[hi],← show (s.give g).2.1=x by rw[hi],ha.1,ha.2.1],?_⟩
 have e:s'=(s.give g).2.2:=by rw[hi]
 rw[e]
 exact h.step ha.2.2 (Kp.refl _ _) (by show s.q.length≤_;omega) rfl
theorem WpI.create {d:Hdl} {x:Int} {s':WoS} (hi:s.create=(d,x,s')):∃ t',t.create=(d,x,t')∧WpI s' t' m (k+1):=by
 have ha:=h.al.create
 have hq:=h.q
 refine⟨t.create.2.2,by rw[← show s.create.1=d by rw[hi],← show s.create.2.1=x by rw[hi],ha.1,ha.2.1],?_⟩
 have e:s'=s.create.2.2:=by rw[hi]
 rw[e]
 refine h.step ha.2.2 ?_ ?_ ?_
 ·unfold WoS.create;split <;> exact Kp.refl _ _
 ·have:s.create.2.2.q=s.q:=by unfold WoS.create;split <;> rfl
  rw[this];omega
 ·unfold WoS.create;split <;> rfl
theorem WpI.del {d:Hdl} {n x:Int} {s':WoS} (hi:s.del d=(n,x,s')):∃ t',t.del d=(n,x,t')∧WpI s' t' m (k+1):=by
 have ha:=h.al.del d
 have hq:=h.q
 refine⟨(t.del d).2.2,by rw[← show (s.del d).1=n by rw[hi],← show (s.del d).2.1=x by rw[hi],ha.1,ha.2.1],?_⟩
 have e:s'=(s.del d).2.2:=by rw[hi]
 rw[e]
 refine h.step ha.2.2 ?_ ?_ ?_
 ·unfold WoS.del;split
  ·exact Kp.del.le (by decide)
  ·exact Kp.refl _ _
 ·have:(s.del d).2.2.q=s.q:=by unfold WoS.del;split <;> rfl
  rw[this];omega
 ·unfold WoS.del;split <;> rfl
theorem WpI.ins {d:Hdl} {c:Int} {v u:V3} {b:Bool} {x:Int} {s':WoS} (hi:s.ins d c v=(u,b,x,s')):∃ t',t.ins d c v=(u,b,x,t')∧WpI s' t' m (k+1):=by
 have ha:=h.al.ins d c v
 have hq:=h.q
 refine⟨(t.ins d c v).2.2.2,by rw[← show (s.ins d c v).1=u by rw[hi],← show (s.ins d c v).2.1=b by rw[hi],← show (s.ins d c v).2.2.1=x by rw[hi],ha.1,ha.2.1,ha.2.2.1],?_⟩
 have e:s'=(s.ins d c v).2.2.2:=by rw[hi]
 rw[e]
 refine h.step ha.2.2.2 ?_ ?_ ?_
 ·unfold WoS.ins;split
  ·exact Kp.ins.le (by decide)
  ·exact Kp.refl _ _
 ·have:(s.ins d c v).2.2.2.q=s.q:=by unfold WoS.ins;split <;> rfl
  rw[this];omega
 ·unfold WoS.ins;split <;> rfl
theorem WpI.rem {d:Hdl} {c:Int} {u:V3} {x:Int} {s':WoS} (hi:s.rem d c=(u,x,s')):∃ t',t.rem d c=(u,x,t')∧WpI s' t' m (k+1):=by
 have ha:=h.al.rem d c
 have hq:=h.q
 refine⟨(t.rem d c).2.2,by rw[← show (s.rem d c).1=u by rw[hi],← show (s.rem d c).2.1=x by rw[hi],ha.1,ha.2.1],?_⟩
 have e:s'=(s.rem d c).2.2:=by rw[hi]
 rw[e]
 refine h.step ha.2.2 ?_ ?_ ?_
 ·unfold WoS.rem;split
  ·exact Kp.rem.le (by decide)
  ·exact Kp.refl _ _
 ·have:(s.rem d c).2.2.q=s.q:=by unfold WoS.rem;split <;> rfl
  rw[this];omega
 ·unfold WoS.rem;split <;> rfl
theorem WpI.get {d:Hdl} {c:Int} {r:V3 × Int} (hi:s.get d c=r):t.get d c=r:=by rw[← h.al.get];exact hi
theorem WpI.set {d:Hdl} {c:Int} {v:V3} {x:Int} {s':WoS} (hi:s.set d c v=(x,s')):∃ t',t.set d c v=(x,t')∧WpI s' t' m (k+1):=by
 have ha:=h.al.set d c v
 have hq:=h.q
 refine⟨(t.set d c v).2,by rw[← show (s.set d c v).1=x by rw[hi],ha.1],?_⟩
 have e:s'=(s.set d c v).2:=by rw[hi]
 rw[e]
 exact h.step ha.2 (Kp.sets.le (by decide)) (by show s.q.length≤_;omega) rfl
theorem WpI.defer {l:List OpW} (hl:l.length≤3) {x:Int} {s':WoS} (hi:s.defer l=(x,s')):∃ t',t.defer l=(x,t')∧WpI s' t' m (k+1):=by
 have ha:=h.al.defer l
 have hq:=h.q
 refine⟨(t.defer l).2,by rw[← show (s.defer l).1=x by rw[hi],ha.1],?_⟩
 have e:s'=(s.defer l).2:=by rw[hi]
 rw[e]
 refine h.step ha.2 ?_ ?_ ?_
 ·unfold WoS.defer;split <;> exact Kp.refl _ _
 ·have:(s.defer l).2.q=s.q++l∨(s.defer l).2.q=s.q:=by unfold WoS.defer;split <;> simp
  rcases this with e1 | e1
  ·rw[e1,List.length_append];omega
  ·rw[e1];omega
 ·unfold WoS.defer;split <;> rfl
theorem WpI.maint (hk:k≤100) {u:V3} {x:Int} {s':WoS} (hi:s.maint=(u,x,s')):∃ t',t.maint=(u,x,t')∧WpI s' t' m (k+1):=by
 have ha:=h.al.maint
 have hq:=h.q
 refine⟨t.maint.2.2,by rw[← show s.maint.1=u by rw[hi],← show s.maint.2.1=x by rw[hi],ha.1,ha.2.1],?_⟩
 have e:s'=s.maint.2.2:=by rw[hi]
 rw[e]
 refine h.step ha.2.2 ?_ ?_ ?_
 ·unfold WoS.maint
  split
  ·exact (Kp.run s.q ({ s with e:=⟨s.e.top,mergeA s.e.cs,s.e.l⟩,q:=[] }:WoS)).le (by omega)
  ·exact Kp.refl _ _
 ·unfold WoS.maint
  split
  ·show (WoS.run _ s.q).2.2.q.length≤_
   rw[WoS.run_q]
   exact Nat.zero_le _
  ·show s.q.length≤_
   omega
 ·unfold WoS.maint
  split
  ·exact WoS.run_r _ _
  ·rfl
theorem WpI.reader {c:Int} {n x:Int} {s':WoS} (hi:s.reader c=(n,x,s')):∃ t',t.reader c=(n,x,t')∧WpI s' t' m (k+1):=by
 have ha:=h.al.reader c
 have hq:=h.q
 refine⟨(t.reader c).2.2,by rw[← show (s.reader c).1=n by rw[hi],← show (s.reader c).2.1=x by rw[hi],ha.1,ha.2.1],?_⟩
 have e:s'=(s.reader c).2.2:=by rw[hi]
 rw[e]
 have hcase:(s.reader c).2.2=s∨∃ y,s.e.slot c=some y∧(s.reader c).2.2={ s with e:=⟨s.e.top,s.e.cs,s.e.l.set c.toNat (y.1,{ y.2 with rds:=y.2.rds++[y.2.evs.length] })⟩ }:=by
  unfold WoS.reader
  split
  ·split
   ·exact .inl rfl
   ·rename_i y hy
    split
    ·split
     ·exact .inr ⟨y,hy,rfl⟩
     ·exact .inl rfl
    ·exact .inl rfl
  ·exact .inl rfl
 rcases hcase with e1 | ⟨y,hy,e1⟩
 ·have:=ha.2.2
  rw[e1] at this ⊢
  exact h.step this (Kp.refl _ _) (by omega) rfl
 ·have hal:=ha.2.2
  rw[e1] at hal ⊢
  have hm:=EnS.slot_mem hy
  refine⟨hal,by show (s.e.l.set _ _).length=m;rw[List.length_set];exact h.len,?_,by show s.q.length≤_;omega,h.r,?_⟩
  ·exact EvL.set (h.ev.le (by omega)) (by show y.2.evs.length≤_;have:=h.ev y hm;omega)
  ·refine RdL.put h.rd.more ⟨?_,?_⟩
   ·show (y.2.rds++[_]).length≤_
    rw[List.length_append]
    have:=(h.rd y hm).1
    simp only[List.length_singleton]
    omega
   ·intro p hp
    show p≤y.2.evs.length
    replace hp:p∈y.2.rds++[y.2.evs.length]:=hp
    rw[List.mem_append,List.mem_singleton] at hp
    rcases hp with h1 | rfl
    ·exact (h.rd y hm).2 p h1
    ·exact Nat.le_refl _
theorem WpI.read {c r:Int} {l:List Ev} {b:Bool} {x:Int} {s':WoS} (hi:s.read c r=(l,b,x,s')):∃ t',t.read c r=(l,b,x,t')∧WpI s' t' m (k+1):=by
 have ha:=h.al.read c r
 have hq:=h.q
 refine⟨(t.read c r).2.2.2,by rw[← show (s.read c r).1=l by rw[hi],← show (s.read c r).2.1=b by rw[hi],← show (s.read c r).2.2.1=x by rw[hi],ha.1,ha.2.1,ha.2.2.1],?_⟩
 have e:s'=(s.read c r).2.2.2:=by rw[hi]
 rw[e]
 have hcase:(s.read c r).2.2.2=s∨∃ y,s.e.slot c=some y∧(s.read c r).2.2.2={ s with e:=⟨s.e.top,s.e.cs,s.e.l.set c.toNat (y.1,{ y.2 with rds:=y.2.rds.set r.toNat y.2.evs.length })⟩ }:=by
  unfold WoS.read
  split
  ·exact .inl rfl
  ·rename_i y hy
   split
   ·split
    ·exact .inl rfl
    ·exact .inr ⟨y,hy,rfl⟩
   ·exact .inl rfl
 rcases hcase with e1 | ⟨y,hy,e1⟩
 ·have:=ha.2.2.2
  rw[e1] at this ⊢
  exact h.step this (Kp.refl _ _) (by omega) rfl
 ·have hal:=ha.2.2.2
  rw[e1] at hal ⊢
  have hm:=EnS.slot_mem hy
  refine⟨hal,by show (s.e.l.set _ _).length=m;rw[List.length_set];exact h.len,?_,by show s.q.length≤_;omega,h.r,?_⟩
  ·exact EvL.set (h.ev.le (by omega)) (by show y.2.evs.length≤_;have:=h.ev y hm;omega)
  ·refine RdL.put h.rd.more ⟨?_,?_⟩
   ·show (y.2.rds.set _ _).length≤_
    rw[List.length_set]
    have:=(h.rd y hm).1
    omega
   ·intro p hp
    show p≤y.2.evs.length
    rcases List.mem_or_eq_of_mem_set (show p∈y.2.rds.set r.toNat y.2.evs.length from hp) with h1 | rfl
    ·exact (h.rd y hm).2 p h1
    ·exact Nat.le_refl _
end
end
section
open Go Go.RowKit
theorem all_live {cs:List ACell} {h:Hdl} (hm:h∈allH cs (idxS 1 cs)):stV cs h=1:=by
 obtain⟨i,hi,rfl⟩:=List.mem_map.1 hm
 obtain⟨h1,h2⟩:=mem_idxS.1 hi
 unfold handA
 rw[stV_in h1 rfl,if_pos h2]
theorem get_part {s:EnS} {h:Hdl} (h0:s.live h=0) {c:Nat} (hc:c∈ofN s.l h.1 s.l.length):∃ v,s.get h (c:Int)=(v,0):=by
 obtain⟨h1,h2⟩:=mem_ofN.1 hc
 unfold hasAt at h2
 unfold EnS.get
 rw[if_pos h0,EnS.slot_nat]
 cases hx:s.l[c]? with
 | none=>rw[hx] at h2;cases h2
 | some x=>
  rw[hx] at h2
  exact⟨_,by simp only;rw[if_pos h2]⟩
attribute [local irreducible] wpList Calls Code.wp
section
variable {w0 w:World} {L:List As} {W E A R X Q n:Nat} {s:WoS}
theorem wo_parts (hs:St w0 (WoB W E A R X Q n s::L) w) {h:Hdl} {o:List Nat} {e:Int} (HV:Hid (s.e.parts h=(o,e))):
  Calls Tryz.prog 33 #[.pointer (some ⟨E,0,none⟩),hv h] w fun r w'=>∃ B m cap,Hid (o.length=m)∧r= .returned (.tuple #[.slice B m cap, .int .i64 e])∧St w0 (own B m cap 3 1 (nsV o)::WoB W E A R X Q n s::L) w':=by
 refine (en_parts (wo_en hs) HV).mono ?_
 rintro r w' ⟨B,m,cap,h1,h2,h3⟩
 exact⟨B,m,cap,h1,h2,(St.woshut (h3.pm (M:=YtiafdlofcjbllaaGreatDoor.blk W (woC E X Q s.held n s.e.top) 132::EnB E A R s.e::ReB X s.r::QuB Q s.q::own B m cap 3 1 (nsV o)::L))).rot⟩
theorem wo_live (hT:Tab w) (hs:St w0 (WoB W E A R X Q n s::L) w) {k:Nat} (hk:Hid ((idxS 1 s.e.cs).length=k)) {hl:List Hdl} (HH:Hid (allH s.e.cs (idxS 1 s.e.cs)=hl)):
  Calls Tryz.prog 44 #[.pointer (some ⟨A,0,none⟩)] w fun e w'=>∃ B cap,e= .returned (.slice B k cap)∧St w [own B k cap 40 2 (hsV hl)] w':=by
 rw[← HH.out]
 exact live_c hT (wo_en hs).enopen hk
theorem RdS.here {w0 w:World} {L:List As} {A:Option Addr} {xs:List Value} (h:RdS w0 L A xs) (hs:St w0 L w):RdS w [] A xs:=fun k u hu=>let ⟨ad,h1,h2,h3⟩:=h k u hu;⟨ad,h1,h2,Rd.old (h3 _ hs)⟩
theorem qall_m {w0 w:World} {L:List As} {Q:Nat} {q:List OpW} (hq:q.length≤10000) (hs:St w0 (QuB Q q::L) w):
  Calls Tryz.prog 124 #[.pointer (some ⟨Q,0,none⟩)] w fun e w'=>∃ A cap,e= .returned (.slice A q.length cap)∧St w [own A q.length cap 99 7 (q.flatMap c7w)] w':=by
 obtain⟨A,cap,hs⟩:=hs.quopen
 have c0:=Rd.blk (w0:=w0) (g:=Q) (k:=0) (cs:=#[.slice A q.length cap]) (t:=199) (v:= .slice A q.length cap) rfl _ hs
 have hcap:A=none→q.length=0∧cap=0:=hs.drop.own_no
 have HB:=Lib.hid (cloneW_c (l:=q) hcap rfl (by omega) (St.start w) ((RdS.own hs.drop).tail.here hs))
 obtain⟨n,hn⟩:∃ n,Hid (q.length=n):=⟨_,rfl⟩
 rw[hn.out] at HB c0 ⊢
 clear hs
 go_enter Tryz.func124,Tryz.ntmps124
 go_wp2_with (first
  | (go_at_call 157;refine HB.out.mono ?_;clear c0;rintro r w ⟨B,cB,rfl,hs⟩))
 go_ret
 exact⟨B,cB,rfl,hs⟩
theorem wo_qall (hq:s.q.length≤10000) (hs:St w0 (WoB W E A R X Q n s::L) w) {k:Nat} (hk:Hid (s.q.length=k)):
  Calls Tryz.prog 124 #[.pointer (some ⟨Q,0,none⟩)] w fun e w'=>∃ B cap,e= .returned (.slice B k cap)∧St w [own B k cap 99 7 (s.q.flatMap c7w)] w':=by
 have h2:=qall_m (L:=YtiafdlofcjbllaaGreatDoor.blk W (woC E X Q s.held n s.e.top) 132::EnB E A R s.e::ReB X s.r::L) hq (hs.woopen.pm)
 rwa [hk.out] at h2
theorem wo_rall (hq:s.r.length≤32) (hs:St w0 (WoB W E A R X Q n s::L) w) {k:Nat} (hk:Hid (s.r.length=k)):
  Calls Tryz.prog 125 #[.pointer (some ⟨X,0,none⟩)] w fun e w'=>∃ B cap,e= .returned (.slice B k cap)∧St w0 (own B k cap 2 1 (i8v s.r)::WoB W E A R X Q n s::L) w':=by
 have h1:=hs.woopen
 refine (reall_c (L:=YtiafdlofcjbllaaGreatDoor.blk W (woC E X Q s.held n s.e.top) 132::EnB E A R s.e::QuB Q s.q::L) hq (h1.pm)).mono ?_
 rintro e w' ⟨B,cap,h3,h4⟩
 rw[hk.out] at h3 h4
 exact⟨B,cap,h3,(St.woshut (h4.pm (M:=YtiafdlofcjbllaaGreatDoor.blk W (woC E X Q s.held n s.e.top) 132::EnB E A R s.e::ReB X s.r::QuB Q s.q::own B k cap 2 1 (i8v s.r)::L))).rot⟩
end
section
variable {w0 w:World} {L:List As} {M:Nat} {t:WoS}
theorem dw_in (hs:St w0 (DwB M t::L) w) {n:Nat} (hn:Hid ((idxS 1 t.e.cs).length=n)) {hl:List Hdl} (HH:Hid (allH t.e.cs (idxS 1 t.e.cs)=hl)):∃ A3,w.cell? ⟨M,0,none⟩=some (.pointer (some ⟨A3,0,none⟩))∧∀ w1,Grew w w1→
  Calls Tryz.prog 45 #[.pointer (some ⟨A3,0,none⟩), .int .i64 1] w1 fun e w'=>∃ B cap,e= .returned (.slice B n cap)∧St w1 [own B n cap 40 2 (hsV hl)] w':=by
 obtain⟨A,m,c,L',hp,h0,h4,hr⟩:=hs.dwA
 have hf:=hr.raopen.1.fits
 refine⟨A,h0,fun w1 hg=>?_⟩
 have HN:Hid ((idxS 1 c).length=n):=by rw[Hid,← idxS_pad hf (by decide),hp];exact hn.out
 have HH2:Hid (allH c (idxS 1 c)=hl):=by rw[Hid,← all_pad hf (by decide),hp];exact HH.out
 refine (in_c (s:=1) (hr.grew hg) HN).mono ?_
 rintro e w' ⟨B,cap,he,h⟩
 rw[HH2.out] at h
 exact⟨B,cap,he,h⟩
end
end
end Go.Proofs.YtiafdlofcjbllaaGreatDoor
