/-
  XJC: joined of XHwd XBits XBits2.
-/
import Derived.Test.YtiafdlofcjbllaaGreatDoorZB
import Derived.Test.YtiafdlofcjbllaaGreatDoorZA
import Derived.Test.YtiafdlofcjbllaaGreatDoorProg
import Derived.Outline
import Derived.Lib.Hide
import Derived.Lib.Walk
import Derived.Lib.BitFns
set_option maxRecDepth 100000
namespace Go.Proofs.YtiafdlofcjbllaaGreatDoor
section
open Go Go.RowKit
attribute [local irreducible] wpList Calls Code.wp
def wordS (S:List Nat) (level at_:Int):Nat:=if 0≤level∧level < 4∧0≤at_∧at_ < 64 ^ (3 - level.toNat) then wordOf S (level.toNat,at_.toNat) else 0
attribute [local irreducible] plc dig wordOf wordS
def ww (l:Nat):Int:=match l with
 | 0=>262144
 | 1=>4096
 | 2=>64
 | _=>1
end
section
open Go Go.RowKit
def Tab (w:World):Prop:=∀ i,i < 64→w.cell? ⟨0,i,none⟩=some (.int .u8 (Lib.deBruijn64tab.getD i 0:Nat))
theorem Tab.st {w0 w:World} {L:List As} (h:Tab w0) (hs:St w0 L w):Tab w:=fun i hi=>Rd.old (h i hi) w hs
theorem tz_arith {x:Nat} (h0:x ≠ 0) (hx:x < 2 ^ 64):∃ p j:Nat,bits .and .u64 (x:Int) (IntKind.u64.wrap (-(x:Int)))=(p:Int)∧IntKind.u64.wrap ((p:Int)*285870213051353865) / 288230376151711744=(j:Int)∧j < 64∧Lib.deBruijn64tab.getD j 0=Lib.ctz 64 x:=by
 obtain⟨m,h1,h2⟩:=Lib.ctzFrom_spec 64 x (by omega) hx
 have hc:Lib.ctz 64 x=Lib.ctzFrom 64 x:=by unfold Lib.ctz;rw[if_neg h0]
 rw[hc]
 generalize Lib.ctzFrom 64 x=k at*
 have ha:=Lib.and_neg 64 k m (by rw[← h1];exact hx)
 rw[← h1] at ha
 have hd:=Lib.deBruijn64_at k h2
 refine⟨2 ^ k,_,?_,?_,hd.1,hd.2⟩
 ·have:IntKind.u64.wrap (-(x:Int))=((2 ^ 64 - x:Nat):Int):=by rw[IntKind.wrap_u64];omega
  rw[this,and_u64 _ _ hx (by omega),ha]
 ·rw[show ((2 ^ k:Nat):Int)*285870213051353865=((2 ^ k*285870213051353865:Nat):Int) by simp,IntKind.wrap_u64]
  omega
theorem tz_c (x:Nat) (hx:x < 2 ^ 64) (w:World) (hT:Tab w):Calls Tryz.prog 176 #[.int .u64 x] w fun e w'=>e= .returned (.int .i64 (Lib.ctz 64 x:Nat))∧w=w':=by
 by_cases h0:x=0
 ·subst h0
  go_enter Tryz.func176,Tryz.ntmps176
  go_wp2
  go_ret
  exact⟨rfl,rfl⟩
 ·obtain⟨p,j,h1,h2,h3,h4⟩:=tz_arith h0 hx
  have hc:=hT j h3
  rw[h4] at hc
  have hb:=h0
  have hz:((x:Int)==0)=false:=by simpa using h0
  have hlt:Lib.ctz 64 x≤64:=by have:=(ctz_spec h0 hx).1;omega
  have hw:IntKind.i64.wrap ((Lib.ctz 64 x:Nat):Int)=(Lib.ctz 64 x:Nat):=IntWalk.i64_in _ (by omega)
  generalize Lib.ctz 64 x=c at*
  clear hT h4 h0 hb
  go_enter Tryz.func176,Tryz.ntmps176
  go_wp2
  go_ret
  exact⟨rfl,rfl⟩
section
variable {P:Program} {ops:Array Oper} {Q:Exit→Act→World→Prop} {a:Act} {w:World} {rest:List Oper} {dst:Option Tmp} {ty:TypeId} {pos:String} {after:Array Edge}
end
end
section
open Go Go.RowKit
attribute [local irreducible] wpList Calls Code.wp
theorem firstW_far {x:Nat} {f:Int} (h:64≤f):firstW x f= -1:=firstW_none fun j h1 h2=>by omega
theorem first_at {x d:Nat} (hx:x < 2 ^ 64) (hd:d < 64) (w:World) (hT:Tab w):Calls Tryz.prog 172 #[.int .u64 x, .int .i64 (d:Int)] w fun e w'=>e= .returned (.int .i64 (firstW x d))∧w=w':=by
 have hs:=firstW_shift (f:=d) hx
 have hq:(x:Int) / 2 ^ d=((x / 2 ^ d:Nat):Int):=by simp
 have hle:x / 2 ^ d < 2 ^ 64:=Nat.lt_of_le_of_lt (Nat.div_le_self _ _) hx
 generalize x / 2 ^ d=y at*
 have HS:=Lib.hid hs
 clear hs
 by_cases h0:y=0
 ·have hz:((y:Int)==0)=true:=by simpa using h0
  have HH:=Lib.hid h0
  clear h0
  go_enter Tryz.func172,Tryz.ntmps172
  go_wp2
  go_ret
  exact⟨by rw[HS.out,if_pos HH.out];rfl,rfl⟩
 ·have hz:((y:Int)==0)=false:=by simpa using h0
  have hc:Lib.ctz 64 y < 64:=(ctz_spec h0 hle).1
  have HH:=Lib.hid h0
  clear h0
  go_enter Tryz.func172,Tryz.ntmps172
  go_wp2_with (first | (go_at_call 176;refine (tz_c _ hle _ hT).mono ?_;rintro e w' ⟨rfl,rfl⟩))
  go_ret
  exact⟨by rw[HS.out,if_neg HH.out];rfl,rfl⟩
theorem first_c {x:Nat} (hx:x < 2 ^ 64) (f:Int) (w:World) (hT:Tab w):Calls Tryz.prog 172 #[.int .u64 x, .int .i64 f] w fun e w'=>e= .returned (.int .i64 (firstW x f))∧w=w':=by
 by_cases h1:64≤f
 ·have H:=Lib.hid (firstW_far (x:=x) h1)
  go_enter Tryz.func172,Tryz.ntmps172
  go_wp2
  go_ret
  exact⟨by rw[H.out];rfl,rfl⟩
 ·by_cases h2:0≤f
  ·obtain⟨d,rfl⟩:=Int.eq_ofNat_of_zero_le h2
   exact first_at hx (by omega) w hT
  ·have h3:f < 0:=by omega
   have e:firstW x f=firstW x ((0:Nat):Int):=by rw[firstW_max];congr 1;omega
   have hs:=firstW_shift (f:=0) hx
   rw[← e] at hs
   simp only[Nat.pow_zero,Nat.div_one,Nat.zero_add] at hs
   have HS:=Lib.hid hs
   clear hs e h1 h2
   have hmx:max f 0=0:=by omega
   by_cases h0:x=0
   ·have hz:((x:Int)==0)=true:=by simpa using h0
    have HH:=Lib.hid h0
    clear h0
    go_enter Tryz.func172,Tryz.ntmps172
    go_wp2
    go_ret
    exact⟨by rw[HS.out,if_pos HH.out];rfl,rfl⟩
   ·have hz:((x:Int)==0)=false:=by simpa using h0
    have hc:Lib.ctz 64 x < 64:=(ctz_spec h0 hx).1
    have HH:=Lib.hid h0
    clear h0
    go_enter Tryz.func172,Tryz.ntmps172
    go_wp2_with (first | (go_at_call 176;refine (tz_c _ hx _ hT).mono ?_;rintro e w' ⟨rfl,rfl⟩))
    go_ret
    exact⟨by rw[HS.out,if_neg HH.out];rfl,rfl⟩
theorem downM_first (x i:Nat) (hi:i < 64):downM (firstW x ((i:Int)+1)) < downM (i:Int):=by
 have h1:=firstW_lt x ((i:Int)+1)
 unfold downM
 by_cases h:firstW x ((i:Int)+1) < 0
 ·rw[if_pos h,if_neg (by omega)];omega
 ·rw[if_neg h,if_neg (by omega)]
  have:=firstW_ge (x:=x) (k:=(i:Int)+1) (by omega)
  omega
def digOk (a:Int):Prop:=0≤a∧a < 64
def digs (a b c d:Int):Nat→Int
 | 0=>a
 | 1=>b
 | 2=>c
 | _=>d
def JoinPost (a b c d:Int) (w:World) (e:Ending) (w':World):Prop:=
 (digOk a∧digOk b∧digOk c∧digOk d→e= .returned (.tuple #[.int .i64 (a+64*(b+64*(c+64*d))), .bool true]))∧
  (¬ (digOk a∧digOk b∧digOk c∧digOk d)→e= .returned (.tuple #[.int .i64 0, .bool false]))∧w=w'
end
section
open Go Go.RowKit
attribute [local irreducible] wpList Calls Code.wp
def AtI (S:List Nat) (f:Int) (k:Nat):Prop:=k≤S.length∧(∀ a∈S.take k,(a:Int) < f)∧∀ a∈S.drop k,f≤(a:Int)
theorem AtI.from_ {S:List Nat} {f:Int} {k:Nat} (h:AtI S f k):S.drop k=fromS S f:=by
 have e:S=S.take k++S.drop k:=(List.take_append_drop k S).symm
 unfold fromS
 conv=>rhs;rw[e]
 rw[List.filter_append,List.filter_eq_nil_iff.2 fun a ha=>by have:=h.2.1 a ha;simp;omega,List.nil_append,List.filter_eq_self.2 fun a ha=>by have:=h.2.2 a ha;simpa using this]
theorem AtI.mem {S:List Nat} (hS:S.Pairwise (· < ·)) {f:Int} {k:Nat} (h:AtI S f k):memS S f=(match S[k]? with | some a=>(a:Int)==f | none=>false):=by
 rw[Bool.eq_iff_iff]
 unfold memS
 rw[List.any_eq_true]
 constructor
 ·rintro⟨a,ha,h1⟩
  have h2:(a:Int)=f:=by simpa using h1
  rw[← List.take_append_drop k S,List.mem_append] at ha
  rcases ha with ha | ha
  ·have:=h.2.1 a ha;omega
  ·cases hd:S.drop k with
   | nil=>rw[hd] at ha;cases ha
   | cons b l=>
    have hb:=h.2.2 b (by rw[hd];exact List.mem_cons_self)
    have hk:S[k]? =some b:=by
     have:=List.getElem?_drop (xs:=S) (i:=k) (j:=0)
     rw[hd] at this
     simpa using this.symm
    rw[hk]
    rw[hd] at ha
    have hp:(b::l).Pairwise (· < ·):=hd ▸ hS.sublist (List.drop_sublist k S)
    rcases List.mem_cons.1 ha with e | h3
    ·subst e;simpa using h1
    ·have:=(List.pairwise_cons.1 hp).1 a h3
     omega
 ·intro h1
  cases hk:S[k]? with
  | none=>rw[hk] at h1;cases h1
  | some a=>
   rw[hk] at h1
   exact⟨a,List.mem_of_getElem? hk,h1⟩
theorem AtI.of {S:List Nat} {f:Int} {k:Nat} (hk:k≤S.length) (h1:∀ j a,j < k→S[j]? =some a→(a:Int) < f) (h2:∀ j a,k≤j→S[j]? =some a→f≤(a:Int)):AtI S f k:=by
 refine⟨hk,fun a ha=>?_,fun a ha=>?_⟩
 ·obtain⟨j,hj⟩:=List.mem_iff_getElem?.1 ha
  rw[List.getElem?_take] at hj
  split at hj
  ·exact h1 j a (by assumption) hj
  ·cases hj
 ·obtain⟨j,hj⟩:=List.mem_iff_getElem?.1 ha
  rw[List.getElem?_drop] at hj
  exact h2 (k+j) a (Nat.le_add_right _ _) hj
def Bin (S:List Nat) (f:Int) (lo hi:Nat):Prop:=lo≤hi∧hi≤S.length∧(∀ j a,j < lo→S[j]? =some a→(a:Int) < f)∧∀ j a,hi≤j→S[j]? =some a→f≤(a:Int)
theorem sorted_le {S:List Nat} (hS:S.Pairwise (· < ·)) {i j a b:Nat} (h:i≤j) (ha:S[i]? =some a) (hb:S[j]? =some b):a≤b:=by
 rcases Nat.lt_or_ge i j with h1 | h1
 ·obtain⟨hi,ea⟩:=List.getElem?_eq_some_iff.1 ha
  obtain⟨hj,eb⟩:=List.getElem?_eq_some_iff.1 hb
  have:=List.pairwise_iff_getElem.1 hS i j hi hj h1
  omega
 ·obtain rfl:i=j:=by omega
  rw[ha] at hb
  injection hb with hb
  omega
theorem Bin.start (S:List Nat) (f:Int):Bin S f 0 S.length:=⟨Nat.zero_le _,Nat.le_refl _,fun j _ h=>absurd h (Nat.not_lt_zero j),fun j a h hj=>by rw[List.getElem?_eq_none h] at hj;cases hj⟩
theorem Bin.up {S:List Nat} (hS:S.Pairwise (· < ·)) {f:Int} {lo hi m x:Nat} (h:Bin S f lo hi) (hm:m < hi) (hx:S[m]? =some x) (hlt:(x:Int) < f):Bin S f (m+1) hi:=
 ⟨hm,h.2.1,fun j a hj ha=>by have:=sorted_le hS (show j≤m by omega) ha hx;omega,h.2.2.2⟩
theorem Bin.down {S:List Nat} (hS:S.Pairwise (· < ·)) {f:Int} {lo hi m x:Nat} (h:Bin S f lo hi) (hm:lo≤m) (hm2:m < hi) (hx:S[m]? =some x) (hlt:¬ (x:Int) < f):Bin S f lo m:=
 ⟨hm,by have:=h.2.1;omega,h.2.2.1,fun j a hj ha=>by have:=sorted_le hS hj hx ha;omega⟩
theorem Bin.done {S:List Nat} {f:Int} {lo hi:Nat} (h:Bin S f lo hi) (he:hi≤lo):AtI S f lo:=
 AtI.of (by have:=h.1;have:=h.2.1;omega) h.2.2.1 fun j a hj ha=>h.2.2.2 j a (by omega) ha
theorem intv_take (S:List Nat) (k:Nat):(intv S).take k=intv (S.take k):=by simp[intv]
theorem intv_drop (S:List Nat) (k:Nat):(intv S).drop k=intv (S.drop k):=by simp[intv]
theorem RdS.take {w0:World} {L:List As} {A:Option Addr} {S:List Nat} (h:RdS w0 L A (intv S)) (k:Nat):RdS w0 L A (intv (S.take k)):=fun j u hu=>by
 rw[← intv_take,List.getElem?_take] at hu
 split at hu
 ·exact h j u hu
 ·cases hu
theorem RdS.drop {w0:World} {L:List As} {g:Nat} {S:List Nat} (h:RdS w0 L (some ⟨g,0,none⟩) (intv S)) (k:Nat):RdS w0 L (some ⟨g,k,none⟩) (intv (S.drop k)):=fun j u hu=>by
 rw[← intv_drop,List.getElem?_drop] at hu
 obtain⟨ad,h1,h2,h3⟩:=h _ u hu
 injection h1 with h1
 subst h1
 refine⟨_,rfl,rfl,?_⟩
 simpa using h3
theorem St.own_addr {w0 w:World} {A:Option Addr} {n cap:Nat} {e:TypeId} {size:Nat} {xs:List Value} {L:List As} (hs:St w0 (own A n cap e size xs::L) w):(A=none∧n=0∧cap=0)∨∃ g,A=some ⟨g,0,none⟩:=
 hs.fact fun _ h=>by
  rcases h.2 with ⟨h1,h2,h3,_⟩ | ⟨g,cur,hA,_⟩
  ·exact .inl ⟨h1,h2,h3⟩
  ·exact .inr ⟨g,hA⟩
end
section
open Go Go.RowKit
attribute [local irreducible] wpList Calls Code.wp
attribute [local irreducible] setS addS okN memS remS errN nextS fromS
theorem take_snoc_eq {S1 S2:List Nat} {k x y:Nat} (h:S1.take k=S2.take k) (hx:S1[k]? =some x) (hy:S2[k]? =some y) (e:x=y):S1.take (k+1)=S2.take (k+1):=by
 obtain⟨h1,e1⟩:=List.getElem?_eq_some_iff.1 hx
 obtain⟨h2,e2⟩:=List.getElem?_eq_some_iff.1 hy
 rw[List.take_succ_eq_append_getElem h1,List.take_succ_eq_append_getElem h2,h,e1,e2,e]
theorem rsame_c {w0 w:World} {L:List As} {S1 S2:List Nat} {A B:Option Addr} {n1 n2 c1 c2:Nat} {b:Bool} (h1:S1.length=n1) (h2:S2.length=n2) (hm1:n1≤4000000000) (hs:St w0 L w) (hr1:RdS w0 L A (intv S1)) (hr2:RdS w0 L B (intv S2)) (hb:b=true↔S1=S2):
  Calls Tryz.prog 35 #[.slice A n1 c1, .slice B n2 c2] w fun e w'=>e= .returned (.bool b)∧Grew w w':=by
 have HL1:=Lib.hid h1
 have HL2:=Lib.hid h2
 by_cases hne:n1=n2
 ·have HB:=Lib.hid hb
  clear hb h1 h2
  go_enter Tryz.func35,Tryz.ntmps35
  go_wp2
  go_loopw [5] (fun iv wr=>∃ k:Nat,k≤n1∧iv= .int .i64 (k:Nat)∧Hid (S1.take k=S2.take k)∧Grew w wr) (fun iv _=>n1 - (intOf iv).toNat)
  case atStart=>exact⟨0,Nat.zero_le _,rfl,rfl,Grew.refl w⟩
  case round=>
   obtain⟨k,hk,rfl,HT,hg⟩:=hrel
   by_cases hlt:k < n1
   ·obtain⟨x,hx⟩:∃ x,S1[k]? =some x:=⟨_,List.getElem?_eq_getElem (by rw[HL1.out];omega)⟩
    obtain⟨y,hy⟩:∃ y,S2[k]? =some y:=⟨_,List.getElem?_eq_getElem (by rw[HL2.out];omega)⟩
    obtain⟨p,o,rfl,hcx⟩:=hr1.get (intv_get hx)
    obtain⟨p',o',rfl,hcy⟩:=hr2.get (intv_get hy)
    have hcx:=hcx _ (hs.grew hg)
    have hcy:=hcy _ (hs.grew hg)
    by_cases hxy:x=y
    ·have HT2:=Lib.hid (take_snoc_eq HT.out hx hy hxy)
     clear HT hx hy
     go_wp2
     refine wp_region_grow (by kernel_rfl) (by kernel_rfl) fun hne2=>?_
     have g1:=fun p:GW wr=>p.grew.cell hcx
     have g2:=fun p:GW wr=>p.grew.cell hcy
     repeat (go_big_quiet_step (fail))
     refine wpQuiet_nil ?_
     clear hne2 g1 g2
     intro u hu
     go_wp2
     go_roundw
     case rel=>exact⟨k+1,by omega,by go_num,HT2,hg.trans hu⟩
     case measure=>simp[intOf] <;> omega
    ·have HF:Hid (b=false):=by
      rw[Hid]
      cases hbb:b with
      | false=>rfl
      | true=>
       have e:=HB.out.1 hbb
       rw[e,hy] at hx
       exact absurd (Option.some.inj hx).symm hxy
     clear HT hx hy HB
     go_wp2
     refine wp_region_grow (by kernel_rfl) (by kernel_rfl) fun hne2=>?_
     have g1:=fun p:GW wr=>p.grew.cell hcx
     have g2:=fun p:GW wr=>p.grew.cell hcy
     repeat (go_big_quiet_step (fail))
     refine wpQuiet_nil ?_
     clear hne2 g1 g2
     intro u hu
     go_wp2
     go_ret
     exact⟨by rw[HF.out];rfl,hg.trans hu⟩
   ·have HF:Hid (b=true):=by
     have e1:S1.take k=S1:=List.take_of_length_le (by rw[HL1.out];omega)
     have e2:S2.take k=S2:=List.take_of_length_le (by rw[HL2.out];omega)
     have:=HT.out
     rw[e1,e2] at this
     exact HB.out.2 this
    clear HT HB
    go_wp2
    go_ret
    exact⟨by rw[HF.out];rfl,hg⟩
 ·obtain rfl:b=false:=by
   cases hbb:b with
   | false=>rfl
   | true=>exact absurd (by rw[← h1,← h2,hb.1 hbb]) hne
  clear hb h1 h2
  go_enter Tryz.func35,Tryz.ntmps35
  go_wp2
  go_ret
  exact⟨rfl,Grew.refl w⟩
end
end Go.Proofs.YtiafdlofcjbllaaGreatDoor
