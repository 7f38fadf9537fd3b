/-
  'Rows.WorldPlaysCardSaid' holds: for every input the law returns true, and each argument reads as it did.
-/
import Derived.Test.YtiafdlofcjbllaaGreatDoorCards
import Derived.Test.YtiafdlofcjbllaaGreatDoorTie
import Derived.WalkKit
import Derived.Test.YtiafdlofcjbllaaGreatDoorZA
import Derived.Test.YtiafdlofcjbllaaGreatDoorZP5
import Derived.Test.YtiafdlofcjbllaaGreatDoorZG
set_option maxRecDepth 100000
namespace Go.Proofs.YtiafdlofcjbllaaGreatDoor.fnWorldPlays
open Go Go.RowKit Go.ChangeShapes Go.WideShapes Go.ChangeAt
theorem own:ownKnob Tryz.prog.godebug=none:=by kernel_rfl
theorem gTab : Tryz.prog.globalNamed "math/bits.deBruijn64tab" = some 0 := by kernel_rfl
theorem gTabType:(Tryz.prog.globals[0]?).map (·.type)=some 287:=by kernel_rfl
theorem cellsTab:Tryz.prog.cellsOf 287=64:=by kernel_rfl
theorem cellsU8:Tryz.prog.cellsOf 5=1:=by kernel_rfl
theorem table {W:World} (h:laidMetH Tryz.prog Rows.worldPlaysRow.laid W):Tab W:=fun i hi=>by
 have h2 : Lib.TabIs Tryz.prog W "math/bits.deBruijn64tab" .u8 (Lib.deBruijn64tab.map Int.ofNat) := Lib.tabIs_of_head (rest := []) gTab gTabType Tryz.underlying287 Tryz.underlying5 cellsU8 cellsTab h
 have:=h2.cell gTab i (by simpa [Lib.deBruijn64tab] using hi)
 rw[this]
 simp[List.getD,show i < Lib.deBruijn64tab.length by simpa [Lib.deBruijn64tab] using hi]
theorem contract (H:Type) (enc:TypeId × Value→H) (W:World) (base:Nat) (args:Array Value) (ds gs:List (DataW H)) (before:List MemPlace)
  (hval:∀ (j:Nat) t v,Tryz.f12.params[j]? =some t→args[j]? =some v→Value.okWide Tryz.prog W .any base t v)
  (hW:DataW.Whole enc Tryz.prog Tryz.f12.params.toList Rows.worldPlaysSpec.vars false W args.toList ds gs before) (hL:laidMetH Tryz.prog Rows.worldPlaysRow.laid W):
  Calls Tryz.prog 12 args W fun e W'=>∃ v,e= .returned v∧Rows.worldPlaysSpec.post enc Tryz.prog Tryz.f12 false true false false W args v W':=by
 have hW':=hW
 obtain⟨p,q,hA,hV,rfl,hfz,hnd⟩:=hW
 rw[Tryz.params12] at hA hval
 obtain⟨v0,vs0,d0,ds0,p0,q0,hargs,rfl,rfl,h0,r0⟩:=trodAll_cons hA
 obtain⟨v1,vs1,d1,ds1,p1,q1,rfl,rfl,rfl,h1,r1⟩:=trodAll_cons r0
 obtain⟨v2,vs2,d2,ds2,p2,q2,rfl,rfl,rfl,h2,r2⟩:=trodAll_cons r1
 obtain⟨v3,vs3,d3,ds3,p3,q3,rfl,rfl,rfl,h3,r3⟩:=trodAll_cons r2
 obtain⟨rfl,rfl,rfl⟩:=trodAll_nil r3
 obtain rfl:args=#[v0,v1,v2,v3]:=by cases args;simp_all
 obtain⟨n0,rfl,rfl,rfl,w0⟩:=open_int Tryz.underlying3 (hval 0 3 v0 rfl rfl) h0
 obtain⟨b0,c0⟩:=bounds_i64 w0
 obtain⟨n1,rfl,rfl,rfl,w1⟩:=open_int Tryz.underlying2 (hval 1 2 v1 rfl rfl) h1
 obtain⟨b1,c1⟩:=bounds_i64 w1
 obtain⟨z2,s2⟩:=open_int_arg Tryz.underlying22 Tryz.underlying3 (by kernel_rfl) (okWide_slice Tryz.underlying22 (hval 2 22 v2 rfl rfl)) h2
 obtain⟨z3,s3⟩:=open_rows (encX:=c9o) (Q:=(fun _=>True)) (C:=9) (fun _=>rfl) (by decide) Tryz.underlying134 (by kernel_rfl) good9o (okWide_slice Tryz.underlying134 (hval 3 134 v3 rfl rfl)) h3
 refine (woplays_c (table hL) n0 n1 s2 s3).mono fun e W' ⟨he,hs⟩=>?_
 subst he
 exact⟨_,rfl,law_post (by kernel_rfl) hW' (fun t ht=>by
  have hall:(Tryz.f12.params.toList.all fun t=>Tryz.prog.readableRec t && decide (t < Tryz.prog.types.size))=true:=by kernel_rfl
  simpa using List.all_eq_true.1 hall t ht) rfl (bt:=4) (by kernel_rfl) Tryz.underlying4 rfl hs.below⟩
noncomputable def laidWorld (os:Os):World:=
 { World.holding Tryz.prog os ⟨#[],#[],[]⟩ with heap:=(World.holding Tryz.prog os ⟨#[],#[],[]⟩).heap.modify 0 fun
   | .cells _ t frozen=> .cells (Lib.deBruijn64tab.map fun z=>Value.int .u8 (z:Nat)).toArray t frozen
   | o=>o }
theorem laid_met (os:Os):laidMet Tryz.prog Rows.worldPlaysRow.laid ((laidWorld os).forCall (fun _ _=>0) ⟨#[],#[.int .i64 0, .int .i64 0, .slice none 0 0, .slice none 0 0],[]⟩).memory:=
 laidMet_of_run' 8 (by kernel_rfl) (by kernel_rfl)
theorem reads (os:Os) {H:Type} (enc:TypeId × Value→H):∃ places,DataW.whole enc Tryz.prog ((laidWorld os).forCall (fun _ _=>0) ⟨#[],#[.int .i64 0, .int .i64 0, .slice none 0 0, .slice none 0 0],[]⟩).memory Tryz.f12.params.toList Rows.worldPlaysSpec.vars false (#[.int .i64 0, .int .i64 0, .slice none 0 0, .slice none 0 0]:Array Value).toList 8=some ([.lit (.int .i64 0), .lit (.int .i64 0), .nil, .nil],[],places):=
 ⟨[],by kernel_rfl⟩
set_option maxRecDepth 100000 in
theorem lifted (os:Os) (started:os.Started) (H:Type) (enc:TypeId × Value→H) (F:Stop.Interp):
  ReturnsInHanded {} Tryz.checked os 12 .any ((OpenSpec.ofChange Rows.worldPlaysSpec).preRow enc Tryz.prog Tryz.f12 Rows.worldPlaysRow.domain false Rows.worldPlaysRow.laid) (((OpenSpec.ofChange Rows.worldPlaysSpec).at F).post enc Tryz.prog Tryz.f12 false true false false):=by
 obtain⟨places,hx⟩:=reads os enc
 refine returnsInHanded_of_row (C:=Tryz.checked) (s:=(OpenSpec.ofChange Rows.worldPlaysSpec)) own started (by kernel_rfl) Tryz.func12
  (witness_row_at (enc:=enc) (C:=Tryz.checked) false (laidWorld os) #[.int .i64 0, .int .i64 0, .slice none 0 0, .slice none 0 0] rfl (by kernel_rfl) (by kernel_rfl) (by kernel_rfl)
   (OpenSpec.preRow_of_cond 8 hx (by kernel_rfl) (fun k hk=>by cases hk) (by kernel_rfl) (laid_met os))) ?_
 intro W base args ds gs before hval hW _ _ _ hL _ _
 exact contract H enc W base args ds gs before hval hW hL
theorem said:Rows.WorldPlaysSaid:=
 OpenClaim.holds_of_cond 12 Tryz.f12 rfl rfl rfl rfl rfl rfl rfl ⟨rfl,rfl,rfl,rfl,rfl⟩ rfl rfl rfl rfl rfl (by kernel_rfl) Tryz.func12 (by kernel_rfl)
  (of_decide_eq_true (by kernel_rfl)) (by unfold Func.isWrapper;first | (rw[if_pos (by decide+kernel)];kernel_rfl) | (rw[if_neg (by decide+kernel)];exact⟨rfl,rfl⟩))
  (fun os started H enc _ F=>by rw[OpenClaim.pre_eq_preRow];exact lifted os started H enc F)
theorem plain (f : FuncId) (fn : Func) (hf : Tryz.pinned.checked.prog.funcNamed "vivarium/vivariumlaw16.WorldPlays" = some f) (hfn : Tryz.pinned.checked.prog.funcs[f]? = some fn) :
  false=Tryz.pinned.checked.prog.looks []∧∀ (j:Nat) t,fn.params[j]? =some t→Tryz.pinned.checked.prog.wantsStandIn t=false:=by
 obtain rfl : f = 12 := Option.some.inj ((show Tryz.prog.funcNamed "vivarium/vivariumlaw16.WorldPlays" = some 12 by kernel_rfl).symm.trans hf) |>.symm
 obtain rfl:fn=Tryz.f12:=(Option.some.inj (Tryz.func12.symm.trans hfn)).symm
 refine⟨by kernel_rfl,fun j t ht=>?_⟩
 have hall:(Tryz.f12.params.toList.all fun u=>!Tryz.prog.wantsStandIn u)=true:=by kernel_rfl
 exact (show Tryz.prog.wantsStandIn t=false by simpa using List.all_eq_true.1 hall t (by simpa using Array.mem_of_getElem? ht))
theorem card:Rows.WorldPlaysCardSaid:=
 Claim7.holds_tied_plain_at .later [] _ _ _ _ said (fun _ h=>by cases h) (by kernel_rfl) (fun _ h=>by cases h) worldPlays_row_tie rfl ⟨rfl,rfl⟩ (by kernel_rfl) rfl plain (by kernel_rfl)
end Go.Proofs.YtiafdlofcjbllaaGreatDoor.fnWorldPlays
namespace Go.Proofs.YtiafdlofcjbllaaGreatDoor
theorem worldPlays_holds:Rows.WorldPlaysCardSaid:=fnWorldPlays.card
#print axioms worldPlays_holds
end Go.Proofs.YtiafdlofcjbllaaGreatDoor
