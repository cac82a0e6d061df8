/-
  What is proved: JoinJoins returns true for every graph and all plans of parts that may come in: the plan of the whole is told exactly, as the definition answers, or that the plans aren't some that run; it runs, and, cut, it is these plans; the example of the document is carried out by the kernel, and what came in reads behind it as before; the card ties the three tables that the row lists to the program's text. Its conditions are the statement's own.
-/
import Derived.Test.YtklpoimdclflmaaGreatDoorCards
import Derived.Test.YtklpoimdclflmaaGreatDoorTie
import Derived.ShutString
import Derived.ChangeOld
import Derived.LaidMore
import Derived.Stop.Joined
import Derived.Test.YtklpoimdclflmaaGreatDoorTTBA
import Derived.Lib.LaidTab
set_option linter.all false
namespace Go.Proofs.YtklpoimdclflmaaGreatDoor.joinJoins
open Go.ChangeShapes Go.WideShapes Go.ChangeAt Go.RowKit
open Go.ChangeMaps (open_string shut_string)
open Go.Am (AH AV AO IsRowE Rep VR VRs law_of_C GL NRow news)
theorem own:ownKnob Tryz.prog.godebug=none:=by kernel_rfl
theorem laidOut:laidOutB Tryz.prog=true:=by kernel_rfl
theorem door_met(os:Os)(args:Array Value):laidMetH Tryz.prog Rows.joinJoinsRow.laid ((World.doorLaid Tryz.prog 24 os).forCall (λ_ _=>0) ⟨#[],args,[]⟩).memory :=
 laidMetH_of_parts3 (fuel:=8) (laidMet_of_run' 8 (by kernel_rfl) (by kernel_rfl)) (by kernel_rfl) (by kernel_rfl)
theorem walk(n:Int)(a0 a1:Option Addr)(l0 c0 l1 c1:Nat)(z0:List Int)(ks:List PRow)(w:World)(w0:IsRowE .i64 2 w a0 l0 c0 z0)(s0:∀x,a0=some x->x.spot=none)(w1:PlIn w a1 l1 c1 ks) :
 Calls Tryz.prog 3 #[.agg #[.int .i64 n,.slice a0 l0 c0],.slice a1 l1 c1] w λe w'=>e=.returned (.bool true)/\Below w.heap.size w w':=by
 obtain⟨σ,os,v0,v1,hos,gl,r,h0,h1,len0,he,len1,hs⟩:=Mv (P:=Tryz.prog) w0 s0 w1;refine law_of_C mixed srts det (FJ (n:=n) hos len0 he len1 hs) r gl ?_;simp only[VRs];refine⟨_,_,rfl,?_,_,_,rfl,h1,rfl⟩;simp only[VR];refine⟨[.int .i64 n,.slice a0 l0 c0],rfl,?_⟩;simp only[VRs];exact⟨_,_,rfl,by simp[VR],_,_,rfl,h0,rfl⟩
set_option maxRecDepth 100000 in
theorem lifted(os:Os)(started:os.Started)(H:Type)(enc:TypeId×Value->H) :
 ReturnsInHanded {} Tryz.checked os 3 .any (λw args=>(Rows.joinJoinsSpec.pre enc Tryz.prog Tryz.f3 [] false w args/\laidMetH Tryz.prog Rows.joinJoinsRow.laid w)/\sizedMet enc Tryz.prog Tryz.f3 (OpenSpec.ofChange Rows.joinJoinsSpec) false w args)
  (Rows.joinJoinsSpec.post enc Tryz.prog Tryz.f3 false true false false):=by
 refine returnsInHanded_of_change_and (C:=Tryz.checked) (X:=λw _=>laidMetH Tryz.prog Rows.joinJoinsRow.laid w) (λ_ _ _ hh h=>h.of_heap hh) own started (by kernel_rfl) Tryz.func3
  (ChangeSpec.witness_shaped (enc:=enc) (C:=Tryz.checked) (os:=os) (X:=λw _=>laidMetH Tryz.prog Rows.joinJoinsRow.laid w) false (World.doorLaid Tryz.prog 24 os) #[.agg #[.int .i64 0,.slice none 0 0],.slice none 0 0] 8 rfl (World.shaped_of_RefB (by kernel_rfl) (by kernel_rfl)) (by kernel_rfl) (by kernel_rfl) (by kernel_rfl) (door_met os _)) ?_
 intro W base args ds gs before hval0 hW _ _ hL _;have hval:∀(j:Nat) t v,Tryz.f3.params[j]?=some t->args[j]?=some v->Value.okWide Tryz.prog W .any base t v:=hval0;have hW':=hW;obtain⟨p,q,hA0,hV,rfl,hfz,hnd⟩:=hW;have hA:DataW.TrodAll enc Tryz.prog W 0 (λ_=>true) true Tryz.f3.params.toList args.toList ds p:=hA0;rw[Tryz.params3]at hA hval;obtain⟨v0,vs0,d0,ds0,p0,q0,hargs,rfl,rfl,h0,r0⟩:=trodAll_cons hA;obtain⟨v1,vs1,d1,ds1,p1,q1,rfl,rfl,rfl,h1,r1⟩:=trodAll_cons r0;obtain⟨rfl,rfl,rfl⟩:=trodAll_nil r1;obtain rfl:args=#[v0,v1]:=by cases args;simp_all
 obtain⟨rfl,rfl⟩:=trodVars_none hV;obtain⟨n,a0,l0,c0,z0,rfl,w0,s0⟩:=Cq (hval 0 24 v0 rfl rfl) h0;obtain⟨a1,l1,c1,ks,rfl,w1⟩:=HH (hval 1 25 v1 rfl rfl) h1;have k0:=h0;have k1:=h1;have lt0:∀x∈p0,x.block<W.heap.size:=by obtain⟨m,hm⟩:=k0;exact DataW.trod_lt m _ _ _ hm
 have lt1:∀x∈p1,x.block<W.heap.size:=by obtain⟨m,hm⟩:=k1;exact DataW.trod_lt m _ _ _ hm
 clear hA0 hval0;refine(walk n a0 a1 l0 c0 l1 c1 z0 ks W w0 s0 w1).mono λe W' ⟨he,bel⟩=>?_;subst he;exact⟨_,rfl,_,_,_,[],_,[],hW',trodAll_mk1 (shut_bool Tryz.underlying4 _),(trodAll_cons_mk (Below.trod laidOut (by kernel_rfl) (aY (by kernel_rfl)) k0 bel lt0) (trodAll_cons_mk (Below.trod laidOut (by kernel_rfl) (aY (by kernel_rfl)) k1 bel lt1) trodAll_mk0)),rfl,bel.frame _,λh=>by cases h⟩
theorem said:Rows.JoinJoinsSaid :=
 OpenClaim.holds_of_wide 3 Tryz.f3 rfl rfl rfl rfl rfl rfl rfl ⟨rfl,rfl,rfl,rfl,rfl⟩ rfl rfl rfl rfl rfl (by kernel_rfl) Tryz.func3 (by kernel_rfl)
  (aY (by kernel_rfl)) (by unfold Func.isWrapper;first|(rw[if_pos (by decide +kernel)];kernel_rfl)|(rw[if_neg (by decide +kernel)];exact⟨rfl,rfl⟩))
  (λos started H enc _=>lifted os started H enc)
theorem plain(f:FuncId)(fn:Func)(hf:Tryz.pinned.checked.prog.funcNamed "arbor/arborlaw13.JoinJoins"=some f)(hfn:Tryz.pinned.checked.prog.funcs[f]?=some fn) :
 false=Tryz.pinned.checked.prog.looks []/\∀(j:Nat) t,fn.params[j]?=some t->Tryz.pinned.checked.prog.wantsStandIn t=false:=by
 obtain rfl:f=3:=Option.some.inj ((show Tryz.prog.funcNamed "arbor/arborlaw13.JoinJoins"=some 3 by kernel_rfl).symm.trans hf) |>.symm;obtain rfl:fn=Tryz.f3:=(Option.some.inj (Tryz.func3.symm.trans hfn)).symm;refine⟨by kernel_rfl,λj t ht=>?_⟩;rw[Tryz.params3]at ht;have h3:t=24\/t=25:=by simpa using Array.mem_of_getElem? ht
 rcases h3 with rfl|rfl
 .exact(show Tryz.prog.wantsStandIn 24=false by kernel_rfl)
 .exact(show Tryz.prog.wantsStandIn 25=false by kernel_rfl)
theorem proved:Rows.JoinJoinsCardSaid :=
 Claim7.holds_tied_plain_at .later [] _ _ _ _ said (λ_ h=>by cases h) (by kernel_rfl) (λ_ h=>by cases h) joinJoins_row_tie rfl ⟨rfl,rfl⟩ (by kernel_rfl) rfl plain (by kernel_rfl)
#print axioms proved
end Go.Proofs.YtklpoimdclflmaaGreatDoor.joinJoins
