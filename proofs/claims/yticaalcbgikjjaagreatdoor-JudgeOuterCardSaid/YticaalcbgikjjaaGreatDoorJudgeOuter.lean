/-
  What is proved: JudgeOuter returns true for every graph, every list of lists and every number that may come in: a rotation shows that a graph is upward with just those outer faces that can be some; the example of the document is carried out by the kernel, and what came in reads behind it as before; the card ties the three tables that the row lists to the program's text. Its conditions are the statement's own.
-/
import Derived.Test.YticaalcbgikjjaaGreatDoorRows
import Derived.Test.YticaalcbgikjjaaGreatDoorCards
import Derived.Test.YticaalcbgikjjaaGreatDoorTie
import Derived.WalkKit
import Derived.ProofKit
import Derived.OpenShut
import Derived.ShutString
import Derived.ChangeOld
import Derived.Below
import Derived.LaidMore
import Derived.Stop.Joined
import Derived.Deep.Matrix
import Derived.Test.YticaalcbgikjjaaGreatDoorKOpen
import Derived.Test.YticaalcbgikjjaaGreatDoorKCome
import Derived.Test.YticaalcbgikjjaaGreatDoorKOf
import Derived.Test.YticaalcbgikjjaaGreatDoorKSol
import Derived.Lib.LaidTab
import Derived.Test.YticaalcbgikjjaaGreatDoorKFa
import Derived.Test.YticaalcbgikjjaaGreatDoorKFb
import Derived.Test.YticaalcbgikjjaaGreatDoorKFc
set_option linter.all false
namespace Go.Proofs.YticaalcbgikjjaaGreatDoor.judgeOuter
open Go.ChangeShapes Go.WideShapes Go.ChangeAt Go.RowKit
open Go.ChangeMaps (open_string shut_string)
open Go.Am (AH AV AO IsRowE Rep VR VRs law_of_C GL NRow news)
theorem own:ownKnob Tryz.prog.godebug=none:=by kernel_rfl
theorem door_met (os:Os) (args:Array Value):laidMetH Tryz.prog Rows.judgeOuterRow.laid ((World.doorLaid Tryz.prog 24 os).forCall (fun _ _=>0) ⟨#[],args,[]⟩).memory :=
 laidMetH_of_parts3 (fuel:=8) (laidMet_of_run' 8 (by kernel_rfl) (by kernel_rfl)) (by kernel_rfl) (by kernel_rfl)
theorem walk (n o:Int) (a0 a2:Option Addr) (l0 c0 l2 c2:Nat) (z0:List Int) (rows:List NRow) (w:World) (w0:IsRowE .i64 2 w a0 l0 c0 z0) (s0:∀ x,a0=some x→x.spot=none) (w2:RowsIn w a2 l2 c2 rows) :
 Calls Tryz.prog 3 #[.agg #[.int .i64 n,.slice a0 l0 c0],.slice a2 l2 c2,.int .i64 o] w fun e w'=>e=.returned (.bool true)∧Below w.heap.size w w':=by
 obtain⟨σ,os,v0,v2,E,T,hos,gl,r,h0,h2,he,hT⟩:=came_in (P:=Tryz.prog) w0 s0 w2
 refine law_of_C mixed srts det (outer_law (n:=n) (o:=o) hos he hT) r gl ?_
 simp only[VRs]
 refine⟨_,_,rfl,?_,_,_,rfl,h2,_,_,rfl,by simp [VR],rfl⟩
 simp only[VR]
 refine⟨[.int .i64 n,.slice a0 l0 c0],rfl,?_⟩
 simp only[VRs]
 exact⟨_,_,rfl,by simp [VR],_,_,rfl,h0,rfl⟩
set_option maxRecDepth 100000 in
theorem lifted (os:Os) (started:os.Started) (H:Type) (enc:TypeId×Value→H) :
 ReturnsInHanded {} Tryz.checked os 3 .any (fun w args=>(Rows.judgeOuterSpec.pre enc Tryz.prog Tryz.f3 [] false w args∧laidMetH Tryz.prog Rows.judgeOuterRow.laid w)∧sizedMet enc Tryz.prog Tryz.f3 (OpenSpec.ofChange Rows.judgeOuterSpec) false w args)
  (Rows.judgeOuterSpec.post enc Tryz.prog Tryz.f3 false true false false):=by
 refine returnsInHanded_of_change_and (C:=Tryz.checked) (X:=fun w _=>laidMetH Tryz.prog Rows.judgeOuterRow.laid w) (fun _ _ _ hh h=>h.of_heap hh) own started (by kernel_rfl) Tryz.func3
  (ChangeSpec.witness_shaped (enc:=enc) (C:=Tryz.checked) (os:=os) (X:=fun w _=>laidMetH Tryz.prog Rows.judgeOuterRow.laid w) false (World.doorLaid Tryz.prog 24 os) #[.agg #[.int .i64 0,.slice none 0 0],.slice none 0 0,.int .i64 0] 8 rfl (World.shaped_of_RefB (by kernel_rfl) (by kernel_rfl)) (by kernel_rfl) (by kernel_rfl) (by kernel_rfl) (door_met os _)) ?_
 intro W base args ds gs before hval0 hW _ _ hL _
 have hval:∀ (j:Nat) t v,Tryz.f3.params[j]?=some t→args[j]?=some v→Value.okWide Tryz.prog W .any base t v:=hval0
 have hW':=hW
 obtain⟨p,q,hA0,hV,rfl,hfz,hnd⟩:=hW
 have hA:DataW.TrodAll enc Tryz.prog W 0 (fun _=>true) true Tryz.f3.params.toList args.toList ds p:=hA0
 rw[Tryz.params3] at hA hval
 obtain⟨v0,vs0,d0,ds0,p0,q0,hargs,rfl,rfl,h0,r0⟩:=trodAll_cons hA
 obtain⟨v1,vs1,d1,ds1,p1,q1,rfl,rfl,rfl,h1,r1⟩:=trodAll_cons r0
 obtain⟨v2,vs2,d2,ds2,p2,q2,rfl,rfl,rfl,h2,r2⟩:=trodAll_cons r1
 obtain⟨rfl,rfl,rfl⟩:=trodAll_nil r2
 obtain rfl:args=#[v0,v1,v2]:=by cases args; simp_all
 obtain⟨rfl,rfl⟩:=trodVars_none hV
 have k0:=h0
 have k1:=h1
 have k2:=h2
 have lt0:∀ x∈p0,x.block<W.heap.size:=by obtain⟨m,hm⟩:=k0; exact DataW.trod_lt m _ _ _ hm
 have lt1:∀ x∈p1,x.block<W.heap.size:=by obtain⟨m,hm⟩:=k1; exact DataW.trod_lt m _ _ _ hm
 have lt2:∀ x∈p2,x.block<W.heap.size:=by obtain⟨m,hm⟩:=k2; exact DataW.trod_lt m _ _ _ hm
 obtain⟨n,a0,l0,c0,z0,rfl,w0,s0⟩:=open_graph (hval 0 24 v0 rfl rfl) h0
 obtain⟨a2,l2,c2,rfl⟩:=okWide_slice Tryz.underlying25 (hval 1 25 v1 rfl rfl)
 obtain⟨rows,w2⟩:∃ rows,RowsIn W a2 l2 c2 rows:=by
  have hv1:=hval 1 25 _ rfl rfl
  obtain⟨fuel,hf⟩:=h1
  obtain⟨a,l,c,rows,e,hr⟩:=rows_of (c:=.slice a2 l2 c2) (base:=base) (by simp only[Value.okWide,Tryz.underlying25] at hv1; exact hv1) hf
  cases e
  exact⟨rows,hr⟩
 obtain⟨o,rfl⟩:=okWide_int Tryz.underlying3 (hval 2 3 v2 rfl rfl)
 clear hA0 hval0
 refine (walk n o a0 a2 l0 c0 l2 c2 z0 rows W w0 s0 w2).mono fun e W' ⟨he,bel⟩=>?_
 subst he
 exact⟨_,rfl,_,_,_,[],_,[],hW',trodAll_mk1 (shut_bool Tryz.underlying4 _),(trodAll_cons_mk (Below.trod laidOut (by kernel_rfl) (of_decide_eq_true (by kernel_rfl)) k0 bel lt0) (trodAll_cons_mk (Below.trod laidOut (by kernel_rfl) (of_decide_eq_true (by kernel_rfl)) k1 bel lt1) (trodAll_cons_mk (Below.trod laidOut (by kernel_rfl) (of_decide_eq_true (by kernel_rfl)) k2 bel lt2) trodAll_mk0))),rfl,bel.frame _,fun h=>by cases h⟩
theorem and2 {a b:Bool} (ha:a=true) (hb:b=true):(a&&b)=true:=by
 rw[ha,hb]
 rfl
theorem joined:joinedFacts Tryz.prog 3 Tryz.f3 Rows.judgeOuterSpec Rows.judgeOuterRow=true:=by
 unfold joinedFacts
 exact and2 (and2 (and2 (and2 (and2 (and2 (and2 (and2 (and2 (and2 (and2 (and2 (and2 (and2 (and2 (and2 (and2 (and2 (and2 (and2 (and2 (and2 (and2 (and2 (and2 (and2 (and2 (and2 (and2 (and2 (and2 (by kernel_rfl) laidOut) rowedMaps) (by kernel_rfl)) (by kernel_rfl)) (by kernel_rfl)) (by kernel_rfl)) (by kernel_rfl)) (by kernel_rfl)) inPlace3) unfollowed3) recurses3) named3) (by kernel_rfl)) (by kernel_rfl)) (by kernel_rfl)) (by kernel_rfl)) (by kernel_rfl)) (by kernel_rfl)) (by kernel_rfl)) (by kernel_rfl)) (by kernel_rfl)) (by kernel_rfl)) (by kernel_rfl)) heardStops) mayEnter) (by kernel_rfl)) (by kernel_rfl)) (by kernel_rfl)) (by kernel_rfl)) (by kernel_rfl)) (by kernel_rfl)
theorem said:Rows.JudgeOuterSaid :=
 OpenClaim.holds_of_wide 3 Tryz.f3 rfl rfl rfl rfl rfl rfl rfl ⟨rfl,rfl,rfl,rfl,rfl⟩ rfl rfl rfl rfl rfl (by kernel_rfl) Tryz.func3 joined
  (of_decide_eq_true (by kernel_rfl)) (by unfold Func.isWrapper; first|(rw[if_pos (by decide +kernel)]; kernel_rfl)|(rw[if_neg (by decide +kernel)]; exact⟨rfl,rfl⟩))
  (fun os started H enc _=>lifted os started H enc)
theorem plain (f:FuncId) (fn:Func) (hf:Tryz.pinned.checked.prog.funcNamed "arbor/arborlaw26.JudgeOuter"=some f) (hfn:Tryz.pinned.checked.prog.funcs[f]?=some fn) :
 false=Tryz.pinned.checked.prog.looks []∧∀ (j:Nat) t,fn.params[j]?=some t→Tryz.pinned.checked.prog.wantsStandIn t=false:=by
 obtain rfl:f=3:=Option.some.inj ((show Tryz.prog.funcNamed "arbor/arborlaw26.JudgeOuter"=some 3 by kernel_rfl).symm.trans hf) |>.symm
 obtain rfl:fn=Tryz.f3:=(Option.some.inj (Tryz.func3.symm.trans hfn)).symm
 refine⟨by kernel_rfl,fun j t ht=>?_⟩
 rw[Tryz.params3] at ht
 have h3:t=24∨t=25∨t=3:=by simpa using Array.mem_of_getElem? ht
 rcases h3 with rfl|rfl|rfl
 ·exact (show Tryz.prog.wantsStandIn 24=false by kernel_rfl)
 ·exact (show Tryz.prog.wantsStandIn 25=false by kernel_rfl)
 ·exact (show Tryz.prog.wantsStandIn 3=false by kernel_rfl)
theorem proved:Rows.JudgeOuterCardSaid :=
 Claim7.holds_tied_plain_at .later [] _ _ _ _ said (fun _ h=>by cases h) (by kernel_rfl) (fun _ h=>by cases h) judgeOuter_row_tie rfl ⟨rfl,rfl⟩ (by kernel_rfl) rfl plain (by kernel_rfl)
#print axioms proved
end Go.Proofs.YticaalcbgikjjaaGreatDoor.judgeOuter
