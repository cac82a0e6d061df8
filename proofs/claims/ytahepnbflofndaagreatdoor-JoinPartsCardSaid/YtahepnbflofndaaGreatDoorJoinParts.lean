/-
  What is proved: JoinParts returns true for every graph that may come in: its parts are told exactly, as the definition answers, or that it isn't good, and each of them is good; the example of the document is carried out by the kernel, and what came in reads behind it as before; the card ties the three tables that the row lists to the program's text. Its conditions are the statement's own.
-/
import Derived.Test.YtahepnbflofndaaGreatDoorRows
import Derived.Test.YtahepnbflofndaaGreatDoorCards
import Derived.Test.YtahepnbflofndaaGreatDoorTie
import Derived.WalkKit
import Derived.ProofKit
import Derived.OpenShut
import Derived.ShutString
import Derived.ChangeOld
import Derived.Below
import Derived.LaidMore
import Derived.Stop.Joined
import Derived.Deep.Matrix
import Derived.Test.YtahepnbflofndaaGreatDoorJOpen
import Derived.Test.YtahepnbflofndaaGreatDoorJInn
import Derived.Test.YtahepnbflofndaaGreatDoorJLPar
import Derived.Lib.LaidTab
set_option linter.all false
namespace Go.Proofs.YtahepnbflofndaaGreatDoor.joinParts
open Go.ChangeShapes Go.WideShapes Go.ChangeAt Go.RowKit
open Go.ChangeMaps (open_string shut_string)
open Go.Am (AH AV AO IsRowE Rep VR VRs law_of_C GL NRow news)
theorem own:ownKnob Tryz.prog.godebug=none:=by kernel_rfl
theorem laidOut:laidOutB Tryz.prog=true:=by kernel_rfl
theorem door_met (os:Os) (args:Array Value):laidMetH Tryz.prog Rows.joinPartsRow.laid ((World.doorLaid Tryz.prog 24 os).forCall (λ_ _=>0) ⟨#[],args,[]⟩).memory :=
 laidMetH_of_parts3 (fuel:=8) (laidMet_of_run' 8 (by kernel_rfl) (by kernel_rfl)) (by kernel_rfl) (by kernel_rfl)
theorem walk (n:Int) (a0:Option Addr) (l0 c0:Nat) (z0:List Int) (w:World) (w0:IsRowE .i64 2 w a0 l0 c0 z0) (s0:∀ x,a0=some x→x.spot=none) :
 Calls Tryz.prog 5 #[.agg #[.int .i64 n,.slice a0 l0 c0]] w λe w'=>e=.returned (.bool true)∧Below w.heap.size w w':=by
 obtain⟨σ,os,v0,hos,gl,r,h0,he⟩:=Hq (P:=Tryz.prog) w0 s0
 refine law_of_C mixed det (zL (n:=n) hos he) r gl ?_
 simp only[VRs]
 refine⟨_,_,rfl,?_,rfl⟩
 simp only[VR]
 refine⟨[.int .i64 n,.slice a0 l0 c0],rfl,?_⟩
 simp only[VRs]
 exact⟨_,_,rfl,by simp [VR],_,_,rfl,h0,rfl⟩
set_option maxRecDepth 100000 in
theorem lifted (os:Os) (started:os.Started) (H:Type) (enc:TypeId×Value→H) :
 ReturnsInHanded {} Tryz.checked os 5 .any (λw args=>(Rows.joinPartsSpec.pre enc Tryz.prog Tryz.f5 [] false w args∧laidMetH Tryz.prog Rows.joinPartsRow.laid w)∧sizedMet enc Tryz.prog Tryz.f5 (OpenSpec.ofChange Rows.joinPartsSpec) false w args)
  (Rows.joinPartsSpec.post enc Tryz.prog Tryz.f5 false true false false):=by
 refine returnsInHanded_of_change_and (C:=Tryz.checked) (X:=λw _=>laidMetH Tryz.prog Rows.joinPartsRow.laid w) (λ_ _ _ hh h=>h.of_heap hh) own started (by kernel_rfl) Tryz.func5
  (ChangeSpec.witness_shaped (enc:=enc) (C:=Tryz.checked) (os:=os) (X:=λw _=>laidMetH Tryz.prog Rows.joinPartsRow.laid w) false (World.doorLaid Tryz.prog 24 os) #[.agg #[.int .i64 0,.slice none 0 0]] 8 rfl (World.shaped_of_RefB (by kernel_rfl) (by kernel_rfl)) (by kernel_rfl) (by kernel_rfl) (by kernel_rfl) (door_met os _)) ?_
 intro W base args ds gs before hval0 hW _ _ hL _
 have hval:∀ (j:Nat) t v,Tryz.f5.params[j]?=some t→args[j]?=some v→Value.okWide Tryz.prog W .any base t v:=hval0
 have hW':=hW
 obtain⟨p,q,hA0,hV,rfl,hfz,hnd⟩:=hW
 have hA:DataW.TrodAll enc Tryz.prog W 0 (λ_=>true) true Tryz.f5.params.toList args.toList ds p:=hA0
 rw[Tryz.params5] at hA hval
 obtain⟨v0,vs0,d0,ds0,p0,q0,hargs,rfl,rfl,h0,r0⟩:=trodAll_cons hA
 obtain⟨rfl,rfl,rfl⟩:=trodAll_nil r0
 obtain rfl:args=#[v0]:=by cases args; simp_all
 obtain⟨rfl,rfl⟩:=trodVars_none hV
 obtain⟨n,a0,l0,c0,z0,rfl,w0,s0⟩:=wV (hval 0 31 v0 rfl rfl) h0
 have k0:=h0
 have lt0:∀ x∈p0,x.block<W.heap.size:=by obtain⟨m,hm⟩:=k0; exact DataW.trod_lt m _ _ _ hm
 clear hA0 hval0
 refine (walk n a0 l0 c0 z0 W w0 s0).mono λe W' ⟨he,bel⟩=>?_
 subst he
 exact⟨_,rfl,_,_,_,[],_,[],hW',trodAll_mk1 (shut_bool Tryz.underlying4 _),(trodAll_cons_mk (Below.trod laidOut (by kernel_rfl) (aF (by kernel_rfl)) k0 bel lt0) trodAll_mk0),rfl,bel.frame _,λh=>by cases h⟩
theorem said:Rows.JoinPartsSaid :=
 OpenClaim.holds_of_wide 5 Tryz.f5 rfl rfl rfl rfl rfl rfl rfl ⟨rfl,rfl,rfl,rfl,rfl⟩ rfl rfl rfl rfl rfl (by kernel_rfl) Tryz.func5 (by kernel_rfl)
  (aF (by kernel_rfl)) (by unfold Func.isWrapper; first|(rw[if_pos (by decide +kernel)]; kernel_rfl)|(rw[if_neg (by decide +kernel)]; exact⟨rfl,rfl⟩))
  (λos started H enc _=>lifted os started H enc)
theorem plain (f:FuncId) (fn:Func) (hf:Tryz.pinned.checked.prog.funcNamed "arbor/arborlaw13.JoinParts"=some f) (hfn:Tryz.pinned.checked.prog.funcs[f]?=some fn) :
 false=Tryz.pinned.checked.prog.looks []∧∀ (j:Nat) t,fn.params[j]?=some t→Tryz.pinned.checked.prog.wantsStandIn t=false:=by
 obtain rfl:f=5:=Option.some.inj ((show Tryz.prog.funcNamed "arbor/arborlaw13.JoinParts"=some 5 by kernel_rfl).symm.trans hf) |>.symm
 obtain rfl:fn=Tryz.f5:=(Option.some.inj (Tryz.func5.symm.trans hfn)).symm
 refine⟨by kernel_rfl,λj t ht=>?_⟩
 rw[Tryz.params5] at ht
 have h3:t=31:=by simpa using Array.mem_of_getElem? ht
 subst h3
 exact (show Tryz.prog.wantsStandIn 31=false by kernel_rfl)
theorem proved:Rows.JoinPartsCardSaid :=
 Claim7.holds_tied_plain_at .later [] _ _ _ _ said (λ_ h=>by cases h) (by kernel_rfl) (λ_ h=>by cases h) joinParts_row_tie rfl ⟨rfl,rfl⟩ (by kernel_rfl) rfl plain (by kernel_rfl)
#print axioms proved
end Go.Proofs.YtahepnbflofndaaGreatDoor.joinParts
