/-
  What is proved: CensusAround returns true for all sizes that may come in: in how many ways edges of blocks of these sizes can stand around a vertex is what the statement reckons, and, of up to seven edges, how many orders the definition counts; the example of the document is carried out by the kernel; the card ties the table that the row lists to the program's text. Its conditions are the statement's own; nothing is assumed beside them.
-/
import Derived.Test.YtahepnbflofndaaGreatDoorRows
import Derived.Test.YtahepnbflofndaaGreatDoorCards
import Derived.Test.YtahepnbflofndaaGreatDoorTie
import Derived.WalkKit
import Derived.ProofKit
import Derived.OpenShut
import Derived.ShutString
import Derived.ChangeOld
import Derived.Below
import Derived.LaidMore
import Derived.Stop.Joined
import Derived.Deep.Matrix
import Derived.Test.YtahepnbflofndaaGreatDoorCInn
import Derived.Test.YtahepnbflofndaaGreatDoorCLAro
import Derived.Lib.LaidTab
set_option linter.all false
namespace Go.Proofs.YtahepnbflofndaaGreatDoor.censusAround
open Go.ChangeShapes Go.WideShapes Go.ChangeAt Go.RowKit
open Go.ChangeMaps (open_string shut_string)
open Go.Am (AH AV AO IsRowE Rep VR VRs law_of_C GL St0 news)
theorem own:ownKnob Tryz.prog.godebug=none:=by kernel_rfl
theorem laidOut:laidOutB Tryz.prog=true:=by kernel_rfl
theorem door_met (os:Os) (args:Array Value):laidMetH Tryz.prog Rows.censusAroundRow.laid ((World.doorLaid Tryz.prog 24 os).forCall (fun _ _=>0) ⟨#[],args,[]⟩).memory :=
 laidMetH_of_parts3 (fuel:=8) (laidMet_of_run' 8 (by kernel_rfl) (by kernel_rfl)) (by kernel_rfl) (by kernel_rfl)
theorem gTab:Tryz.prog.globalNamed "math/bits.deBruijn64tab"=some 0:=by kernel_rfl
theorem tTab:(Tryz.prog.globals[0]?).map (·.type)=some 238:=by kernel_rfl
theorem cells238:Tryz.prog.cellsOf 238=64:=by kernel_rfl
theorem of_laid {W:World} (h:laidMetH Tryz.prog Rows.censusAroundRow.laid W):∀ i,i<tab64.length→W.cell? ⟨0,i,none⟩=some (.int .u8 (tab64.getD i 0)):=by
 rw[MakeChecks.laidMetH_plain _ _ _ (by kernel_rfl)] at h
 obtain⟨ps,⟨g,t,cs,fu,p,q,hg,ht,hvar,hd,_,_⟩,_⟩:=h
 obtain rfl:=Option.some.inj (gTab.symm.trans hg)
 obtain rfl:=Option.some.inj (tTab.symm.trans ht)
 have hT:Lib.TabIs Tryz.prog W "math/bits.deBruijn64tab" .u8 tab64:=by
  unfold Lib.TabIs
  rw[hvar,← Lib.cells_of_tab Tryz.underlying238 Tryz.underlying5 (by kernel_rfl) cells238 hd]
 exact fun i hi=>hT.cell gTab i hi
theorem cells3:Tryz.prog.cellsOf 3=1:=by kernel_rfl
theorem row_of {H:Type}{enc:TypeId×Value→H}{W:World}{fuel:Nat}{c:Value}{x:DataW H×List MemPlace} (h:DataW.trod enc Tryz.prog W 0 (fun _=>true) true fuel 22 [c]=some x) :
 ∃ a len cap zs,c=.slice a len cap∧IsRowE .i64 1 W a len cap zs:=by
 rcases open_ints Tryz.underlying22 Tryz.underlying3 cells3 h with ⟨hcs,_⟩|⟨x,l,c,zs,hcs,_,hl,hm,hz,_,hcell,hwz⟩
 ·simp only[List.cons.injEq,and_true] at hcs
  exact⟨none,0,0,[],hcs,.inl ⟨rfl,rfl,rfl,rfl⟩⟩
 ·simp only[List.cons.injEq,and_true] at hcs
  exact⟨some x,l,c,zs,hcs,.inr ⟨_,rfl,hl,hm,by simpa using hz,hcell,hwz⟩⟩
theorem walk (a1:Option Addr) (l1 c1:Nat) (z1:List Int) (w:World) (w1:IsRowE .i64 1 w a1 l1 c1 z1) (hL:laidMetH Tryz.prog Rows.censusAroundRow.laid w) :
 Calls Tryz.prog 3 #[.slice a1 l1 c1] w fun e w'=>e=.returned (.bool true)∧Below w.heap.size w w':=by
 obtain⟨σ0,st⟩:=(St0.zero Tryz.prog w).layX (g:=0) (by decide) (by decide) (of_laid hL)
 obtain⟨σ1,o1,v1,t1,t2,t3,_,t5,t6⟩:=ints1b st.rep rfl w1
 refine law_of_C mixed det (aro_law (os:=[o1]) rfl t5 (fun b o n c e=>by rw[t6 b o n c e]; exact Nat.le_refl _)) t2 (st.gl.mono t1) ?_
 simp only[VRs]
 exact⟨_,_,rfl,t3,rfl⟩
set_option maxRecDepth 100000 in
theorem lifted (os:Os) (started:os.Started) (H:Type) (enc:TypeId×Value→H) :
 ReturnsInHanded {} Tryz.checked os 3 .any (fun w args=>(Rows.censusAroundSpec.pre enc Tryz.prog Tryz.f3 [] false w args∧laidMetH Tryz.prog Rows.censusAroundRow.laid w)∧sizedMet enc Tryz.prog Tryz.f3 (OpenSpec.ofChange Rows.censusAroundSpec) false w args)
  (Rows.censusAroundSpec.post enc Tryz.prog Tryz.f3 false true false false):=by
 refine returnsInHanded_of_change_and (C:=Tryz.checked) (X:=fun w _=>laidMetH Tryz.prog Rows.censusAroundRow.laid w) (fun _ _ _ hh h=>h.of_heap hh) own started (by kernel_rfl) Tryz.func3
  (ChangeSpec.witness_shaped (enc:=enc) (C:=Tryz.checked) (os:=os) (X:=fun w _=>laidMetH Tryz.prog Rows.censusAroundRow.laid w) false (World.doorLaid Tryz.prog 24 os) #[.slice none 0 0] 8 rfl (World.shaped_of_RefB (by kernel_rfl) (by kernel_rfl)) (by kernel_rfl) (by kernel_rfl) (by kernel_rfl) (door_met os _)) ?_
 intro W base args ds gs before hval0 hW _ _ hL _
 have hval:∀ (j:Nat) t v,Tryz.f3.params[j]?=some t→args[j]?=some v→Value.okWide Tryz.prog W .any base t v:=hval0
 have hW':=hW
 obtain⟨p,q,hA0,hV,rfl,hfz,hnd⟩:=hW
 have hA:DataW.TrodAll enc Tryz.prog W 0 (fun _=>true) true Tryz.f3.params.toList args.toList ds p:=hA0
 rw[Tryz.params3] at hA hval
 obtain⟨v0,vs0,d0,ds0,p0,q0,hargs,rfl,rfl,h0,r0⟩:=trodAll_cons hA
 obtain⟨rfl,rfl,rfl⟩:=trodAll_nil r0
 obtain rfl:args=#[v0]:=by cases args; simp_all
 obtain⟨rfl,rfl⟩:=trodVars_none hV
 obtain⟨a1,l1,c1,rfl⟩:=okWide_slice Tryz.underlying22 (hval 0 22 v0 rfl rfl)
 have k0:=h0
 obtain⟨z1,w1⟩:∃ zs,IsRowE .i64 1 W a1 l1 c1 zs:=by
  obtain⟨fuel,hf⟩:=h0
  obtain⟨a,l,c,zs,e,hr⟩:=row_of (c:=.slice a1 l1 c1) hf
  cases e
  exact⟨zs,hr⟩
 have lt0:∀ x∈p0,x.block<W.heap.size:=by obtain⟨m,hm⟩:=k0; exact DataW.trod_lt m _ _ _ hm
 clear hA0 hval0
 refine (walk a1 l1 c1 z1 W w1 hL).mono fun e W' ⟨he,bel⟩=>?_
 subst he
 exact⟨_,rfl,_,_,_,[],_,[],hW',trodAll_mk1 (shut_bool Tryz.underlying4 _),(trodAll_cons_mk (Below.trod laidOut (by kernel_rfl) (of_decide_eq_true (by kernel_rfl)) k0 bel lt0) trodAll_mk0),rfl,bel.frame _,fun h=>by cases h⟩
theorem said:Rows.CensusAroundSaid :=
 OpenClaim.holds_of_wide 3 Tryz.f3 rfl rfl rfl rfl rfl rfl rfl ⟨rfl,rfl,rfl,rfl,rfl⟩ rfl rfl rfl rfl rfl (by kernel_rfl) Tryz.func3 (by kernel_rfl)
  (of_decide_eq_true (by kernel_rfl)) (by unfold Func.isWrapper; first|(rw[if_pos (by decide +kernel)]; kernel_rfl)|(rw[if_neg (by decide +kernel)]; exact⟨rfl,rfl⟩))
  (fun os started H enc _=>lifted os started H enc)
theorem plain (f:FuncId) (fn:Func) (hf:Tryz.pinned.checked.prog.funcNamed "arbor/arborlaw15.CensusAround"=some f) (hfn:Tryz.pinned.checked.prog.funcs[f]?=some fn) :
 false=Tryz.pinned.checked.prog.looks []∧∀ (j:Nat) t,fn.params[j]?=some t→Tryz.pinned.checked.prog.wantsStandIn t=false:=by
 obtain rfl:f=3:=Option.some.inj ((show Tryz.prog.funcNamed "arbor/arborlaw15.CensusAround"=some 3 by kernel_rfl).symm.trans hf) |>.symm
 obtain rfl:fn=Tryz.f3:=(Option.some.inj (Tryz.func3.symm.trans hfn)).symm
 refine⟨by kernel_rfl,fun j t ht=>?_⟩
 rw[Tryz.params3] at ht
 have h3:t=22:=by simpa using Array.mem_of_getElem? ht
 subst h3
 exact (show Tryz.prog.wantsStandIn 22=false by kernel_rfl)
theorem proved:Rows.CensusAroundCardSaid :=
 Claim7.holds_tied_plain_at .later [] _ _ _ _ said (fun _ h=>by cases h) (by kernel_rfl) (fun _ h=>by cases h) censusAround_row_tie rfl ⟨rfl,rfl⟩ (by kernel_rfl) rfl plain (by kernel_rfl)
#print axioms proved
end Go.Proofs.YtahepnbflofndaaGreatDoor.censusAround
