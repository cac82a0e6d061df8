/-
  What is proved: PlanarWays returns true for every graph and any two numbers that may come in: whether planar.Is says that a graph can be laid in the plane stays when an edge becomes a way of two through a new vertex, and when a vertex is hung on by an edge. Its conditions are the statement's own; nothing is assumed beside them.
-/
import Derived.Test.YtpeemonpdlifbaaRows
import Derived.WalkKit
import Derived.ProofKit
import Derived.OpenShut
import Derived.ShutString
import Derived.ChangeOld
import Derived.Below
import Derived.Test.YtpeemonpdlifbaaQTAA
import Derived.Test.YtpeemonpdlifbaaQTAC
import Derived.Test.YtpeemonpdlifbaaQTBB
set_option linter.all false
namespace Go.Proofs.Ytpeemonpdlifbaa.planarWays
open Go.ChangeShapes Go.WideShapes Go.ChangeAt Go.RowKit
open Go.ChangeMaps (open_string shut_string)
open Go.Am (AH AV AO IsRowE Rep VR VRs law_of_C GL news)
theorem own:ownKnob Try.prog.godebug=none:=by kernel_rfl
theorem laidOut:laidOutB Try.prog=true:=by kernel_rfl
theorem walk (n z x:Int) (a0:Option Addr) (l0 c0:Nat) (z0:List Int) (w:World) (w0:IsRowE .i64 2 w a0 l0 c0 z0) (s0:∀ x,a0=some x→x.spot=none) :
 Calls Try.prog 5 #[.agg #[.int .i64 n,.slice a0 l0 c0],.int .i64 z,.int .i64 x] w fun e w'=>e=.returned (.bool true)∧Below w.heap.size w w':=by
 obtain⟨σ,os,v0,hos,gl,r,h0,he⟩:=came_g (P:=Try.prog) w0 s0
 refine law_of_C mixed srts det (ways_law (n:=n) (z:=z) (x:=x) he) r gl ?_
 simp only[VRs]
 refine⟨_,_,rfl,?_,_,_,rfl,by simp [VR],_,_,rfl,by simp [VR],rfl⟩
 simp only[VR]
 refine⟨[.int .i64 n,.slice a0 l0 c0],rfl,?_⟩
 simp only[VRs]
 exact⟨_,_,rfl,by simp [VR],_,_,rfl,h0,rfl⟩
set_option maxRecDepth 100000 in
theorem lifted (os:Os) (started:os.Started) (H:Type) (enc:TypeId×Value→H) :
 ReturnsInHanded {} Try.checked os 5 .any (Rows.planarWaysSpec.pre6 enc Try.prog Try.f5 Rows.planarWaysRow.domain false) (Rows.planarWaysSpec.post enc Try.prog Try.f5 false true false false):=by
 refine returnsInHanded_of_change (C:=Try.checked) own started (by kernel_rfl) Try.func5
  (ChangeSpec.witness6 (enc:=enc) (C:=Try.checked) false ⟨#[],#[.agg #[.int .i64 0,.slice none 0 0],.int .i64 0,.int .i64 0],[]⟩ 8 (by kernel_rfl) (by kernel_rfl) (by kernel_rfl) (by kernel_rfl)) ?_
 intro W base args ds gs before hval0 hW hcnd _
 have hval:∀ (j:Nat) t v,Try.f5.params[j]?=some t→args[j]?=some v→Value.okWide Try.prog W .any base t v:=hval0
 have hW':=hW
 obtain⟨p,q,hA0,hV,rfl,hfz,hnd⟩:=hW
 have hA:DataW.TrodAll enc Try.prog W 0 (fun _=>true) true Try.f5.params.toList args.toList ds p:=hA0
 rw[Try.params5] at hA hval
 obtain⟨v0,vs0,d0,ds0,p0,q0,hargs,rfl,rfl,h0,r0⟩:=trodAll_cons hA
 obtain⟨v1,vs1,d1,ds1,p1,q1,rfl,rfl,rfl,h1,r1⟩:=trodAll_cons r0
 obtain⟨v2,vs2,d2,ds2,p2,q2,rfl,rfl,rfl,h2,r2⟩:=trodAll_cons r1
 obtain⟨rfl,rfl,rfl⟩:=trodAll_nil r2
 obtain rfl:args=#[v0,v1,v2]:=by cases args; simp_all
 obtain⟨rfl,rfl⟩:=trodVars_none hV
 obtain⟨n,a0,l0,c0,z0,rfl,w0,s0⟩:=open_graph (hval 0 24 v0 rfl rfl) h0
 obtain⟨z,rfl,rfl,rfl,_⟩:=open_int Try.underlying3 (hval 1 3 v1 rfl rfl) h1
 obtain⟨x,rfl,rfl,rfl,_⟩:=open_int Try.underlying3 (hval 2 3 v2 rfl rfl) h2
 have k0:=h0
 have k1:=h1
 have k2:=h2
 have lt0:∀ x∈p0,x.block<W.heap.size:=by obtain⟨m,hm⟩:=k0; exact DataW.trod_lt m _ _ _ hm
 clear hA0 hval0
 refine (walk n z x a0 l0 c0 z0 W w0 s0).mono fun e W' ⟨he,bel⟩=>?_
 subst he
 exact⟨_,rfl,_,_,_,[],_,[],hW',trodAll_mk1 (shut_bool Try.underlying4 _),(trodAll_cons_mk (Below.trod laidOut (by kernel_rfl) (of_decide_eq_true (by kernel_rfl)) k0 bel lt0) (trodAll_cons_mk (Below.trod laidOut (by kernel_rfl) (of_decide_eq_true (by kernel_rfl)) k1 bel (by simp)) (trodAll_cons_mk (Below.trod laidOut (by kernel_rfl) (of_decide_eq_true (by kernel_rfl)) k2 bel (by simp)) trodAll_mk0))),rfl,bel.frame _,fun h=>by cases h⟩
theorem over:Rows.planarWaysRow.holds Try.pinned (OpenSpec.ofChange Rows.planarWaysSpec) :=
 OpenClaim.holds_of_wide 5 Try.f5 rfl rfl rfl rfl rfl rfl rfl ⟨rfl,rfl,rfl,rfl,rfl⟩ rfl rfl rfl rfl rfl (by kernel_rfl) Try.func5 (by kernel_rfl)
  (of_decide_eq_true (by kernel_rfl)) (by unfold Func.isWrapper; first|(rw[if_pos (by decide +kernel)]; kernel_rfl)|(rw[if_neg (by decide +kernel)]; exact⟨rfl,rfl⟩))
  (fun os started H enc _=>lifted os started H enc)
theorem proved:Rows.PlanarWaysSaid:=over
#print axioms proved
end Go.Proofs.Ytpeemonpdlifbaa.planarWays
