/-
  What is proved: KuraNever returns true for every graph and all numbers of edges that may come in: a graph with edges of a kind, and these alone, can not be laid in the plane; without any one of these edges they can. Its conditions are the statement's own; nothing is assumed beside them.
-/
import Derived.ShutString
import Derived.ChangeOld
import Derived.Test.YtcfncejilmimpaaGreatVTAA
import Derived.Test.YtcfncejilmimpaaGreatVTBB
set_option linter.all false
namespace Go.Proofs.YtcfncejilmimpaaGreat.kuraNever
open Go.ChangeShapes Go.WideShapes Go.ChangeAt Go.RowKit
open Go.ChangeMaps (open_string shut_string)
open Go.Am (AH AV AO IsRowE Rep VR VRs law_of_C GL news)
theorem own:ownKnob Tryz.prog.godebug=none:=by kernel_rfl
theorem laidOut:laidOutB Tryz.prog=true:=by kernel_rfl
theorem walk(n:Int)(a0 a1:Option Addr)(l0 c0 l1 c1:Nat)(z0 z1:List Int)(w:World)(w0:IsRowE .i64 2 w a0 l0 c0 z0)(s0:∀x,a0=some x->x.spot=none)(w1:IsRowE .i64 1 w a1 l1 c1 z1) :
 Calls Tryz.prog 3 #[.agg #[.int .i64 n,.slice a0 l0 c0],.slice a1 l1 c1] w λe w'=>e=.returned (.bool true)/\Below w.heap.size w w':=by
 obtain⟨σ,os,v0,v1,hos,gl,r,h0,h1,he,hi⟩:=LK (P:=Tryz.prog) w0 s0 w1;refine law_of_C mixed srts det (ED (n:=n) hos he hi) r gl ?_;simp only[VRs];refine⟨_,_,rfl,?_,_,_,rfl,h1,rfl⟩;simp only[VR];refine⟨[.int .i64 n,.slice a0 l0 c0],rfl,?_⟩;simp only[VRs];exact⟨_,_,rfl,by simp[VR],_,_,rfl,h0,rfl⟩
set_option maxRecDepth 100000 in
theorem lifted(os:Os)(started:os.Started)(H:Type)(enc:TypeId×Value->H) :
 ReturnsInHanded {} Tryz.checked os 3 .any (Rows.kuraNeverSpec.pre6 enc Tryz.prog Tryz.f3 Rows.kuraNeverRow.domain false) (Rows.kuraNeverSpec.post enc Tryz.prog Tryz.f3 false true false false):=by
 refine returnsInHanded_of_change (C:=Tryz.checked) own started (by kernel_rfl) Tryz.func3
  (ChangeSpec.witness6 (enc:=enc) (C:=Tryz.checked) false ⟨#[],#[.agg #[.int .i64 0,.slice none 0 0],.slice none 0 0],[]⟩ 8 (by kernel_rfl) (by kernel_rfl) (by kernel_rfl) (by kernel_rfl)) ?_
 intro W base args ds gs before hval0 hW hcnd _;have hval:∀(j:Nat) t v,Tryz.f3.params[j]?=some t->args[j]?=some v->Value.okWide Tryz.prog W .any base t v:=hval0;have hW':=hW;obtain⟨p,q,hA0,hV,rfl,hfz,hnd⟩:=hW;have hA:DataW.TrodAll enc Tryz.prog W 0 (λ_=>true) true Tryz.f3.params.toList args.toList ds p:=hA0;rw[Tryz.params3]at hA hval;obtain⟨v0,vs0,d0,ds0,p0,q0,hargs,rfl,rfl,h0,r0⟩:=trodAll_cons hA;obtain⟨v1,vs1,d1,ds1,p1,q1,rfl,rfl,rfl,h1,r1⟩:=trodAll_cons r0;obtain⟨rfl,rfl,rfl⟩:=trodAll_nil r1;obtain rfl:args=#[v0,v1]:=by cases args;simp_all
 obtain⟨rfl,rfl⟩:=trodVars_none hV;obtain⟨n,a0,l0,c0,z0,rfl,w0,s0⟩:=Bv (hval 0 24 v0 rfl rfl) h0;obtain⟨a1,l1,c1,rfl⟩:=okWide_slice Tryz.underlying25 (hval 1 25 v1 rfl rfl);have k0:=h0;have k1:=h1;obtain⟨z1,w1⟩:∃zs,IsRowE .i64 1 W a1 l1 c1 zs:=by
  obtain⟨fuel,hf⟩:=h1;obtain⟨a,l,c,zs,e,hr⟩:=Nd (c:=.slice a1 l1 c1) hf;cases e;exact⟨zs,hr⟩
 have lt0:∀x∈p0,x.block<W.heap.size:=by obtain⟨m,hm⟩:=k0;exact DataW.trod_lt m _ _ _ hm
 have lt1:∀x∈p1,x.block<W.heap.size:=by obtain⟨m,hm⟩:=k1;exact DataW.trod_lt m _ _ _ hm
 clear hA0 hval0;refine(walk n a0 a1 l0 c0 l1 c1 z0 z1 W w0 s0 w1).mono λe W' ⟨he,bel⟩=>?_;subst he;exact⟨_,rfl,_,_,_,[],_,[],hW',trodAll_mk1 (shut_bool Tryz.underlying4 _),(trodAll_cons_mk (Below.trod laidOut (by kernel_rfl) (dg (by kernel_rfl)) k0 bel lt0) (trodAll_cons_mk (Below.trod laidOut (by kernel_rfl) (dg (by kernel_rfl)) k1 bel lt1) trodAll_mk0)),rfl,bel.frame _,λh=>by cases h⟩
theorem over:Rows.kuraNeverRow.holds Tryz.pinned (OpenSpec.ofChange Rows.kuraNeverSpec) :=
 OpenClaim.holds_of_wide 3 Tryz.f3 rfl rfl rfl rfl rfl rfl rfl ⟨rfl,rfl,rfl,rfl,rfl⟩ rfl rfl rfl rfl rfl (by kernel_rfl) Tryz.func3 (by kernel_rfl)
  (dg (by kernel_rfl)) (by unfold Func.isWrapper;first|(rw[if_pos (by decide +kernel)];kernel_rfl)|(rw[if_neg (by decide +kernel)];exact⟨rfl,rfl⟩))
  (λos started H enc _=>lifted os started H enc)
theorem proved:Rows.KuraNeverSaid:=over
#print axioms proved
end Go.Proofs.YtcfncejilmimpaaGreat.kuraNever
