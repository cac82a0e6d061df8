/-
  What is proved: KuraMade returns true for either kind, all numbers of edges and any number that may come in: the full graph of five, and that of two times three, with any ways in its edges' places, is told as of its kind, is found whole, can't be laid in the plane, and isn't of any kind without any one edge; the example of the document is such a graph too. Its conditions are the statement's own; nothing is assumed beside them.
-/
import Derived.ShutString
import Derived.ChangeOld
import Derived.Test.YtlolkmcdimgplaaGreatVTAA
import Derived.Test.YtlolkmcdimgplaaGreatVTBA
set_option linter.all false
namespace Go.Proofs.YtlolkmcdimgplaaGreat.kuraMade
open Go.ChangeShapes Go.WideShapes Go.ChangeAt Go.RowKit
open Go.ChangeMaps (open_string shut_string)
open Go.Am (AH AV AO IsRowE Rep VR VRs law_of_C GL St0)
theorem own:ownKnob Tryz.prog.godebug=none:=by kernel_rfl
theorem laidOut:laidOutB Tryz.prog=true:=by kernel_rfl
theorem walk(t:Bool)(z:Int)(a1:Option Addr)(l1 c1:Nat)(z1:List Int)(w:World)(w1:IsRowE .i64 1 w a1 l1 c1 z1) :
 Calls Tryz.prog 3 #[.bool t,.slice a1 l1 c1,.int .i64 z] w λe w'=>e=.returned (.bool true)/\Below w.heap.size w w':=by
 have st:=St0.zero Tryz.prog w;obtain⟨σ,o1,v1,t1,r,h1,t4,t5⟩:=ints1 st.rep rfl w1;refine law_of_C mixed srts det (HB (t:=t) (z:=z) t5) r (st.gl.mono t1) ?_;simp only[VRs];exact⟨_,_,rfl,by simp[VR],_,_,rfl,h1,_,_,rfl,by simp[VR],rfl⟩
set_option maxRecDepth 100000 in
theorem lifted(os:Os)(started:os.Started)(H:Type)(enc:TypeId×Value->H) :
 ReturnsInHanded {} Tryz.checked os 3 .any (Rows.kuraMadeSpec.pre6 enc Tryz.prog Tryz.f3 Rows.kuraMadeRow.domain false) (Rows.kuraMadeSpec.post enc Tryz.prog Tryz.f3 false true false false):=by
 refine returnsInHanded_of_change (C:=Tryz.checked) own started (by kernel_rfl) Tryz.func3
  (ChangeSpec.witness6 (enc:=enc) (C:=Tryz.checked) false ⟨#[],#[.bool false,.slice none 0 0,.int .i64 0],[]⟩ 8 (by kernel_rfl) (by kernel_rfl) (by kernel_rfl) (by kernel_rfl)) ?_
 intro W base args ds gs before hval0 hW hcnd _;have hval:∀(j:Nat) t v,Tryz.f3.params[j]?=some t->args[j]?=some v->Value.okWide Tryz.prog W .any base t v:=hval0;have hW':=hW;obtain⟨p,q,hA0,hV,rfl,hfz,hnd⟩:=hW;have hA:DataW.TrodAll enc Tryz.prog W 0 (λ_=>true) true Tryz.f3.params.toList args.toList ds p:=hA0;rw[Tryz.params3]at hA hval;obtain⟨v0,vs0,d0,ds0,p0,q0,hargs,rfl,rfl,h0,r0⟩:=trodAll_cons hA;obtain⟨v1,vs1,d1,ds1,p1,q1,rfl,rfl,rfl,h1,r1⟩:=trodAll_cons r0;obtain⟨v2,vs2,d2,ds2,p2,q2,rfl,rfl,rfl,h2,r2⟩:=trodAll_cons r1;obtain⟨rfl,rfl,rfl⟩:=trodAll_nil r2;obtain rfl:args=#[v0,v1,v2]:=by cases args;simp_all
 obtain⟨rfl,rfl⟩:=trodVars_none hV;obtain⟨t,rfl,rfl,rfl⟩:=open_bool Tryz.underlying4 (hval 0 4 v0 rfl rfl) h0;obtain⟨a1,l1,c1,rfl⟩:=okWide_slice Tryz.underlying22 (hval 1 22 v1 rfl rfl);obtain⟨z,rfl,rfl,rfl,_⟩:=open_int Tryz.underlying3 (hval 2 3 v2 rfl rfl) h2;have k0:=h0;have k1:=h1;have k2:=h2;obtain⟨z1,w1⟩:∃zs,IsRowE .i64 1 W a1 l1 c1 zs:=by
  obtain⟨fuel,hf⟩:=h1;obtain⟨a,l,c,zs,e,hr⟩:=Mu (c:=.slice a1 l1 c1) hf;cases e;exact⟨zs,hr⟩
 have lt1:∀x∈p1,x.block<W.heap.size:=by obtain⟨m,hm⟩:=k1;exact DataW.trod_lt m _ _ _ hm
 clear hA0 hval0;refine(walk t z a1 l1 c1 z1 W w1).mono λe W' ⟨he,bel⟩=>?_;subst he;exact⟨_,rfl,_,_,_,[],_,[],hW',trodAll_mk1 (shut_bool Tryz.underlying4 _),(trodAll_cons_mk (Below.trod laidOut (by kernel_rfl) (cE (by kernel_rfl)) k0 bel (by simp)) (trodAll_cons_mk (Below.trod laidOut (by kernel_rfl) (cE (by kernel_rfl)) k1 bel lt1) (trodAll_cons_mk (Below.trod laidOut (by kernel_rfl) (cE (by kernel_rfl)) k2 bel (by simp)) trodAll_mk0))),rfl,bel.frame _,λh=>by cases h⟩
theorem over:Rows.kuraMadeRow.holds Tryz.pinned (OpenSpec.ofChange Rows.kuraMadeSpec) :=
 OpenClaim.holds_of_wide 3 Tryz.f3 rfl rfl rfl rfl rfl rfl rfl ⟨rfl,rfl,rfl,rfl,rfl⟩ rfl rfl rfl rfl rfl (by kernel_rfl) Tryz.func3 (by kernel_rfl)
  (cE (by kernel_rfl)) (by unfold Func.isWrapper;first|(rw[if_pos (by decide +kernel)];kernel_rfl)|(rw[if_neg (by decide +kernel)];exact⟨rfl,rfl⟩))
  (λos started H enc _=>lifted os started H enc)
theorem proved:Rows.KuraMadeSaid:=over
#print axioms proved
end Go.Proofs.YtlolkmcdimgplaaGreat.kuraMade
