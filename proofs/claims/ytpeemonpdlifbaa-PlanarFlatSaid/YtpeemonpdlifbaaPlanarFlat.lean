/-
  What is proved: PlanarFlat returns true for every graph, all rows, all numbers that may come in: a plain graph that has a rotation without handles is told to be laid in the plane; so is it without some of its edges, and under other names. Its conditions are the statement's own; nothing is assumed beside them.
-/
import Derived.Test.YtpeemonpdlifbaaRows
import Derived.WalkKit
import Derived.ProofKit
import Derived.OpenShut
import Derived.ShutString
import Derived.ChangeOld
import Derived.Below
import Derived.Test.YtpeemonpdlifbaaUTAE
import Derived.Test.YtpeemonpdlifbaaUTAC
import Derived.Test.YtpeemonpdlifbaaUTBF
set_option linter.all false
namespace Go.Proofs.Ytpeemonpdlifbaa.planarFlat
open Go.ChangeShapes Go.WideShapes Go.ChangeAt Go.RowKit
open Go.ChangeMaps (open_string shut_string)
open Go.Am (AH AV AO IsRowE Rep VR VRs law_of_C GL news)
theorem own:ownKnob Try.prog.godebug=none:=by kernel_rfl
theorem laidOut:laidOutB Try.prog=true:=by kernel_rfl
theorem walk (n:Int) (a0 a1 a2 a3 a4:Option Addr) (l0 c0 l1 c1 l2 c2 l3 c3 l4 c4:Nat) (z0 z2 z3 z4:List Int) (rows:List Go.Am.NRow) (w:World) (w0:IsRowE .i64 2 w a0 l0 c0 z0) (s0:∀ x,a0=some x→x.spot=none) (w1:RowsM w a1 l1 c1 rows) (w2:IsRowE .i64 1 w a2 l2 c2 z2) (w3:IsRowE .i64 1 w a3 l3 c3 z3) (w4:IsRowE .i64 1 w a4 l4 c4 z4) :
 Calls Try.prog 4 #[.agg #[.int .i64 n,.slice a0 l0 c0],.slice a1 l1 c1,.slice a2 l2 c2,.slice a3 l3 c3,.slice a4 l4 c4] w λe w'=>e=.returned (.bool true)∧Below w.heap.size w w':=by
 obtain⟨σ,os,v0,v1,v2,v3,v4,E,gl,r,h0,h1,h2,h3,h4,he,hl,hT,hg,hn,ho⟩:=FN (P:=Try.prog) w0 s0 w1 w2 w3 w4
 have hs:=uF w1
 refine law_of_C mixed srts det (Fh (n:=n) he hl (λq=>⟨hT q,hs.2⟩) hs.1 hg hn ho) r gl ?_
 simp only[VRs]
 refine⟨_,_,rfl,?_,_,_,rfl,h1,_,_,rfl,h2,_,_,rfl,h3,_,_,rfl,h4,rfl⟩
 simp only[VR]
 refine⟨[.int .i64 n,.slice a0 l0 c0],rfl,?_⟩
 simp only[VRs]
 exact⟨_,_,rfl,by simp [VR],_,_,rfl,h0,rfl⟩
set_option maxRecDepth 100000 in
theorem lifted (os:Os) (started:os.Started) (H:Type) (enc:TypeId×Value→H) :
 ReturnsInHanded {} Try.checked os 4 .any (Rows.planarFlatSpec.pre6 enc Try.prog Try.f4 Rows.planarFlatRow.domain false) (Rows.planarFlatSpec.post enc Try.prog Try.f4 false true false false):=by
 refine returnsInHanded_of_change (C:=Try.checked) own started (by kernel_rfl) Try.func4
  (ChangeSpec.witness6 (enc:=enc) (C:=Try.checked) false ⟨#[],#[.agg #[.int .i64 0,.slice none 0 0],.slice none 0 0,.slice none 0 0,.slice none 0 0,.slice none 0 0],[]⟩ 8 (by kernel_rfl) (by kernel_rfl) (by kernel_rfl) (by kernel_rfl)) ?_
 intro W base args ds gs before hval0 hW hcnd _
 have hval:∀ (j:Nat) t v,Try.f4.params[j]?=some t→args[j]?=some v→Value.okWide Try.prog W .any base t v:=hval0
 have hW':=hW
 obtain⟨p,q,hA0,hV,rfl,hfz,hnd⟩:=hW
 have hA:DataW.TrodAll enc Try.prog W 0 (λ_=>true) true Try.f4.params.toList args.toList ds p:=hA0
 rw[Try.params4] at hA hval
 obtain⟨v0,vs0,d0,ds0,p0,q0,hargs,rfl,rfl,h0,r0⟩:=trodAll_cons hA
 obtain⟨v1,vs1,d1,ds1,p1,q1,rfl,rfl,rfl,h1,r1⟩:=trodAll_cons r0
 obtain⟨v2,vs2,d2,ds2,p2,q2,rfl,rfl,rfl,h2,r2⟩:=trodAll_cons r1
 obtain⟨v3,vs3,d3,ds3,p3,q3,rfl,rfl,rfl,h3,r3⟩:=trodAll_cons r2
 obtain⟨v4,vs4,d4,ds4,p4,q4,rfl,rfl,rfl,h4,r4⟩:=trodAll_cons r3
 obtain⟨rfl,rfl,rfl⟩:=trodAll_nil r4
 obtain rfl:args=#[v0,v1,v2,v3,v4]:=by cases args; simp_all
 obtain⟨rfl,rfl⟩:=trodVars_none hV
 obtain⟨n,a0,l0,c0,z0,rfl,w0,s0⟩:=yY (hval 0 24 v0 rfl rfl) h0
 obtain⟨a1,l1,c1,rfl⟩:=okWide_slice Try.underlying27 (hval 1 27 v1 rfl rfl)
 obtain⟨a2,l2,c2,rfl⟩:=okWide_slice Try.underlying34 (hval 2 34 v2 rfl rfl)
 obtain⟨a3,l3,c3,rfl⟩:=okWide_slice Try.underlying34 (hval 3 34 v3 rfl rfl)
 obtain⟨a4,l4,c4,rfl⟩:=okWide_slice Try.underlying34 (hval 4 34 v4 rfl rfl)
 have k0:=h0
 have k1:=h1
 have k2:=h2
 have k3:=h3
 have k4:=h4
 have fX:∀ {a:Option Addr}{l c:Nat}{d:DataW H}{p:List MemPlace},DataW.Trod enc Try.prog W 0 (λ_=>true) true 34 (.slice a l c) d p→∃ zs,IsRowE .i64 1 W a l c zs:=by
  intro a l c d p h
  obtain⟨fuel,hf⟩:=h
  obtain⟨a',l',c',zs,e,hr⟩:=Jt (c:=.slice a l c) hf
  cases e
  exact⟨zs,hr⟩
 obtain⟨z2,w2⟩:=fX h2
 obtain⟨z3,w3⟩:=fX h3
 obtain⟨z4,w4⟩:=fX h4
 obtain⟨rows,w1⟩:∃ rows,RowsM W a1 l1 c1 rows:=by
  obtain⟨fuel,hf⟩:=h1
  have hv1:Cell.okWide Try.prog W .any base 27 (.slice a1 l1 c1):=by
   have this:Value.okWide Try.prog W .any base 27 (.slice a1 l1 c1):=hval 1 27 _ rfl rfl
   simpa only [Value.okWide,Try.underlying27] using this
  obtain⟨a',l',c',rows,e,hr⟩:=Hl (c:=.slice a1 l1 c1) hv1 hf
  cases e
  exact⟨rows,hr⟩
 have lt0:∀ x∈p0,x.block<W.heap.size:=by obtain⟨m,hm⟩:=k0; exact DataW.trod_lt m _ _ _ hm
 have lt1:∀ x∈p1,x.block<W.heap.size:=by obtain⟨m,hm⟩:=k1; exact DataW.trod_lt m _ _ _ hm
 have lt2:∀ x∈p2,x.block<W.heap.size:=by obtain⟨m,hm⟩:=k2; exact DataW.trod_lt m _ _ _ hm
 have lt3:∀ x∈p3,x.block<W.heap.size:=by obtain⟨m,hm⟩:=k3; exact DataW.trod_lt m _ _ _ hm
 have lt4:∀ x∈p4,x.block<W.heap.size:=by obtain⟨m,hm⟩:=k4; exact DataW.trod_lt m _ _ _ hm
 clear hA0 hval0
 refine (walk n a0 a1 a2 a3 a4 l0 c0 l1 c1 l2 c2 l3 c3 l4 c4 z0 z2 z3 z4 rows W w0 s0 w1 w2 w3 w4).mono λe W' ⟨he,bel⟩=>?_
 subst he
 exact⟨_,rfl,_,_,_,[],_,[],hW',trodAll_mk1 (shut_bool Try.underlying4 _),(trodAll_cons_mk (Below.trod laidOut (by kernel_rfl) (cn (by kernel_rfl)) k0 bel lt0) (trodAll_cons_mk (Below.trod laidOut (by kernel_rfl) (cn (by kernel_rfl)) k1 bel lt1) (trodAll_cons_mk (Below.trod laidOut (by kernel_rfl) (cn (by kernel_rfl)) k2 bel lt2) (trodAll_cons_mk (Below.trod laidOut (by kernel_rfl) (cn (by kernel_rfl)) k3 bel lt3) (trodAll_cons_mk (Below.trod laidOut (by kernel_rfl) (cn (by kernel_rfl)) k4 bel lt4) trodAll_mk0))))),rfl,bel.frame _,λh=>by cases h⟩
theorem over:Rows.planarFlatRow.holds Try.pinned (OpenSpec.ofChange Rows.planarFlatSpec) :=
 OpenClaim.holds_of_wide 4 Try.f4 rfl rfl rfl rfl rfl rfl rfl ⟨rfl,rfl,rfl,rfl,rfl⟩ rfl rfl rfl rfl rfl (by kernel_rfl) Try.func4 (by kernel_rfl)
  (cn (by kernel_rfl)) (by unfold Func.isWrapper; first|(rw[if_pos (by decide +kernel)]; kernel_rfl)|(rw[if_neg (by decide +kernel)]; exact⟨rfl,rfl⟩))
  (λos started H enc _=>lifted os started H enc)
theorem proved:Rows.PlanarFlatSaid:=over
#print axioms proved
end Go.Proofs.Ytpeemonpdlifbaa.planarFlat
