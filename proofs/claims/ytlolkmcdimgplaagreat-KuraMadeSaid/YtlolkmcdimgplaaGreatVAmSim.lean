/- Each operation of the clean machine that is no call, no walk -/
import Derived.Test.YtlolkmcdimgplaaGreatVAmUns
set_option linter.all false
namespace Go.Am
open Go.RowKit
section
variable {P:Program}{K:Bs}{σ:Sg}{h:AH}{w:World}
theorem dM{α:Type}{x:Option α}{h h':AH}{v:α}(he:x.map (·,h)=some (v,h')):x=some v/\h'=h:=by
 cases x with
 |none=>cases he
 |some y=>simp only[aC,aa,ak]at he;exact⟨by rw[he.1],he.2.symm⟩
theorem bz{α β:Type}{x:Option α}{f:α->β}{y:β}(he:x.map f=some y):∃z,x=some z/\f z=y:=by
 cases x with
 |none=>cases he
 |some z=>exact⟨z,rfl,by simpa using he⟩
theorem zb{t t' e ty:TypeId}{u:TypeDesc}{tl:List TypeId}(hK:K.P=P)(hu:P.underlying t=some (.slice e))(hu':P.underlying t'=some u)(hni:(∃e',u=.slice e')\/u=.string){rs rx:RO}{ro:ROp}(hc:Ci P e rs rx=some ro)
 {ts:Tm}{s' x':Value} (hs':VR σ (rs.ev ts) s') (hx:VR σ (rx.ev ts) x') (r:Rep K σ h w) {v:AV}{h':AH} (he:aI (RO.ev ts) h ro=some (v,h')) :
 Yields P K σ (do pure (.value (<-Builtin.append_ (t::t'::tl).toArray ty #[s',x']))) w v h':=by
 unfold Ci at hc;split at hc
 .rename_i n b z g1 g2 g3
  split at hc
  .rename_i hzl
   split at hc
   .rename_i hb
    obtain⟨_,rfl,rfl⟩:=hb;simp only[aa]at hc;subst hc;simp only[aI]at he;have htg:∀u,some e=some u->u=e/\(K.P.info? e).map (·.size)=some 1:=by
     intro u hu;simp only[aa]at hu;refine⟨hu.symm,?_⟩;rw[hK];exact g1
    unfold Jf at he;split at he
    .rename_i b o n c hsv
     rw[hsv]at hs';split at he
     .exact qk hu hu' g1 g2 g3 hni hzl hs' hx r htg he
     .exact qk hu hu' g1 g2 g3 hni hzl hs' hx r (λu hu=>by cases hu) he
    .exact qk hu hu' g1 g2 g3 hni hzl hs' hx r htg he
   .simp only[aa]at hc;subst hc;exact Kj hu hu' g1 g2 g3 hni hzl hs' hx r he
  .cases hc
 .cases hc
theorem Mr(hK:K.P=P){ts:Tm}{a:Act}(ht:TR σ ts a.tmps){o:Oper}{ro:ROp}(hc:cOp P o.op=some ro)(r:Rep K σ h w){v:AV}{h':AH}(he:aI (RO.ev ts) h ro=some (v,h')) :
 Yields P K σ (execOp a.eval o) w v h':=by
 have hex:∀op,o.op=op->execOp a.eval o=execOp a.eval { o with op:=op}:=by intro op h;subst h;rfl
 generalize hop:o.op=op at hc;rw[hex op hop];clear hex;cases op with
 |move x =>
   obtain⟨rx,hx,rfl⟩:=bz hc;simp only[aI,aa,ak]at he;obtain⟨rfl,rfl⟩:=he;exact Yields.same r (by simp[execOp]) (cH ht hx)
 |assign x =>
   obtain⟨rx,hx,rfl⟩:=bz hc;simp only[aI,aa,ak]at he;obtain⟨rfl,rfl⟩:=he;exact Yields.same r (by simp[execOp]) (cH ht hx)
 |pick c x y =>
   simp only[cOp]at hc;split at hc
   .rename_i rc rx ry h1 h2 h3
    simp only[aa]at hc;subst hc;simp only[aI]at he;obtain⟨he2,rfl⟩:=dM he;have vc:=cH (a:=a) ht h1;generalize rc.ev ts=ac at *
    cases ac<;>simp only[CR,reduceCtorEq,aa]at he2
    rename_i t
    simp only[VR]at vc;subst he2;cases t
    .exact Yields.same (v':=a.eval y) r (by simp[execOp,vc,asBool]) (by simpa using cH ht h3)
    .exact Yields.same (v':=a.eval x) r (by simp[execOp,vc,asBool]) (by simpa using cH ht h2)
   .cases hc
 |alloc t =>
   simp only[cOp]at hc;split at hc
   .rename_i z e h1 h2
    split at hc
    .simp only[aa]at hc;subst hc;simp only[aI,aa,ak]at he;obtain⟨rfl,rfl⟩:=he;exact AZ h1 r
    .simp only[aa]at hc;subst hc;simp only[aI,aa,ak]at he;obtain⟨rfl,rfl⟩:=he;exact Ej h1 r
   .cases hc
 |box t x =>
   simp only[cOp]at hc;split at hc
   .rename_i e n rx h1 h2 h3
    simp only[aa]at hc;subst hc;exact Kg (t:=t) r (cH ht h3) he
   .cases hc
 |build t ps =>
   simp only[cOp]at hc;have hro:∃z rs,ro=.build z rs:=by
    split at hc
    .split at hc
     .obtain⟨z,_,rfl⟩:=bz hc;exact⟨_,_,rfl⟩
     .cases hc
    .split at hc
     .obtain⟨z,_,rfl⟩:=bz hc;exact⟨_,_,rfl⟩
     .cases hc
    .cases hc
   obtain⟨z,rs,rfl⟩:=hro;simp only[aI]at he;obtain⟨cs,hcs,he⟩:=bz he;simp only[ak]at he;obtain⟨rfl,rfl⟩:=he;exact Ei ht hc r hcs
 |buildSlice t len ps =>
   simp only[cOp]at hc;split at hc
   .rename_i e hu
    split at hc
    .rename_i n z h1 h2
     split at hc
     .rename_i h3
      obtain⟨rs,hrs,rfl⟩:=bz hc;simp only[aI]at he;obtain⟨cs,hcs,he⟩:=bz he;simp only[ak]at he;obtain⟨rfl,rfl⟩:=he;exact tI ht hu h1 h2 h3.1 h3.2 hrs r hcs
     .cases hc
    .cases hc
   .cases hc
 |load t x =>
   simp only[cOp]at hc;split at hc
   .rename_i g n rx h1 h2
    simp only[aa]at hc;subst hc;exact Gn h1 r (cH ht h2) he
   .cases hc
 |store t x y =>
   simp only[cOp]at hc;split at hc
   .rename_i n rx ry h1 h2 h3
    simp only[aa]at hc;subst hc;exact Ee h1 r (cH ht h2) (cH ht h3) he
   .cases hc
 |nilCheck x =>
   obtain⟨rx,hx,rfl⟩:=bz hc;simp only[aI]at he;obtain⟨he2,rfl⟩:=dM he;exact Ef ht hx _ rfl r he2
 |binOp op t x y _ =>
   simp only[cOp]at hc;split at hc
   .rename_i e rx ry h1 h2 h3
    simp only[aa]at hc;subst hc;simp only[aI]at he;obtain⟨he2,rfl⟩:=dM he;exact Kh h1 (cH ht h2) (cH ht h3) r he2
   .cases hc
 |unOp op _ x =>
   obtain⟨rx,hx,rfl⟩:=bz hc;simp only[aI]at he;obtain⟨he2,rfl⟩:=dM he;exact Mq (cH ht hx) r he2
 |convert s d x =>
   simp only[cOp]at hc;split at hc
   .rename_i k' k rx h1 h2 h3
    simp only[aa]at hc;subst hc;simp only[aI]at he;obtain⟨he2,rfl⟩:=dM he;exact Ke h1 h2 (cH ht h3) r he2
   .rename_i e rx h1 h2 h3
    split at hc
    .rename_i hm
     have hc:=Option.some.inj hc;subst hc;simp only[aI]at he;obtain⟨he2,rfl⟩:=dM he;exact Gz h1 h2 hm (cH ht h3) r he2
    .cases hc
   .rename_i e rx h1 h2 h3
    split at hc
    .rename_i hm
     have hc:=Option.some.inj hc;subst hc;exact Gy h1 h2 hm (cH ht h3) r he
    .cases hc
   .rename_i e0 e rx h1 h2 h3
    split at hc
    .rename_i hsd
     subst hsd;split at hc
     .rename_i hm
      have hc:=Option.some.inj hc;subst hc;simp only[aI]at he;obtain⟨he2,rfl⟩:=dM he;exact Gx h2 hm (cH ht h3) r he2
     .cases hc
    .cases hc
   .rename_i t0 rx h1 h2 h3
    split at hc
    .rename_i n hn
     have hc:=Option.some.inj hc;subst hc;simp only[aI]at he;obtain⟨he2,rfl⟩:=dM he;exact Kc h1 h2 hn (cH ht h3) r he2
    .cases hc
   .rename_i t0 rx h1 h2 h3
    split at hc
    .rename_i n hn
     have hc:=Option.some.inj hc;subst hc;simp only[aI]at he;obtain⟨he2,rfl⟩:=dM he;exact Kd h1 h2 hn hK (cH ht h3) r he2
    .cases hc
   .cases hc
 |makeInterface t x =>
   simp only[cOp]at hc;split at hc
   .cases hc
   .rename_i d rx hni h1 h2
    simp only[aa]at hc;subst hc;simp only[aI,aa,ak]at he;obtain⟨rfl,rfl⟩:=he;refine Yields.same (v':=.iface t (a.eval x)) r ?_ (by simp only[VR];exact⟨_,rfl,cH ht h2⟩);cases d<;>first|(exact(hni _ rfl).elim)|simp[execOp,Instr.makeInterface,run_underlying h1]
   .cases hc
 |makeFunc fn first caps =>
   cases fn<;>simp only[cOp,reduceCtorEq]at hc
   rename_i f
   split at hc
   .rename_i hf
    obtain⟨rs,hrs,rfl⟩:=bz hc;simp only[aI,aa,ak]at he;obtain⟨rfl,rfl⟩:=he;have hf':first=#[]:=by simpa using hf
    subst hf';refine Yields.same (v':=.func (.func f) #[] (caps.map a.eval)) r (by simp[execOp,Instr.makeFunc]) ?_;simp only[VR];exact⟨caps.toList.map a.eval,by simp[<-Array.toList_map],pR ht hrs⟩
   .cases hc
 |makeSlice t l c =>
   simp only[cOp]at hc;split at hc
   .rename_i e hu
    split at hc
    .rename_i n b z rl rc h1 h2 h3 h4 h5
     split at hc
     .rename_i hzl
      simp only[aa]at hc;subst hc;exact JU hu h1 h2 h3 hzl (cH ht h4) (cH ht h5) r he
     .cases hc
    .cases hc
   .cases hc
 |slice t x lo hi mx =>
   simp only[cOp]at hc;split at hc
   .rename_i rx rlo rhi h1 h2 h3 h4 h5
    simp only[aa]at hc;subst hc;simp only[aI]at he;obtain⟨he2,rfl⟩:=dM he;have hmx:mx=none:=by
     cases mx with
     |none=>rfl
     |some y=>simp only[cOo,aE,reduceCtorEq,and_false,exists_false]at h5
    subst hmx;exact JL ht h1 h3 h4 (cH ht h2) r he2
   .rename_i e rx rlo rhi rmx h1 h2 h3 h4 h5
    obtain⟨n,hn,rfl⟩:=bz hc;simp only[aI]at he;obtain⟨he2,rfl⟩:=dM he;exact JM ht h1 hn h3 h4 h5 (cH ht h2) r he2
   .rename_i k e rx rlo rhi rmx h1 h2 h3 h4 h5
    obtain⟨n,hn,rfl⟩:=bz hc;simp only[aI]at he;obtain⟨he2,rfl⟩:=dM he;exact JN ht h1 hn h3 h4 h5 (cH ht h2) r he2
   .cases hc
 |fieldAddr t x f =>
   simp only[cOp]at hc;split at hc
   .rename_i fs rx h1 h2
    split at hc
    .rename_i fd hf
     split at hc
     .rename_i n hn
      simp only[aa]at hc;subst hc;simp only[aI]at he;obtain⟨he2,rfl⟩:=dM he;exact Gw h1 hf hn (cH ht h2) r he2
     .cases hc
    .cases hc
   .cases hc
 |field t x f =>
   simp only[cOp]at hc;split at hc
   .rename_i fs rx h1 h2
    split at hc
    .rename_i fd hf
     obtain⟨⟨g,n⟩,hn,rfl⟩:=bz hc;simp only[aI]at he;obtain⟨he2,rfl⟩:=dM he;exact JY h1 hf hn (cH ht h2) r he2
    .cases hc
   .cases hc
 |indexAddr t x i =>
   simp only[cOp]at hc;split at hc
   .rename_i e rx ri h1 h2 h3
    obtain⟨n,hn,rfl⟩:=bz hc;simp only[aI]at he;obtain⟨he2,rfl⟩:=dM he;exact Gv h1 hn (cH ht h2) (cH ht h3) r he2
   .rename_i k e rx ri h1 h2 h3
    obtain⟨n,hn,rfl⟩:=bz hc;simp only[aI]at he;obtain⟨he2,rfl⟩:=dM he;exact Eh h1 hn (cH ht h2) (cH ht h3) r he2
   .cases hc
 |index t x i =>
   simp only[cOp]at hc;split at hc
   .rename_i rx ri h1 h2 h3
    simp only[aa]at hc;subst hc;simp only[aI]at he;obtain⟨he2,rfl⟩:=dM he;exact Gt h1 (cH ht h2) (cH ht h3) r he2
   .rename_i k e rx ri h1 h2 h3
    split at hc
    .rename_i g n hn
     simp only[aa]at hc;subst hc;simp only[aI]at he;obtain⟨he2,rfl⟩:=dM he;exact Gu h1 hn (cH ht h2) (cH ht h3) r he2
    .cases hc
   .cases hc
 |extract x i =>
   obtain⟨rx,hx,rfl⟩:=bz hc;simp only[aI]at he;obtain⟨he2,rfl⟩:=dM he;exact JZ (cH ht hx) r he2
 |makeMap t x =>
   cases x with
   |some _=>simp[cOp]at hc
   |none =>
     simp only[cOp]at hc;split at hc
     .simp only[aa]at hc;subst hc;simp only[aI,aa,ak]at he;obtain⟨rfl,rfl⟩:=he;exact Eg r
     .cases hc
 |lookup t m k ok =>
   simp only[cOp]at hc;split at hc
   .rename_i kt e hu
    split at hc
    .rename_i q z rm rk h1 h2 h3 h4
     simp only[aa]at hc;subst hc;simp only[aI]at he;obtain⟨he2,rfl⟩:=dM he;exact JS hu h1 h2 (cH ht h3) (cH ht h4) r he2
    .cases hc
   .cases hc
 |mapUpdate t m k x =>
   simp only[cOp,FH]at hc;split at hc
   .rename_i kt e hu
    split at hc
    .rename_i q rm rk rx h1 h2 h3 h4
     simp only[aa]at hc;subst hc;exact CE hu h1 (cH ht h2) (cH ht h3) (cH ht h4) r he
    .cases hc
   .cases hc
 |insert t m k x =>
   simp only[cOp,FH]at hc;split at hc
   .rename_i kt e hu
    split at hc
    .rename_i q rm rk rx h1 h2 h3 h4
     simp only[aa]at hc;subst hc;exact CE hu h1 (cH ht h2) (cH ht h3) (cH ht h4) r he
    .cases hc
   .cases hc
 |mapEntry t m k =>
   simp only[cOp]at hc;split at hc
   .rename_i kt e hu
    split at hc
    .rename_i q z rm rk h1 h2 h3 h4
     simp only[aa]at hc;subst hc;exact JV hu h1 h2 (cH ht h3) (cH ht h4) r he
    .cases hc
   .cases hc
 |entryStore t m s x =>
   simp only[cOp]at hc;split at hc
   .rename_i rm rs rx h1 h2 h3
    simp only[aa]at hc;subst hc;exact JR (cH ht h1) (cH ht h2) (cH ht h3) r he
   .cases hc
 |range t x =>
   simp only[cOp]at hc;split at hc
   .rename_i kt e rx hu h1
    simp only[aa]at hc;subst hc;exact JP hu (cH ht h1) r he
   .cases hc
 |next x s =>
   cases s with
   |true=>simp[cOp]at hc
   |false =>
     simp only[cOp]at hc;obtain⟨rx,hx,rfl⟩:=bz hc;simp[aI]at he
 |entry x =>
   simp only[cOp]at hc;obtain⟨rx,hx,rfl⟩:=bz hc;simp only[aI]at he;obtain⟨he2,rfl⟩:=dM he;exact Kb (cH ht hx) r he2
 |call c =>
   obtain⟨callee,args,argTypes⟩:=c;cases callee with
   |value f =>
     cases f<;>simp only[cOp,reduceCtorEq]at hc
     .obtain⟨rs,_,rfl⟩:=bz hc;simp[aI]at he
     .rename_i f
      split at hc
      .rename_i q hq
       obtain⟨as⟩:=args;cases q with
       |none =>
         cases as with
         |nil=>simp[vw]at hc
         |cons x tl =>
           cases tl with
           |cons _ _=>simp[vw]at hc
           |nil =>
             simp only[vw]at hc;obtain⟨rx,hx,rfl⟩:=bz hc;simp only[aI,aa,ak]at he;obtain⟨rfl,rfl⟩:=he;have hf:∃fn,P.funcs[f]?=some fn:=by
              unfold outer at hq;cases hf:P.funcs[f]? with
              |none=>rw[hf]at hq;simp at hq
              |some fn=>exact⟨fn,rfl⟩
             obtain⟨fn,hf⟩:=hf;obtain⟨o1,o2,o3⟩:=Bx hq hf;obtain⟨e1,e2⟩:=vu o2 o3;refine Yields.same (v':=a.eval x) r ?_ (cH ht hx);have hfe:a.eval (.func f)=.func (.func f) #[] #[]:=rfl;have hsame:(Extern.AbiNoEscape.same #[a.eval x]).run P w=.ok (a.eval x) w:=rfl;simp[execOp,resolve,hfe,Deferred.ofValue,invoke,callFunc,hf,o1,o2,e1,e2,hsame]
       |some e =>
         cases as with
         |nil=>simp[vw]at hc
         |cons x tl =>
           cases tl with
           |cons _ _=>simp[vw]at hc
           |nil =>
             simp only[vw]at hc;obtain⟨rx,hx,rfl⟩:=bz hc;obtain⟨fn,t,o0,o1,o2,o3,o4,o5,o6⟩:=Bw hq;obtain⟨e1,e2⟩:=sJ o2 o3;simp only[aI]at he;have hfe:a.eval (.func f)=.func (.func f) #[] #[]:=rfl;have hrt:fn.resultTypes=#[t]:=by apply Array.ext';simpa using o4
             have hex:execOp a.eval { o with op:=.call { callee:=.value (.func f),args:=#[x],argTypes:=argTypes}}=(do let d <-resolve a.eval { callee:=.value (.func f),args:=#[x],argTypes:=argTypes} o.type;invoke d.target d.args):=rfl;refine Yields.congrRun ?_ (JT (ps:=fn.params) o5 (cH (a:=a) ht hx) r rfl he);rw[hex];simp[resolve,hfe,Deferred.ofValue,invoke,callFunc,o0,o1,o2,e1,e2,hrt,Sem.run_bind]
      .obtain⟨rs,_,rfl⟩:=bz hc;simp[aI]at he
   |invoke _ _=>simp[cOp]at hc
   |builtin b =>
     obtain⟨ats⟩:=argTypes;obtain⟨as⟩:=args;simp only[cOp]at hc;split at hc
     .rename_i x t ts'
      split at hc
      .rename_i e rx h1 h2
       simp only[aa]at hc;subst hc;simp only[aI]at he;obtain⟨he2,rfl⟩:=dM he;have key:=Gs (P:=P) (ty:=o.type) (ts:=ts') h1 (cH ht h2) r he2;simpa[execOp,resolve,invoke,builtin]using key
      .rename_i rx h1 h2
       simp only[aa]at hc;subst hc;simp only[aI]at he;obtain⟨he2,rfl⟩:=dM he;have key:=Gp (P:=P) (ty:=o.type) (ts:=ts') h1 (cH ht h2) r he2;simpa[execOp,resolve,invoke,builtin]using key
      .rename_i k e rx h1 h2
       simp only[aa]at hc;subst hc;simp only[aI]at he;obtain⟨he2,rfl⟩:=dM he;have key:=Gq (P:=P) (ty:=o.type) (ts:=ts') h1 (cH ht h2) r he2;simpa[execOp,resolve,invoke,builtin]using key
      .cases hc
     .rename_i x t ts'
      split at hc
      .rename_i kt e rx h1 h2
       simp only[aa]at hc;subst hc;have key:=JW (P:=P) (ty:=o.type) (ts:=ts') h1 (cH ht h2) r he;simpa[execOp,resolve,invoke,builtin]using key
      .rename_i e rx h1 h2
       split at hc
       .rename_i n z g1 g2
        split at hc
        .rename_i hzl
         simp only[aa]at hc;subst hc;have key:=JO (P:=P) (ty:=o.type) (ts:=ts') h1 g1 g2 hzl.1 hzl.2 (cH ht h2) r he;simpa[execOp,resolve,invoke,builtin]using key
        .cases hc
       .cases hc
      .cases hc
     .rename_i x t ts'
      split at hc
      .rename_i e rx h1 h2
       simp only[aa]at hc;subst hc;simp only[aI]at he;obtain⟨he2,rfl⟩:=dM he;have key:=GA (P:=P) (ty:=o.type) (ts:=ts') h1 (cH ht h2) r he2;simpa[execOp,resolve,invoke,builtin]using key
      .cases hc
     .rename_i d s t ts'
      split at hc
      .rename_i e rd rs h1 h2 h3
       obtain⟨n,hn,rfl⟩:=bz hc;have key:=Kf (P:=P) (ty:=o.type) (ts:=ts') h1 hn (cH ht h2) (cH ht h3) r he;simpa[execOp,resolve,invoke,builtin]using key
      .cases hc
     .rename_i x
      obtain⟨rx,hx,rfl⟩:=bz hc;simp only[aI]at he;obtain⟨he2,rfl⟩:=dM he;have key:=Gm (P:=P) (ats:=⟨ats⟩) (ty:=o.type) (cH (a:=a) ht hx) r he2;simpa[execOp,resolve,invoke,builtin]using key
     .rename_i x n t ts'
      split at hc
      .rename_i e rx rn h1 h2 h3
       split at hc
       .rename_i hs
        simp only[aa]at hc;subst hc;have key:=Gl (P:=P) (ty:=o.type) (tl:=ts') h1 hs (cH ht h2) (cH ht h3) r he;simpa[execOp,resolve,invoke,builtin]using key
       .cases hc
      .cases hc
     .obtain⟨rs,hrs,rfl⟩:=bz hc;simp only[aI]at he;obtain⟨he2,rfl⟩:=dM he;have:=Ms (P:=P) (ats:=⟨ats⟩) (ty:=o.type) (pR (a:=a) ht hrs) r he2;simpa[execOp,resolve,invoke,builtin]using this
     .obtain⟨rs,hrs,rfl⟩:=bz hc;simp only[aI]at he;obtain⟨he2,rfl⟩:=dM he;have:=Mt (P:=P) (ats:=⟨ats⟩) (ty:=o.type) (pR (a:=a) ht hrs) r he2;simpa[execOp,resolve,invoke,builtin]using this
     .rename_i s x t t' tl
      split at hc
      .rename_i e e' rs rx h1 h2 h3 h4
       have key:=zb (P:=P) (ty:=o.type) (tl:=tl) hK h1 h2 (.inl ⟨_,rfl⟩) hc (cH ht h3) (cH ht h4) r he;simpa[execOp,resolve,invoke,builtin]using key
      .rename_i e rs rx h1 h2 h3 h4
       have key:=zb (P:=P) (ty:=o.type) (tl:=tl) hK h1 h2 (.inr rfl) hc (cH ht h3) (cH ht h4) r he;simpa[execOp,resolve,invoke,builtin]using key
      .rename_i e k rs rx h1 h2 h3 h4
       split at hc
       .rename_i n b z g1 g2 g3
        split at hc
        .rename_i hzl
         simp only[aa]at hc;subst hc;have key:=Ki (P:=P) (ty:=o.type) (tl:=tl) h1 h2 g1 g2 g3 hzl.1 hzl.2 (cH ht h3) (cH ht h4) r he;simpa[execOp,resolve,invoke,builtin]using key
        .cases hc
       .cases hc
      .cases hc
     .cases hc
 |_=>simp[cOp]at hc
end
end Go.Am
