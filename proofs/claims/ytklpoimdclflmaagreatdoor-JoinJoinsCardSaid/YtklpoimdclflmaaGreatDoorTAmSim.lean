/- Each operation of the clean machine that is no call, no walk -/
import Derived.Test.YtklpoimdclflmaaGreatDoorTAmUns
set_option linter.all false
namespace Go.Am
open Go.RowKit
section
variable {P:Program}{K:Bs}{σ:Sg}{h:AH}{w:World}
def dD{α:Type}{x:Option α}{h h':AH}{v:α}(he:x.map (·,h)=some (v,h')):x=some v/\h'=h:=by
 cases x with
 |none=>cases he
 |some y=>simp only[aQ,aa,aq]at he;exact⟨by rw[he.1],he.2.symm⟩
def bG{α β:Type}{x:Option α}{f:α->β}{y:β}(he:x.map f=some y):∃z,x=some z/\f z=y:=by
 cases x with
 |none=>cases he
 |some z=>exact⟨z,rfl,by simpa using he⟩
def zT{t t' e ty:TypeId}{u:TypeDesc}{tl:List TypeId}(hK:K.P=P)(hu:P.underlying t=some (.slice e))(hu':P.underlying t'=some u)(hni:(∃e',u=.slice e')\/u=.string){rs rx:RO}{ro:ROp}(hc:Df P e rs rx=some ro)
 {ts:Tm}{s' x':Value} (hs':VR σ (rs.ev ts) s') (hx:VR σ (rx.ev ts) x') (r:Rep K σ h w) {v:AV}{h':AH} (he:aL (RO.ev ts) h ro=some (v,h')) :
 Yields P K σ (do pure (.value (<-Builtin.append_ (t::t'::tl).toArray ty #[s',x']))) w v h':=by
 unfold Df at hc;split at hc
 .rename_i n b z g1 g2 g3
  split at hc
  .rename_i hzl
   split at hc
   .rename_i hb
    obtain⟨_,rfl,rfl⟩:=hb;simp only[aa]at hc;subst hc;simp only[aL]at he;have htg:∀u,some e=some u->u=e/\(K.P.info? e).map (·.size)=some 1:=by
     intro u hu;simp only[aa]at hu;refine⟨hu.symm,?_⟩;rw[hK];exact g1
    unfold Es at he;split at he
    .rename_i b o n c hsv
     rw[hsv]at hs';split at he
     .exact rj hu hu' g1 g2 g3 hni hzl hs' hx r htg he
     .exact rj hu hu' g1 g2 g3 hni hzl hs' hx r (λu hu=>by cases hu) he
    .exact rj hu hu' g1 g2 g3 hni hzl hs' hx r htg he
   .simp only[aa]at hc;subst hc;exact Lf hu hu' g1 g2 g3 hni hzl hs' hx r he
  .cases hc
 .cases hc
def No(hK:K.P=P){ts:Tm}{a:Act}(ht:TR σ ts a.tmps){o:Oper}{ro:ROp}(hc:cOp P o.op=some ro)(r:Rep K σ h w){v:AV}{h':AH}(he:aL (RO.ev ts) h ro=some (v,h')) :
 Yields P K σ (execOp a.eval o) w v h':=by
 have hex:∀op,o.op=op->execOp a.eval o=execOp a.eval { o with op:=op}:=by intro op h;subst h;rfl
 generalize hop:o.op=op at hc;rw[hex op hop];clear hex;cases op with
 |move x =>
   obtain⟨rx,hx,rfl⟩:=bG hc;simp only[aL,aa,aq]at he;obtain⟨rfl,rfl⟩:=he;exact Yields.same r (by simp[execOp]) (cN ht hx)
 |assign x =>
   obtain⟨rx,hx,rfl⟩:=bG hc;simp only[aL,aa,aq]at he;obtain⟨rfl,rfl⟩:=he;exact Yields.same r (by simp[execOp]) (cN ht hx)
 |pick c x y =>
   simp only[cOp]at hc;split at hc
   .rename_i rc rx ry h1 h2 h3
    simp only[aa]at hc;subst hc;simp only[aL]at he;obtain⟨he2,rfl⟩:=dD he;have vc:=cN (a:=a) ht h1;generalize rc.ev ts=ac at *
    cases ac<;>simp only[Ar,reduceCtorEq,aa]at he2
    rename_i t
    simp only[VR]at vc;subst he2;cases t
    .exact Yields.same (v':=a.eval y) r (by simp[execOp,vc,asBool]) (by simpa using cN ht h3)
    .exact Yields.same (v':=a.eval x) r (by simp[execOp,vc,asBool]) (by simpa using cN ht h2)
   .cases hc
 |alloc t =>
   simp only[cOp]at hc;split at hc
   .rename_i z e h1 h2
    split at hc
    .simp only[aa]at hc;subst hc;simp only[aL,aa,aq]at he;obtain⟨rfl,rfl⟩:=he;exact BX h1 r
    .simp only[aa]at hc;subst hc;simp only[aL,aa,aq]at he;obtain⟨rfl,rfl⟩:=he;exact EQ h1 r
   .cases hc
 |box t x =>
   simp only[cOp]at hc;split at hc
   .rename_i e n rx h1 h2 h3
    simp only[aa]at hc;subst hc;exact Lc (t:=t) r (cN ht h3) he
   .cases hc
 |build t ps =>
   simp only[cOp]at hc;have hro:∃z rs,ro=.build z rs:=by
    split at hc
    .split at hc
     .obtain⟨z,_,rfl⟩:=bG hc;exact⟨_,_,rfl⟩
     .cases hc
    .split at hc
     .obtain⟨z,_,rfl⟩:=bG hc;exact⟨_,_,rfl⟩
     .cases hc
    .cases hc
   obtain⟨z,rs,rfl⟩:=hro;simp only[aL]at he;obtain⟨cs,hcs,he⟩:=bG he;simp only[aq]at he;obtain⟨rfl,rfl⟩:=he;exact EP ht hc r hcs
 |buildSlice t len ps =>
   simp only[cOp]at hc;split at hc
   .rename_i e hu
    split at hc
    .rename_i n z h1 h2
     split at hc
     .rename_i h3
      obtain⟨rs,hrs,rfl⟩:=bG hc;simp only[aL]at he;obtain⟨cs,hcs,he⟩:=bG he;simp only[aq]at he;obtain⟨rfl,rfl⟩:=he;exact uy ht hu h1 h2 h3.1 h3.2 hrs r hcs
     .cases hc
    .cases hc
   .cases hc
 |load t x =>
   simp only[cOp]at hc;split at hc
   .rename_i g n rx h1 h2
    simp only[aa]at hc;subst hc;exact Hd h1 r (cN ht h2) he
   .cases hc
 |store t x y =>
   simp only[cOp]at hc;split at hc
   .rename_i n rx ry h1 h2 h3
    simp only[aa]at hc;subst hc;exact EL h1 r (cN ht h2) (cN ht h3) he
   .cases hc
 |nilCheck x =>
   obtain⟨rx,hx,rfl⟩:=bG hc;simp only[aL]at he;obtain⟨he2,rfl⟩:=dD he;exact EM ht hx _ rfl r he2
 |binOp op t x y _ =>
   simp only[cOp]at hc;split at hc
   .rename_i e rx ry h1 h2 h3
    simp only[aa]at hc;subst hc;simp only[aL]at he;obtain⟨he2,rfl⟩:=dD he;exact Ld h1 (cN ht h2) (cN ht h3) r he2
   .cases hc
 |unOp op _ x =>
   obtain⟨rx,hx,rfl⟩:=bG hc;simp only[aL]at he;obtain⟨he2,rfl⟩:=dD he;exact Nn (cN ht hx) r he2
 |convert s d x =>
   simp only[cOp]at hc;split at hc
   .rename_i k' k rx h1 h2 h3
    simp only[aa]at hc;subst hc;simp only[aL]at he;obtain⟨he2,rfl⟩:=dD he;exact La h1 h2 (cN ht h3) r he2
   .rename_i e rx h1 h2 h3
    split at hc
    .rename_i hm
     have hc:=Option.some.inj hc;subst hc;simp only[aL]at he;obtain⟨he2,rfl⟩:=dD he;exact Hn h1 h2 hm (cN ht h3) r he2
    .cases hc
   .rename_i e rx h1 h2 h3
    split at hc
    .rename_i hm
     have hc:=Option.some.inj hc;subst hc;exact Hm h1 h2 hm (cN ht h3) r he
    .cases hc
   .rename_i e0 e rx h1 h2 h3
    split at hc
    .rename_i hsd
     subst hsd;split at hc
     .rename_i hm
      have hc:=Option.some.inj hc;subst hc;simp only[aL]at he;obtain⟨he2,rfl⟩:=dD he;exact Hl h2 hm (cN ht h3) r he2
     .cases hc
    .cases hc
   .rename_i t0 rx h1 h2 h3
    split at hc
    .rename_i n hn
     have hc:=Option.some.inj hc;subst hc;simp only[aL]at he;obtain⟨he2,rfl⟩:=dD he;exact KY h1 h2 hn (cN ht h3) r he2
    .cases hc
   .rename_i t0 rx h1 h2 h3
    split at hc
    .rename_i n hn
     have hc:=Option.some.inj hc;subst hc;simp only[aL]at he;obtain⟨he2,rfl⟩:=dD he;exact KZ h1 h2 hn hK (cN ht h3) r he2
    .cases hc
   .cases hc
 |makeInterface t x =>
   simp only[cOp]at hc;split at hc
   .cases hc
   .rename_i d rx hni h1 h2
    simp only[aa]at hc;subst hc;simp only[aL,aa,aq]at he;obtain⟨rfl,rfl⟩:=he;refine Yields.same (v':=.iface t (a.eval x)) r ?_ (by simp only[VR];exact⟨_,rfl,cN ht h2⟩);cases d<;>first|(exact(hni _ rfl).elim)|simp[execOp,Instr.makeInterface,run_underlying h1]
   .cases hc
 |makeFunc fn first caps =>
   cases fn<;>simp only[cOp,reduceCtorEq]at hc
   rename_i f
   split at hc
   .rename_i hf
    obtain⟨rs,hrs,rfl⟩:=bG hc;simp only[aL,aa,aq]at he;obtain⟨rfl,rfl⟩:=he;have hf':first=#[]:=by simpa using hf
    subst hf';refine Yields.same (v':=.func (.func f) #[] (caps.map a.eval)) r (by simp[execOp,Instr.makeFunc]) ?_;simp only[VR];exact⟨caps.toList.map a.eval,by simp[<-Array.toList_map],qK ht hrs⟩
   .cases hc
 |makeSlice t l c =>
   simp only[cOp]at hc;split at hc
   .rename_i e hu
    split at hc
    .rename_i n b z rl rc h1 h2 h3 h4 h5
     split at hc
     .rename_i hzl
      simp only[aa]at hc;subst hc;exact KP hu h1 h2 h3 hzl (cN ht h4) (cN ht h5) r he
     .cases hc
    .cases hc
   .cases hc
 |slice t x lo hi mx =>
   simp only[cOp]at hc;split at hc
   .rename_i rx rlo rhi h1 h2 h3 h4 h5
    simp only[aa]at hc;subst hc;simp only[aL]at he;obtain⟨he2,rfl⟩:=dD he;have hmx:mx=none:=by
     cases mx with
     |none=>rfl
     |some y=>simp only[cOo,aG,reduceCtorEq,and_false,exists_false]at h5
    subst hmx;exact KF ht h1 h3 h4 (cN ht h2) r he2
   .rename_i e rx rlo rhi rmx h1 h2 h3 h4 h5
    obtain⟨n,hn,rfl⟩:=bG hc;simp only[aL]at he;obtain⟨he2,rfl⟩:=dD he;exact KG ht h1 hn h3 h4 h5 (cN ht h2) r he2
   .rename_i k e rx rlo rhi rmx h1 h2 h3 h4 h5
    obtain⟨n,hn,rfl⟩:=bG hc;simp only[aL]at he;obtain⟨he2,rfl⟩:=dD he;exact KH ht h1 hn h3 h4 h5 (cN ht h2) r he2
   .cases hc
 |fieldAddr t x f =>
   simp only[cOp]at hc;split at hc
   .rename_i fs rx h1 h2
    split at hc
    .rename_i fd hf
     split at hc
     .rename_i n hn
      simp only[aa]at hc;subst hc;simp only[aL]at he;obtain⟨he2,rfl⟩:=dD he;exact Hk h1 hf hn (cN ht h2) r he2
     .cases hc
    .cases hc
   .cases hc
 |field t x f =>
   simp only[cOp]at hc;split at hc
   .rename_i fs rx h1 h2
    split at hc
    .rename_i fd hf
     obtain⟨⟨g,n⟩,hn,rfl⟩:=bG hc;simp only[aL]at he;obtain⟨he2,rfl⟩:=dD he;exact KU h1 hf hn (cN ht h2) r he2
    .cases hc
   .cases hc
 |indexAddr t x i =>
   simp only[cOp]at hc;split at hc
   .rename_i e rx ri h1 h2 h3
    obtain⟨n,hn,rfl⟩:=bG hc;simp only[aL]at he;obtain⟨he2,rfl⟩:=dD he;exact Hj h1 hn (cN ht h2) (cN ht h3) r he2
   .rename_i k e rx ri h1 h2 h3
    obtain⟨n,hn,rfl⟩:=bG hc;simp only[aL]at he;obtain⟨he2,rfl⟩:=dD he;exact EO h1 hn (cN ht h2) (cN ht h3) r he2
   .cases hc
 |index t x i =>
   simp only[cOp]at hc;split at hc
   .rename_i rx ri h1 h2 h3
    simp only[aa]at hc;subst hc;simp only[aL]at he;obtain⟨he2,rfl⟩:=dD he;exact Hh h1 (cN ht h2) (cN ht h3) r he2
   .rename_i k e rx ri h1 h2 h3
    split at hc
    .rename_i g n hn
     simp only[aa]at hc;subst hc;simp only[aL]at he;obtain⟨he2,rfl⟩:=dD he;exact Hi h1 hn (cN ht h2) (cN ht h3) r he2
    .cases hc
   .cases hc
 |extract x i =>
   obtain⟨rx,hx,rfl⟩:=bG hc;simp only[aL]at he;obtain⟨he2,rfl⟩:=dD he;exact KV (cN ht hx) r he2
 |makeMap t x =>
   cases x with
   |some _=>simp[cOp]at hc
   |none =>
     simp only[cOp]at hc;split at hc
     .simp only[aa]at hc;subst hc;simp only[aL,aa,aq]at he;obtain⟨rfl,rfl⟩:=he;exact EN r
     .cases hc
 |lookup t m k ok =>
   simp only[cOp]at hc;split at hc
   .rename_i kt e hu
    split at hc
    .rename_i q z rm rk h1 h2 h3 h4
     simp only[aa]at hc;subst hc;simp only[aL]at he;obtain⟨he2,rfl⟩:=dD he;exact KN hu h1 h2 (cN ht h3) (cN ht h4) r he2
    .cases hc
   .cases hc
 |mapUpdate t m k x =>
   simp only[cOp,Gv]at hc;split at hc
   .rename_i kt e hu
    split at hc
    .rename_i q rm rk rx h1 h2 h3 h4
     simp only[aa]at hc;subst hc;exact DF hu h1 (cN ht h2) (cN ht h3) (cN ht h4) r he
    .cases hc
   .cases hc
 |insert t m k x =>
   simp only[cOp,Gv]at hc;split at hc
   .rename_i kt e hu
    split at hc
    .rename_i q rm rk rx h1 h2 h3 h4
     simp only[aa]at hc;subst hc;exact DF hu h1 (cN ht h2) (cN ht h3) (cN ht h4) r he
    .cases hc
   .cases hc
 |mapEntry t m k =>
   simp only[cOp]at hc;split at hc
   .rename_i kt e hu
    split at hc
    .rename_i q z rm rk h1 h2 h3 h4
     simp only[aa]at hc;subst hc;exact KQ hu h1 h2 (cN ht h3) (cN ht h4) r he
    .cases hc
   .cases hc
 |entryStore t m s x =>
   simp only[cOp]at hc;split at hc
   .rename_i rm rs rx h1 h2 h3
    simp only[aa]at hc;subst hc;exact KM (cN ht h1) (cN ht h2) (cN ht h3) r he
   .cases hc
 |range t x =>
   simp only[cOp]at hc;split at hc
   .rename_i kt e rx hu h1
    simp only[aa]at hc;subst hc;exact KJ hu (cN ht h1) r he
   .cases hc
 |next x s =>
   cases s with
   |true=>simp[cOp]at hc
   |false =>
     simp only[cOp]at hc;obtain⟨rx,hx,rfl⟩:=bG hc;simp[aL]at he
 |entry x =>
   simp only[cOp]at hc;obtain⟨rx,hx,rfl⟩:=bG hc;simp only[aL]at he;obtain⟨he2,rfl⟩:=dD he;exact KX (cN ht hx) r he2
 |call c =>
   obtain⟨callee,args,argTypes⟩:=c;cases callee with
   |value f =>
     cases f<;>simp only[cOp,reduceCtorEq]at hc
     .obtain⟨rs,_,rfl⟩:=bG hc;simp[aL]at he
     .rename_i f
      split at hc
      .rename_i q hq
       obtain⟨as⟩:=args;cases q with
       |none =>
         cases as with
         |nil=>simp[wk]at hc
         |cons x tl =>
           cases tl with
           |cons _ _=>simp[wk]at hc
           |nil =>
             simp only[wk]at hc;obtain⟨rx,hx,rfl⟩:=bG hc;simp only[aL,aa,aq]at he;obtain⟨rfl,rfl⟩:=he;have hf:∃fn,P.funcs[f]?=some fn:=by
              unfold outer at hq;cases hf:P.funcs[f]? with
              |none=>rw[hf]at hq;simp at hq
              |some fn=>exact⟨fn,rfl⟩
             obtain⟨fn,hf⟩:=hf;obtain⟨o1,o2,o3⟩:=Cn hq hf;obtain⟨e1,e2⟩:=wi o2 o3;refine Yields.same (v':=a.eval x) r ?_ (cN ht hx);have hfe:a.eval (.func f)=.func (.func f) #[] #[]:=rfl;have hsame:(Extern.AbiNoEscape.same #[a.eval x]).run P w=.ok (a.eval x) w:=rfl;simp[execOp,resolve,hfe,Deferred.ofValue,invoke,callFunc,hf,o1,o2,e1,e2,hsame]
       |some e =>
         cases as with
         |nil=>simp[wk]at hc
         |cons x tl =>
           cases tl with
           |cons _ _=>simp[wk]at hc
           |nil =>
             simp only[wk]at hc;obtain⟨rx,hx,rfl⟩:=bG hc;obtain⟨fn,t,o0,o1,o2,o3,o4,o5,o6⟩:=Cm hq;obtain⟨e1,e2⟩:=tQ o2 o3;simp only[aL]at he;have hfe:a.eval (.func f)=.func (.func f) #[] #[]:=rfl;have hrt:fn.resultTypes=#[t]:=by apply Array.ext';simpa using o4
             have hex:execOp a.eval { o with op:=.call { callee:=.value (.func f),args:=#[x],argTypes:=argTypes}}=(do let d <-resolve a.eval { callee:=.value (.func f),args:=#[x],argTypes:=argTypes} o.type;invoke d.target d.args):=rfl;refine Yields.congrRun ?_ (KO (ps:=fn.params) o5 (cN (a:=a) ht hx) r rfl he);rw[hex];simp[resolve,hfe,Deferred.ofValue,invoke,callFunc,o0,o1,o2,e1,e2,hrt,Sem.run_bind]
      .obtain⟨rs,_,rfl⟩:=bG hc;simp[aL]at he
   |invoke _ _=>simp[cOp]at hc
   |builtin b =>
     obtain⟨ats⟩:=argTypes;obtain⟨as⟩:=args;simp only[cOp]at hc;split at hc
     .rename_i x t ts'
      split at hc
      .rename_i e rx h1 h2
       simp only[aa]at hc;subst hc;simp only[aL]at he;obtain⟨he2,rfl⟩:=dD he;have key:=Hg (P:=P) (ty:=o.type) (ts:=ts') h1 (cN ht h2) r he2;simpa[execOp,resolve,invoke,builtin]using key
      .rename_i rx h1 h2
       simp only[aa]at hc;subst hc;simp only[aL]at he;obtain⟨he2,rfl⟩:=dD he;have key:=He (P:=P) (ty:=o.type) (ts:=ts') h1 (cN ht h2) r he2;simpa[execOp,resolve,invoke,builtin]using key
      .rename_i k e rx h1 h2
       simp only[aa]at hc;subst hc;simp only[aL]at he;obtain⟨he2,rfl⟩:=dD he;have key:=Hf (P:=P) (ty:=o.type) (ts:=ts') h1 (cN ht h2) r he2;simpa[execOp,resolve,invoke,builtin]using key
      .cases hc
     .rename_i x t ts'
      split at hc
      .rename_i kt e rx h1 h2
       simp only[aa]at hc;subst hc;have key:=KR (P:=P) (ty:=o.type) (ts:=ts') h1 (cN ht h2) r he;simpa[execOp,resolve,invoke,builtin]using key
      .rename_i e rx h1 h2
       split at hc
       .rename_i n z g1 g2
        split at hc
        .rename_i hzl
         simp only[aa]at hc;subst hc;have key:=KI (P:=P) (ty:=o.type) (ts:=ts') h1 g1 g2 hzl.1 hzl.2 (cN ht h2) r he;simpa[execOp,resolve,invoke,builtin]using key
        .cases hc
       .cases hc
      .cases hc
     .rename_i x t ts'
      split at hc
      .rename_i e rx h1 h2
       simp only[aa]at hc;subst hc;simp only[aL]at he;obtain⟨he2,rfl⟩:=dD he;have key:=Ho (P:=P) (ty:=o.type) (ts:=ts') h1 (cN ht h2) r he2;simpa[execOp,resolve,invoke,builtin]using key
      .cases hc
     .rename_i d s t ts'
      split at hc
      .rename_i e rd rs h1 h2 h3
       obtain⟨n,hn,rfl⟩:=bG hc;have key:=Lb (P:=P) (ty:=o.type) (ts:=ts') h1 hn (cN ht h2) (cN ht h3) r he;simpa[execOp,resolve,invoke,builtin]using key
      .cases hc
     .rename_i x
      obtain⟨rx,hx,rfl⟩:=bG hc;simp only[aL]at he;obtain⟨he2,rfl⟩:=dD he;have key:=Hc (P:=P) (ats:=⟨ats⟩) (ty:=o.type) (cN (a:=a) ht hx) r he2;simpa[execOp,resolve,invoke,builtin]using key
     .rename_i x n t ts'
      split at hc
      .rename_i e rx rn h1 h2 h3
       split at hc
       .rename_i hs
        simp only[aa]at hc;subst hc;have key:=Hb (P:=P) (ty:=o.type) (tl:=ts') h1 hs (cN ht h2) (cN ht h3) r he;simpa[execOp,resolve,invoke,builtin]using key
       .cases hc
      .cases hc
     .obtain⟨rs,hrs,rfl⟩:=bG hc;simp only[aL]at he;obtain⟨he2,rfl⟩:=dD he;have:=Np (P:=P) (ats:=⟨ats⟩) (ty:=o.type) (qK (a:=a) ht hrs) r he2;simpa[execOp,resolve,invoke,builtin]using this
     .obtain⟨rs,hrs,rfl⟩:=bG hc;simp only[aL]at he;obtain⟨he2,rfl⟩:=dD he;have:=Nq (P:=P) (ats:=⟨ats⟩) (ty:=o.type) (qK (a:=a) ht hrs) r he2;simpa[execOp,resolve,invoke,builtin]using this
     .rename_i s x t t' tl
      split at hc
      .rename_i e e' rs rx h1 h2 h3 h4
       have key:=zT (P:=P) (ty:=o.type) (tl:=tl) hK h1 h2 (.inl ⟨_,rfl⟩) hc (cN ht h3) (cN ht h4) r he;simpa[execOp,resolve,invoke,builtin]using key
      .rename_i e rs rx h1 h2 h3 h4
       have key:=zT (P:=P) (ty:=o.type) (tl:=tl) hK h1 h2 (.inr rfl) hc (cN ht h3) (cN ht h4) r he;simpa[execOp,resolve,invoke,builtin]using key
      .rename_i e k rs rx h1 h2 h3 h4
       split at hc
       .rename_i n b z g1 g2 g3
        split at hc
        .rename_i hzl
         simp only[aa]at hc;subst hc;have key:=Le (P:=P) (ty:=o.type) (tl:=tl) h1 h2 g1 g2 g3 hzl.1 hzl.2 (cN ht h3) (cN ht h4) r he;simpa[execOp,resolve,invoke,builtin]using key
        .cases hc
       .cases hc
      .cases hc
     .cases hc
 |_=>simp[cOp]at hc
end
end Go.Am
