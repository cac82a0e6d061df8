/-
  Each operation of the clean machine that is no call, no walk's step, is the model's.
-/
import Derived.Test.YtpeemonpdlifbaaQAmUns
set_option linter.all false
namespace Go.Am
open Go.RowKit
section
variable {P:Program}{K:Bs}{σ:Sg}{h:AH}{w:World}
theorem map_pair {α:Type}{x:Option α}{h h':AH}{v:α} (he:x.map (·,h)=some (v,h')):x=some v∧h'=h:=by
 cases x with
 | none=>cases he
 | some y=>simp only[Option.map_some,Option.some.injEq,Prod.mk.injEq] at he; exact⟨by rw[he.1],he.2.symm⟩
theorem map_some_inv {α β:Type}{x:Option α}{f:α→β}{y:β} (he:x.map f=some y):∃ z,x=some z∧f z=y:=by
 cases x with
 | none=>cases he
 | some z=>exact⟨z,rfl,by simpa using he⟩
theorem sim_cApp {t t' e ty:TypeId}{u:TypeDesc}{tl:List TypeId} (hK:K.P=P) (hu:P.underlying t=some (.slice e)) (hu':P.underlying t'=some u) (hni:(∃ e',u=.slice e')∨u=.string) {rs rx:RO}{ro:ROp} (hc:cApp P e rs rx=some ro)
 {ts:Tm}{s' x':Value} (hs':VR σ (rs.ev ts) s') (hx:VR σ (rx.ev ts) x') (r:Rep K σ h w) {v:AV}{h':AH} (he:evOp (RO.ev ts) h ro=some (v,h')) :
 Yields P K σ (do pure (.value (← Builtin.append_ (t::t'::tl).toArray ty #[s',x']))) w v h':=by
 unfold cApp at hc
 split at hc
 ·rename_i n b z g1 g2 g3
  split at hc
  ·rename_i hzl
   split at hc
   ·rename_i hb
    obtain⟨_,rfl,rfl⟩:=hb
    simp only[Option.some.injEq] at hc
    subst hc
    simp only[evOp] at he
    have htg:∀ u,some e=some u→u=e∧(K.P.info? e).map (·.size)=some 1:=by
     intro u hu
     simp only[Option.some.injEq] at hu
     refine⟨hu.symm,?_⟩
     rw[hK]; exact g1
    unfold appBA at he
    split at he
    ·rename_i b o n c hsv
     rw[hsv] at hs'
     split at he
     ·exact sim_appG hu hu' g1 g2 g3 hni hzl hs' hx r htg he
     ·exact sim_appG hu hu' g1 g2 g3 hni hzl hs' hx r (fun u hu=>by cases hu) he
    ·exact sim_appG hu hu' g1 g2 g3 hni hzl hs' hx r htg he
   ·simp only[Option.some.injEq] at hc
    subst hc
    exact sim_app hu hu' g1 g2 g3 hni hzl hs' hx r he
  ·cases hc
 ·cases hc
theorem sim_op (hK:K.P=P) {ts:Tm}{a:Act} (ht:TR σ ts a.tmps) {o:Oper}{ro:ROp} (hc:cOp P o.op=some ro) (r:Rep K σ h w) {v:AV}{h':AH} (he:evOp (RO.ev ts) h ro=some (v,h')) :
 Yields P K σ (execOp a.eval o) w v h':=by
 have hex:∀ op,o.op=op→execOp a.eval o=execOp a.eval { o with op:=op}:=by intro op h; subst h; rfl
 generalize hop:o.op=op at hc
 rw[hex op hop]
 clear hex
 cases op with
 | move x =>
   obtain⟨rx,hx,rfl⟩:=map_some_inv hc
   simp only[evOp,Option.some.injEq,Prod.mk.injEq] at he
   obtain⟨rfl,rfl⟩:=he
   exact Yields.same r (by simp [execOp]) (cO_VR ht hx)
 | assign x =>
   obtain⟨rx,hx,rfl⟩:=map_some_inv hc
   simp only[evOp,Option.some.injEq,Prod.mk.injEq] at he
   obtain⟨rfl,rfl⟩:=he
   exact Yields.same r (by simp [execOp]) (cO_VR ht hx)
 | pick c x y =>
   simp only[cOp] at hc
   split at hc
   ·rename_i rc rx ry h1 h2 h3
    simp only[Option.some.injEq] at hc
    subst hc
    simp only[evOp] at he
    obtain⟨he2,rfl⟩:=map_pair he
    have vc:=cO_VR (a:=a) ht h1
    generalize rc.ev ts=ac at *
    cases ac<;>simp only[pickA,reduceCtorEq,Option.some.injEq] at he2
    rename_i t
    simp only[VR] at vc
    subst he2
    cases t
    ·exact Yields.same (v':=a.eval y) r (by simp [execOp,vc,asBool]) (by simpa using cO_VR ht h3)
    ·exact Yields.same (v':=a.eval x) r (by simp [execOp,vc,asBool]) (by simpa using cO_VR ht h2)
   ·cases hc
 | alloc t =>
   simp only[cOp] at hc
   split at hc
   ·rename_i z e h1 h2
    split at hc
    ·simp only[Option.some.injEq] at hc
     subst hc
     simp only[evOp,Option.some.injEq,Prod.mk.injEq] at he
     obtain⟨rfl,rfl⟩:=he
     exact sim_allocT h1 r
    ·simp only[Option.some.injEq] at hc
     subst hc
     simp only[evOp,Option.some.injEq,Prod.mk.injEq] at he
     obtain⟨rfl,rfl⟩:=he
     exact sim_alloc h1 r
   ·cases hc
 | box t x =>
   simp only[cOp] at hc
   split at hc
   ·rename_i e n rx h1 h2 h3
    simp only[Option.some.injEq] at hc
    subst hc
    exact sim_box (t:=t) r (cO_VR ht h3) he
   ·cases hc
 | build t ps =>
   simp only[cOp] at hc
   have hro:∃ z rs,ro=.build z rs:=by
    split at hc
    ·split at hc
     ·obtain⟨z,_,rfl⟩:=map_some_inv hc; exact⟨_,_,rfl⟩
     ·cases hc
    ·split at hc
     ·obtain⟨z,_,rfl⟩:=map_some_inv hc; exact⟨_,_,rfl⟩
     ·cases hc
    ·cases hc
   obtain⟨z,rs,rfl⟩:=hro
   simp only[evOp] at he
   obtain⟨cs,hcs,he⟩:=map_some_inv he
   simp only[Prod.mk.injEq] at he
   obtain⟨rfl,rfl⟩:=he
   exact sim_build ht hc r hcs
 | buildSlice t len ps =>
   simp only[cOp] at hc
   split at hc
   ·rename_i e hu
    split at hc
    ·rename_i n z h1 h2
     split at hc
     ·rename_i h3
      obtain⟨rs,hrs,rfl⟩:=map_some_inv hc
      simp only[evOp] at he
      obtain⟨cs,hcs,he⟩:=map_some_inv he
      simp only[Prod.mk.injEq] at he
      obtain⟨rfl,rfl⟩:=he
      exact sim_buildSlice ht hu h1 h2 h3.1 h3.2 hrs r hcs
     ·cases hc
    ·cases hc
   ·cases hc
 | load t x =>
   simp only[cOp] at hc
   split at hc
   ·rename_i g n rx h1 h2
    simp only[Option.some.injEq] at hc
    subst hc
    exact sim_load h1 r (cO_VR ht h2) he
   ·cases hc
 | store t x y =>
   simp only[cOp] at hc
   split at hc
   ·rename_i n rx ry h1 h2 h3
    simp only[Option.some.injEq] at hc
    subst hc
    exact sim_store h1 r (cO_VR ht h2) (cO_VR ht h3) he
   ·cases hc
 | nilCheck x =>
   obtain⟨rx,hx,rfl⟩:=map_some_inv hc
   simp only[evOp] at he
   obtain⟨he2,rfl⟩:=map_pair he
   exact sim_nilck ht hx _ rfl r he2
 | binOp op t x y _ =>
   simp only[cOp] at hc
   split at hc
   ·rename_i e rx ry h1 h2 h3
    simp only[Option.some.injEq] at hc
    subst hc
    simp only[evOp] at he
    obtain⟨he2,rfl⟩:=map_pair he
    exact sim_bin h1 (cO_VR ht h2) (cO_VR ht h3) r he2
   ·cases hc
 | unOp op _ x =>
   obtain⟨rx,hx,rfl⟩:=map_some_inv hc
   simp only[evOp] at he
   obtain⟨he2,rfl⟩:=map_pair he
   exact sim_un (cO_VR ht hx) r he2
 | convert s d x =>
   simp only[cOp] at hc
   split at hc
   ·rename_i k' k rx h1 h2 h3
    simp only[Option.some.injEq] at hc
    subst hc
    simp only[evOp] at he
    obtain⟨he2,rfl⟩:=map_pair he
    exact sim_cvI h1 h2 (cO_VR ht h3) r he2
   ·rename_i e rx h1 h2 h3
    split at hc
    ·rename_i hm
     have hc:=Option.some.inj hc
     subst hc
     simp only[evOp] at he
     obtain⟨he2,rfl⟩:=map_pair he
     exact sim_cvBS h1 h2 hm (cO_VR ht h3) r he2
    ·cases hc
   ·rename_i e rx h1 h2 h3
    split at hc
    ·rename_i hm
     have hc:=Option.some.inj hc
     subst hc
     exact sim_cvSB h1 h2 hm (cO_VR ht h3) r he
    ·cases hc
   ·rename_i e0 e rx h1 h2 h3
    split at hc
    ·rename_i hsd
     subst hsd
     split at hc
     ·rename_i hm
      have hc:=Option.some.inj hc
      subst hc
      simp only[evOp] at he
      obtain⟨he2,rfl⟩:=map_pair he
      exact sim_cvSS h2 hm (cO_VR ht h3) r he2
     ·cases hc
    ·cases hc
   ·rename_i t0 rx h1 h2 h3
    split at hc
    ·rename_i n hn
     have hc:=Option.some.inj hc
     subst hc
     simp only[evOp] at he
     obtain⟨he2,rfl⟩:=map_pair he
     exact sim_cvU h1 h2 hn (cO_VR ht h3) r he2
    ·cases hc
   ·rename_i t0 rx h1 h2 h3
    split at hc
    ·rename_i n hn
     have hc:=Option.some.inj hc
     subst hc
     simp only[evOp] at he
     obtain⟨he2,rfl⟩:=map_pair he
     exact sim_cvP h1 h2 hn hK (cO_VR ht h3) r he2
    ·cases hc
   ·cases hc
 | makeInterface t x =>
   simp only[cOp] at hc
   split at hc
   ·cases hc
   ·rename_i d rx hni h1 h2
    simp only[Option.some.injEq] at hc
    subst hc
    simp only[evOp,Option.some.injEq,Prod.mk.injEq] at he
    obtain⟨rfl,rfl⟩:=he
    refine Yields.same (v':=.iface t (a.eval x)) r ?_ (by simp only[VR]; exact⟨_,rfl,cO_VR ht h2⟩)
    cases d<;>first|(exact (hni _ rfl).elim)|simp [execOp,Instr.makeInterface,run_underlying h1]
   ·cases hc
 | makeFunc fn first caps =>
   cases fn<;>simp only[cOp,reduceCtorEq] at hc
   rename_i f
   split at hc
   ·rename_i hf
    obtain⟨rs,hrs,rfl⟩:=map_some_inv hc
    simp only[evOp,Option.some.injEq,Prod.mk.injEq] at he
    obtain⟨rfl,rfl⟩:=he
    have hf':first=#[]:=by simpa using hf
    subst hf'
    refine Yields.same (v':=.func (.func f) #[] (caps.map a.eval)) r (by simp [execOp,Instr.makeFunc]) ?_
    simp only[VR]
    exact⟨caps.toList.map a.eval,by simp [← Array.toList_map],cOs_VR ht hrs⟩
   ·cases hc
 | makeSlice t l c =>
   simp only[cOp] at hc
   split at hc
   ·rename_i e hu
    split at hc
    ·rename_i n b z rl rc h1 h2 h3 h4 h5
     split at hc
     ·rename_i hzl
      simp only[Option.some.injEq] at hc
      subst hc
      exact sim_mks hu h1 h2 h3 hzl (cO_VR ht h4) (cO_VR ht h5) r he
     ·cases hc
    ·cases hc
   ·cases hc
 | slice t x lo hi mx =>
   simp only[cOp] at hc
   split at hc
   ·rename_i rx rlo rhi h1 h2 h3 h4 h5
    simp only[Option.some.injEq] at hc
    subst hc
    simp only[evOp] at he
    obtain⟨he2,rfl⟩:=map_pair he
    have hmx:mx=none:=by
     cases mx with
     | none=>rfl
     | some y=>simp only[cOo,Option.map_eq_some_iff,reduceCtorEq,and_false,exists_false] at h5
    subst hmx
    exact sim_slS ht h1 h3 h4 (cO_VR ht h2) r he2
   ·rename_i e rx rlo rhi rmx h1 h2 h3 h4 h5
    obtain⟨n,hn,rfl⟩:=map_some_inv hc
    simp only[evOp] at he
    obtain⟨he2,rfl⟩:=map_pair he
    exact sim_slL ht h1 hn h3 h4 h5 (cO_VR ht h2) r he2
   ·rename_i k e rx rlo rhi rmx h1 h2 h3 h4 h5
    obtain⟨n,hn,rfl⟩:=map_some_inv hc
    simp only[evOp] at he
    obtain⟨he2,rfl⟩:=map_pair he
    exact sim_slA ht h1 hn h3 h4 h5 (cO_VR ht h2) r he2
   ·cases hc
 | fieldAddr t x f =>
   simp only[cOp] at hc
   split at hc
   ·rename_i fs rx h1 h2
    split at hc
    ·rename_i fd hf
     split at hc
     ·rename_i n hn
      simp only[Option.some.injEq] at hc
      subst hc
      simp only[evOp] at he
      obtain⟨he2,rfl⟩:=map_pair he
      exact sim_fadr h1 hf hn (cO_VR ht h2) r he2
     ·cases hc
    ·cases hc
   ·cases hc
 | field t x f =>
   simp only[cOp] at hc
   split at hc
   ·rename_i fs rx h1 h2
    split at hc
    ·rename_i fd hf
     obtain⟨⟨g,n⟩,hn,rfl⟩:=map_some_inv hc
     simp only[evOp] at he
     obtain⟨he2,rfl⟩:=map_pair he
     exact sim_fld h1 hf hn (cO_VR ht h2) r he2
    ·cases hc
   ·cases hc
 | indexAddr t x i =>
   simp only[cOp] at hc
   split at hc
   ·rename_i e rx ri h1 h2 h3
    obtain⟨n,hn,rfl⟩:=map_some_inv hc
    simp only[evOp] at he
    obtain⟨he2,rfl⟩:=map_pair he
    exact sim_iadr h1 hn (cO_VR ht h2) (cO_VR ht h3) r he2
   ·rename_i k e rx ri h1 h2 h3
    obtain⟨n,hn,rfl⟩:=map_some_inv hc
    simp only[evOp] at he
    obtain⟨he2,rfl⟩:=map_pair he
    exact sim_iadrA h1 hn (cO_VR ht h2) (cO_VR ht h3) r he2
   ·cases hc
 | index t x i =>
   simp only[cOp] at hc
   split at hc
   ·rename_i rx ri h1 h2 h3
    simp only[Option.some.injEq] at hc
    subst hc
    simp only[evOp] at he
    obtain⟨he2,rfl⟩:=map_pair he
    exact sim_idxS h1 (cO_VR ht h2) (cO_VR ht h3) r he2
   ·rename_i k e rx ri h1 h2 h3
    split at hc
    ·rename_i g n hn
     simp only[Option.some.injEq] at hc
     subst hc
     simp only[evOp] at he
     obtain⟨he2,rfl⟩:=map_pair he
     exact sim_idxA h1 hn (cO_VR ht h2) (cO_VR ht h3) r he2
    ·cases hc
   ·cases hc
 | extract x i =>
   obtain⟨rx,hx,rfl⟩:=map_some_inv hc
   simp only[evOp] at he
   obtain⟨he2,rfl⟩:=map_pair he
   exact sim_ext (cO_VR ht hx) r he2
 | makeMap t x =>
   cases x with
   | some _=>simp [cOp] at hc
   | none =>
     simp only[cOp] at hc
     split at hc
     ·simp only[Option.some.injEq] at hc
      subst hc
      simp only[evOp,Option.some.injEq,Prod.mk.injEq] at he
      obtain⟨rfl,rfl⟩:=he
      exact sim_mkmap r
     ·cases hc
 | lookup t m k ok =>
   simp only[cOp] at hc
   split at hc
   ·rename_i kt e hu
    split at hc
    ·rename_i q z rm rk h1 h2 h3 h4
     simp only[Option.some.injEq] at hc
     subst hc
     simp only[evOp] at he
     obtain⟨he2,rfl⟩:=map_pair he
     exact sim_mlk hu h1 h2 (cO_VR ht h3) (cO_VR ht h4) r he2
    ·cases hc
   ·cases hc
 | mapUpdate t m k x =>
   simp only[cOp,cMup] at hc
   split at hc
   ·rename_i kt e hu
    split at hc
    ·rename_i q rm rk rx h1 h2 h3 h4
     simp only[Option.some.injEq] at hc
     subst hc
     exact sim_mup hu h1 (cO_VR ht h2) (cO_VR ht h3) (cO_VR ht h4) r he
    ·cases hc
   ·cases hc
 | insert t m k x =>
   simp only[cOp,cMup] at hc
   split at hc
   ·rename_i kt e hu
    split at hc
    ·rename_i q rm rk rx h1 h2 h3 h4
     simp only[Option.some.injEq] at hc
     subst hc
     exact sim_mup hu h1 (cO_VR ht h2) (cO_VR ht h3) (cO_VR ht h4) r he
    ·cases hc
   ·cases hc
 | mapEntry t m k =>
   simp only[cOp] at hc
   split at hc
   ·rename_i kt e hu
    split at hc
    ·rename_i q z rm rk h1 h2 h3 h4
     simp only[Option.some.injEq] at hc
     subst hc
     exact sim_men hu h1 h2 (cO_VR ht h3) (cO_VR ht h4) r he
    ·cases hc
   ·cases hc
 | entryStore t m s x =>
   simp only[cOp] at hc
   split at hc
   ·rename_i rm rs rx h1 h2 h3
    simp only[Option.some.injEq] at hc
    subst hc
    exact sim_mst (cO_VR ht h1) (cO_VR ht h2) (cO_VR ht h3) r he
   ·cases hc
 | range t x =>
   simp only[cOp] at hc
   split at hc
   ·rename_i kt e rx hu h1
    simp only[Option.some.injEq] at hc
    subst hc
    exact sim_rgM hu (cO_VR ht h1) r he
   ·cases hc
 | next x s =>
   cases s with
   | true=>simp [cOp] at hc
   | false =>
     simp only[cOp] at hc
     obtain⟨rx,hx,rfl⟩:=map_some_inv hc
     simp [evOp] at he
 | entry x =>
   simp only[cOp] at hc
   obtain⟨rx,hx,rfl⟩:=map_some_inv hc
   simp only[evOp] at he
   obtain⟨he2,rfl⟩:=map_pair he
   exact sim_ent (cO_VR ht hx) r he2
 | call c =>
   obtain⟨callee,args,argTypes⟩:=c
   cases callee with
   | value f =>
     cases f<;>simp only[cOp,reduceCtorEq] at hc
     ·obtain⟨rs,_,rfl⟩:=map_some_inv hc
      simp [evOp] at he
     ·rename_i f
      split at hc
      ·rename_i q hq
       obtain⟨as⟩:=args
       cases q with
       | none =>
         cases as with
         | nil=>simp [cExt] at hc
         | cons x tl =>
           cases tl with
           | cons _ _=>simp [cExt] at hc
           | nil =>
             simp only[cExt] at hc
             obtain⟨rx,hx,rfl⟩:=map_some_inv hc
             simp only[evOp,Option.some.injEq,Prod.mk.injEq] at he
             obtain⟨rfl,rfl⟩:=he
             have hf:∃ fn,P.funcs[f]?=some fn:=by
              unfold outer at hq
              cases hf:P.funcs[f]? with
              | none=>rw[hf] at hq; simp at hq
              | some fn=>exact⟨fn,rfl⟩
             obtain⟨fn,hf⟩:=hf
             obtain⟨o1,o2,o3⟩:=outer_none hq hf
             obtain⟨e1,e2⟩:=find_noEscape o2 o3
             refine Yields.same (v':=a.eval x) r ?_ (cO_VR ht hx)
             have hfe:a.eval (.func f)=.func (.func f) #[] #[]:=rfl
             have hsame:(Extern.AbiNoEscape.same #[a.eval x]).run P w=.ok (a.eval x) w:=rfl
             simp [execOp,resolve,hfe,Deferred.ofValue,invoke,callFunc,hf,o1,o2,e1,e2,hsame]
       | some e =>
         cases as with
         | nil=>simp [cExt] at hc
         | cons x tl =>
           cases tl with
           | cons _ _=>simp [cExt] at hc
           | nil =>
             simp only[cExt] at hc
             obtain⟨rx,hx,rfl⟩:=map_some_inv hc
             obtain⟨fn,t,o0,o1,o2,o3,o4,o5,o6⟩:=outer_some hq
             obtain⟨e1,e2⟩:=find_makeNoZero o2 o3
             simp only[evOp] at he
             have hfe:a.eval (.func f)=.func (.func f) #[] #[]:=rfl
             have hrt:fn.resultTypes=#[t]:=by apply Array.ext'; simpa using o4
             have hex:execOp a.eval { o with op:=.call { callee:=.value (.func f),args:=#[x],argTypes:=argTypes}}=(do let d ← resolve a.eval { callee:=.value (.func f),args:=#[x],argTypes:=argTypes} o.type; invoke d.target d.args):=rfl
             refine Yields.congrRun ?_ (sim_mkz (ps:=fn.params) o5 (cO_VR (a:=a) ht hx) r rfl he)
             rw[hex]
             simp [resolve,hfe,Deferred.ofValue,invoke,callFunc,o0,o1,o2,e1,e2,hrt,Sem.run_bind]
      ·obtain⟨rs,_,rfl⟩:=map_some_inv hc
       simp [evOp] at he
   | invoke _ _=>simp [cOp] at hc
   | builtin b =>
     obtain⟨ats⟩:=argTypes
     obtain⟨as⟩:=args
     simp only[cOp] at hc
     split at hc
     ·rename_i x t ts'
      split at hc
      ·rename_i e rx h1 h2
       simp only[Option.some.injEq] at hc
       subst hc
       simp only[evOp] at he
       obtain⟨he2,rfl⟩:=map_pair he
       have key:=sim_lenL (P:=P) (ty:=o.type) (ts:=ts') h1 (cO_VR ht h2) r he2
       simpa [execOp,resolve,invoke,builtin] using key
      ·rename_i rx h1 h2
       simp only[Option.some.injEq] at hc
       subst hc
       simp only[evOp] at he
       obtain⟨he2,rfl⟩:=map_pair he
       have key:=sim_lenS (P:=P) (ty:=o.type) (ts:=ts') h1 (cO_VR ht h2) r he2
       simpa [execOp,resolve,invoke,builtin] using key
      ·rename_i k e rx h1 h2
       simp only[Option.some.injEq] at hc
       subst hc
       simp only[evOp] at he
       obtain⟨he2,rfl⟩:=map_pair he
       have key:=sim_lenM (P:=P) (ty:=o.type) (ts:=ts') h1 (cO_VR ht h2) r he2
       simpa [execOp,resolve,invoke,builtin] using key
      ·cases hc
     ·rename_i x t ts'
      split at hc
      ·rename_i kt e rx h1 h2
       simp only[Option.some.injEq] at hc
       subst hc
       have key:=sim_mcl (P:=P) (ty:=o.type) (ts:=ts') h1 (cO_VR ht h2) r he
       simpa [execOp,resolve,invoke,builtin] using key
      ·rename_i e rx h1 h2
       split at hc
       ·rename_i n z g1 g2
        split at hc
        ·rename_i hzl
         simp only[Option.some.injEq] at hc
         subst hc
         have key:=sim_scl (P:=P) (ty:=o.type) (ts:=ts') h1 g1 g2 hzl.1 hzl.2 (cO_VR ht h2) r he
         simpa [execOp,resolve,invoke,builtin] using key
        ·cases hc
       ·cases hc
      ·cases hc
     ·rename_i x t ts'
      split at hc
      ·rename_i e rx h1 h2
       simp only[Option.some.injEq] at hc
       subst hc
       simp only[evOp] at he
       obtain⟨he2,rfl⟩:=map_pair he
       have key:=sim_capL (P:=P) (ty:=o.type) (ts:=ts') h1 (cO_VR ht h2) r he2
       simpa [execOp,resolve,invoke,builtin] using key
      ·cases hc
     ·rename_i d s t ts'
      split at hc
      ·rename_i e rd rs h1 h2 h3
       obtain⟨n,hn,rfl⟩:=map_some_inv hc
       have key:=sim_cpy (P:=P) (ty:=o.type) (ts:=ts') h1 hn (cO_VR ht h2) (cO_VR ht h3) r he
       simpa [execOp,resolve,invoke,builtin] using key
      ·cases hc
     ·rename_i x
      obtain⟨rx,hx,rfl⟩:=map_some_inv hc
      simp only[evOp] at he
      obtain⟨he2,rfl⟩:=map_pair he
      have key:=sim_sdat (P:=P) (ats:=⟨ats⟩) (ty:=o.type) (cO_VR (a:=a) ht hx) r he2
      simpa [execOp,resolve,invoke,builtin] using key
     ·rename_i x n t ts'
      split at hc
      ·rename_i e rx rn h1 h2 h3
       split at hc
       ·rename_i hs
        simp only[Option.some.injEq] at hc
        subst hc
        have key:=sim_ustr (P:=P) (ty:=o.type) (tl:=ts') h1 hs (cO_VR ht h2) (cO_VR ht h3) r he
        simpa [execOp,resolve,invoke,builtin] using key
       ·cases hc
      ·cases hc
     ·obtain⟨rs,hrs,rfl⟩:=map_some_inv hc
      simp only[evOp] at he
      obtain⟨he2,rfl⟩:=map_pair he
      have:=sim_mx (P:=P) (ats:=⟨ats⟩) (ty:=o.type) (cOs_VR (a:=a) ht hrs) r he2
      simpa [execOp,resolve,invoke,builtin] using this
     ·obtain⟨rs,hrs,rfl⟩:=map_some_inv hc
      simp only[evOp] at he
      obtain⟨he2,rfl⟩:=map_pair he
      have:=sim_mn (P:=P) (ats:=⟨ats⟩) (ty:=o.type) (cOs_VR (a:=a) ht hrs) r he2
      simpa [execOp,resolve,invoke,builtin] using this
     ·rename_i s x t t' tl
      split at hc
      ·rename_i e e' rs rx h1 h2 h3 h4
       have key:=sim_cApp (P:=P) (ty:=o.type) (tl:=tl) hK h1 h2 (.inl ⟨_,rfl⟩) hc (cO_VR ht h3) (cO_VR ht h4) r he
       simpa [execOp,resolve,invoke,builtin] using key
      ·rename_i e rs rx h1 h2 h3 h4
       have key:=sim_cApp (P:=P) (ty:=o.type) (tl:=tl) hK h1 h2 (.inr rfl) hc (cO_VR ht h3) (cO_VR ht h4) r he
       simpa [execOp,resolve,invoke,builtin] using key
      ·rename_i e k rs rx h1 h2 h3 h4
       split at hc
       ·rename_i n b z g1 g2 g3
        split at hc
        ·rename_i hzl
         simp only[Option.some.injEq] at hc
         subst hc
         have key:=sim_apz (P:=P) (ty:=o.type) (tl:=tl) h1 h2 g1 g2 g3 hzl.1 hzl.2 (cO_VR ht h3) (cO_VR ht h4) r he
         simpa [execOp,resolve,invoke,builtin] using key
        ·cases hc
       ·cases hc
      ·cases hc
     ·cases hc
 | _=>simp [cOp] at hc
end
end Go.Am
