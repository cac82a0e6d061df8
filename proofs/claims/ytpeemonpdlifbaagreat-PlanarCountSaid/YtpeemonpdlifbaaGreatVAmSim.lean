/- Each operation of the clean machine that is no call, no walk -/
import Derived.Test.YtpeemonpdlifbaaGreatVAmUns
set_option linter.all false
namespace Go.Am
open Go.RowKit
section
variable {P:Program}{K:Bs}{σ:Sg}{h:AH}{w:World}
theorem dA {α:Type}{x:Option α}{h h':AH}{v:α} (he:x.map (·,h)=some (v,h')):x=some v∧h'=h:=by
 cases x with
 | none=>cases he
 | some y=>simp only[aH,aa,aq] at he; exact⟨by rw[he.1],he.2.symm⟩
theorem aX {α β:Type}{x:Option α}{f:α→β}{y:β} (he:x.map f=some y):∃ z,x=some z∧f z=y:=by
 cases x with
 | none=>cases he
 | some z=>exact⟨z,rfl,by simpa using he⟩
theorem xh {t t' e ty:TypeId}{u:TypeDesc}{tl:List TypeId} (hK:K.P=P) (hu:P.underlying t=some (.slice e)) (hu':P.underlying t'=some u) (hni:(∃ e',u=.slice e')∨u=.string) {rs rx:RO}{ro:ROp} (hc:Ad P e rs rx=some ro)
 {ts:Tm}{s' x':Value} (hs':VR σ (rs.ev ts) s') (hx:VR σ (rx.ev ts) x') (r:Rep K σ h w) {v:AV}{h':AH} (he:aF (RO.ev ts) h ro=some (v,h')) :
 Yields P K σ (do pure (.value (← Builtin.append_ (t::t'::tl).toArray ty #[s',x']))) w v h':=by
 unfold Ad at hc
 split at hc
 ·rename_i n b z g1 g2 g3
  split at hc
  ·rename_i hzl
   split at hc
   ·rename_i hb
    obtain⟨_,rfl,rfl⟩:=hb
    simp only[aa] at hc
    subst hc
    simp only[aF] at he
    have htg:∀ u,some e=some u→u=e∧(K.P.info? e).map (·.size)=some 1:=by
     intro u hu
     simp only[aa] at hu
     refine⟨hu.symm,?_⟩
     rw[hK]; exact g1
    unfold GY at he
    split at he
    ·rename_i b o n c hsv
     rw[hsv] at hs'
     split at he
     ·exact oB hu hu' g1 g2 g3 hni hzl hs' hx r htg he
     ·exact oB hu hu' g1 g2 g3 hni hzl hs' hx r (λu hu=>by cases hu) he
    ·exact oB hu hu' g1 g2 g3 hni hzl hs' hx r htg he
   ·simp only[aa] at hc
    subst hc
    exact Ii hu hu' g1 g2 g3 hni hzl hs' hx r he
  ·cases hc
 ·cases hc
theorem KA (hK:K.P=P) {ts:Tm}{a:Act} (ht:TR σ ts a.tmps) {o:Oper}{ro:ROp} (hc:cOp P o.op=some ro) (r:Rep K σ h w) {v:AV}{h':AH} (he:aF (RO.ev ts) h ro=some (v,h')) :
 Yields P K σ (execOp a.eval o) w v h':=by
 have hex:∀ op,o.op=op→execOp a.eval o=execOp a.eval { o with op:=op}:=by intro op h; subst h; rfl
 generalize hop:o.op=op at hc
 rw[hex op hop]
 clear hex
 cases op with
 | move x =>
   obtain⟨rx,hx,rfl⟩:=aX hc
   simp only[aF,aa,aq] at he
   obtain⟨rfl,rfl⟩:=he
   exact Yields.same r (by simp [execOp]) (cE ht hx)
 | assign x =>
   obtain⟨rx,hx,rfl⟩:=aX hc
   simp only[aF,aa,aq] at he
   obtain⟨rfl,rfl⟩:=he
   exact Yields.same r (by simp [execOp]) (cE ht hx)
 | pick c x y =>
   simp only[cOp] at hc
   split at hc
   ·rename_i rc rx ry h1 h2 h3
    simp only[aa] at hc
    subst hc
    simp only[aF] at he
    obtain⟨he2,rfl⟩:=dA he
    have vc:=cE (a:=a) ht h1
    generalize rc.ev ts=ac at *
    cases ac<;>simp only[AP,reduceCtorEq,aa] at he2
    rename_i t
    simp only[VR] at vc
    subst he2
    cases t
    ·exact Yields.same (v':=a.eval y) r (by simp [execOp,vc,asBool]) (by simpa using cE ht h3)
    ·exact Yields.same (v':=a.eval x) r (by simp [execOp,vc,asBool]) (by simpa using cE ht h2)
   ·cases hc
 | alloc t =>
   simp only[cOp] at hc
   split at hc
   ·rename_i z e h1 h2
    split at hc
    ·simp only[aa] at hc
     subst hc
     simp only[aF,aa,aq] at he
     obtain⟨rfl,rfl⟩:=he
     exact yU h1 r
    ·simp only[aa] at hc
     subst hc
     simp only[aF,aa,aq] at he
     obtain⟨rfl,rfl⟩:=he
     exact Cm h1 r
   ·cases hc
 | box t x =>
   simp only[cOp] at hc
   split at hc
   ·rename_i e n rx h1 h2 h3
    simp only[aa] at hc
    subst hc
    exact Ie (t:=t) r (cE ht h3) he
   ·cases hc
 | build t ps =>
   simp only[cOp] at hc
   have hro:∃ z rs,ro=.build z rs:=by
    split at hc
    ·split at hc
     ·obtain⟨z,_,rfl⟩:=aX hc; exact⟨_,_,rfl⟩
     ·cases hc
    ·split at hc
     ·obtain⟨z,_,rfl⟩:=aX hc; exact⟨_,_,rfl⟩
     ·cases hc
    ·cases hc
   obtain⟨z,rs,rfl⟩:=hro
   simp only[aF] at he
   obtain⟨cs,hcs,he⟩:=aX he
   simp only[aq] at he
   obtain⟨rfl,rfl⟩:=he
   exact Cl ht hc r hcs
 | buildSlice t len ps =>
   simp only[cOp] at hc
   split at hc
   ·rename_i e hu
    split at hc
    ·rename_i n z h1 h2
     split at hc
     ·rename_i h3
      obtain⟨rs,hrs,rfl⟩:=aX hc
      simp only[aF] at he
      obtain⟨cs,hcs,he⟩:=aX he
      simp only[aq] at he
      obtain⟨rfl,rfl⟩:=he
      exact qY ht hu h1 h2 h3.1 h3.2 hrs r hcs
     ·cases hc
    ·cases hc
   ·cases hc
 | load t x =>
   simp only[cOp] at hc
   split at hc
   ·rename_i g n rx h1 h2
    simp only[aa] at hc
    subst hc
    exact Et h1 r (cE ht h2) he
   ·cases hc
 | store t x y =>
   simp only[cOp] at hc
   split at hc
   ·rename_i n rx ry h1 h2 h3
    simp only[aa] at hc
    subst hc
    exact Cg h1 r (cE ht h2) (cE ht h3) he
   ·cases hc
 | nilCheck x =>
   obtain⟨rx,hx,rfl⟩:=aX hc
   simp only[aF] at he
   obtain⟨he2,rfl⟩:=dA he
   exact Ci ht hx _ rfl r he2
 | binOp op t x y _ =>
   simp only[cOp] at hc
   split at hc
   ·rename_i e rx ry h1 h2 h3
    simp only[aa] at hc
    subst hc
    simp only[aF] at he
    obtain⟨he2,rfl⟩:=dA he
    exact Ig h1 (cE ht h2) (cE ht h3) r he2
   ·cases hc
 | unOp op _ x =>
   obtain⟨rx,hx,rfl⟩:=aX hc
   simp only[aF] at he
   obtain⟨he2,rfl⟩:=dA he
   exact Kz (cE ht hx) r he2
 | convert s d x =>
   simp only[cOp] at hc
   split at hc
   ·rename_i k' k rx h1 h2 h3
    simp only[aa] at hc
    subst hc
    simp only[aF] at he
    obtain⟨he2,rfl⟩:=dA he
    exact Ib h1 h2 (cE ht h3) r he2
   ·rename_i e rx h1 h2 h3
    split at hc
    ·rename_i hm
     have hc:=Option.some.inj hc
     subst hc
     simp only[aF] at he
     obtain⟨he2,rfl⟩:=dA he
     exact ED h1 h2 hm (cE ht h3) r he2
    ·cases hc
   ·rename_i e rx h1 h2 h3
    split at hc
    ·rename_i hm
     have hc:=Option.some.inj hc
     subst hc
     exact EC h1 h2 hm (cE ht h3) r he
    ·cases hc
   ·rename_i e0 e rx h1 h2 h3
    split at hc
    ·rename_i hsd
     subst hsd
     split at hc
     ·rename_i hm
      have hc:=Option.some.inj hc
      subst hc
      simp only[aF] at he
      obtain⟨he2,rfl⟩:=dA he
      exact EB h2 hm (cE ht h3) r he2
     ·cases hc
    ·cases hc
   ·rename_i t0 rx h1 h2 h3
    split at hc
    ·rename_i n hn
     have hc:=Option.some.inj hc
     subst hc
     simp only[aF] at he
     obtain⟨he2,rfl⟩:=dA he
     exact HZ h1 h2 hn (cE ht h3) r he2
    ·cases hc
   ·rename_i t0 rx h1 h2 h3
    split at hc
    ·rename_i n hn
     have hc:=Option.some.inj hc
     subst hc
     simp only[aF] at he
     obtain⟨he2,rfl⟩:=dA he
     exact Ia h1 h2 hn hK (cE ht h3) r he2
    ·cases hc
   ·cases hc
 | makeInterface t x =>
   simp only[cOp] at hc
   split at hc
   ·cases hc
   ·rename_i d rx hni h1 h2
    simp only[aa] at hc
    subst hc
    simp only[aF,aa,aq] at he
    obtain⟨rfl,rfl⟩:=he
    refine Yields.same (v':=.iface t (a.eval x)) r ?_ (by simp only[VR]; exact⟨_,rfl,cE ht h2⟩)
    cases d<;>first|(exact (hni _ rfl).elim)|simp [execOp,Instr.makeInterface,run_underlying h1]
   ·cases hc
 | makeFunc fn first caps =>
   cases fn<;>simp only[cOp,reduceCtorEq] at hc
   rename_i f
   split at hc
   ·rename_i hf
    obtain⟨rs,hrs,rfl⟩:=aX hc
    simp only[aF,aa,aq] at he
    obtain⟨rfl,rfl⟩:=he
    have hf':first=#[]:=by simpa using hf
    subst hf'
    refine Yields.same (v':=.func (.func f) #[] (caps.map a.eval)) r (by simp [execOp,Instr.makeFunc]) ?_
    simp only[VR]
    exact⟨caps.toList.map a.eval,by simp [← Array.toList_map],nU ht hrs⟩
   ·cases hc
 | makeSlice t l c =>
   simp only[cOp] at hc
   split at hc
   ·rename_i e hu
    split at hc
    ·rename_i n b z rl rc h1 h2 h3 h4 h5
     split at hc
     ·rename_i hzl
      simp only[aa] at hc
      subst hc
      exact HQ hu h1 h2 h3 hzl (cE ht h4) (cE ht h5) r he
     ·cases hc
    ·cases hc
   ·cases hc
 | slice t x lo hi mx =>
   simp only[cOp] at hc
   split at hc
   ·rename_i rx rlo rhi h1 h2 h3 h4 h5
    simp only[aa] at hc
    subst hc
    simp only[aF] at he
    obtain⟨he2,rfl⟩:=dA he
    have hmx:mx=none:=by
     cases mx with
     | none=>rfl
     | some y=>simp only[cOo,aD,reduceCtorEq,and_false,exists_false] at h5
    subst hmx
    exact HH ht h1 h3 h4 (cE ht h2) r he2
   ·rename_i e rx rlo rhi rmx h1 h2 h3 h4 h5
    obtain⟨n,hn,rfl⟩:=aX hc
    simp only[aF] at he
    obtain⟨he2,rfl⟩:=dA he
    exact HI ht h1 hn h3 h4 h5 (cE ht h2) r he2
   ·rename_i k e rx rlo rhi rmx h1 h2 h3 h4 h5
    obtain⟨n,hn,rfl⟩:=aX hc
    simp only[aF] at he
    obtain⟨he2,rfl⟩:=dA he
    exact HJ ht h1 hn h3 h4 h5 (cE ht h2) r he2
   ·cases hc
 | fieldAddr t x f =>
   simp only[cOp] at hc
   split at hc
   ·rename_i fs rx h1 h2
    split at hc
    ·rename_i fd hf
     split at hc
     ·rename_i n hn
      simp only[aa] at hc
      subst hc
      simp only[aF] at he
      obtain⟨he2,rfl⟩:=dA he
      exact EA h1 hf hn (cE ht h2) r he2
     ·cases hc
    ·cases hc
   ·cases hc
 | field t x f =>
   simp only[cOp] at hc
   split at hc
   ·rename_i fs rx h1 h2
    split at hc
    ·rename_i fd hf
     obtain⟨⟨g,n⟩,hn,rfl⟩:=aX hc
     simp only[aF] at he
     obtain⟨he2,rfl⟩:=dA he
     exact HV h1 hf hn (cE ht h2) r he2
    ·cases hc
   ·cases hc
 | indexAddr t x i =>
   simp only[cOp] at hc
   split at hc
   ·rename_i e rx ri h1 h2 h3
    obtain⟨n,hn,rfl⟩:=aX hc
    simp only[aF] at he
    obtain⟨he2,rfl⟩:=dA he
    exact Ez h1 hn (cE ht h2) (cE ht h3) r he2
   ·rename_i k e rx ri h1 h2 h3
    obtain⟨n,hn,rfl⟩:=aX hc
    simp only[aF] at he
    obtain⟨he2,rfl⟩:=dA he
    exact Ck h1 hn (cE ht h2) (cE ht h3) r he2
   ·cases hc
 | index t x i =>
   simp only[cOp] at hc
   split at hc
   ·rename_i rx ri h1 h2 h3
    simp only[aa] at hc
    subst hc
    simp only[aF] at he
    obtain⟨he2,rfl⟩:=dA he
    exact Ex h1 (cE ht h2) (cE ht h3) r he2
   ·rename_i k e rx ri h1 h2 h3
    split at hc
    ·rename_i g n hn
     simp only[aa] at hc
     subst hc
     simp only[aF] at he
     obtain⟨he2,rfl⟩:=dA he
     exact Ey h1 hn (cE ht h2) (cE ht h3) r he2
    ·cases hc
   ·cases hc
 | extract x i =>
   obtain⟨rx,hx,rfl⟩:=aX hc
   simp only[aF] at he
   obtain⟨he2,rfl⟩:=dA he
   exact HW (cE ht hx) r he2
 | makeMap t x =>
   cases x with
   | some _=>simp [cOp] at hc
   | none =>
     simp only[cOp] at hc
     split at hc
     ·simp only[aa] at hc
      subst hc
      simp only[aF,aa,aq] at he
      obtain⟨rfl,rfl⟩:=he
      exact Cj r
     ·cases hc
 | lookup t m k ok =>
   simp only[cOp] at hc
   split at hc
   ·rename_i kt e hu
    split at hc
    ·rename_i q z rm rk h1 h2 h3 h4
     simp only[aa] at hc
     subst hc
     simp only[aF] at he
     obtain⟨he2,rfl⟩:=dA he
     exact HO hu h1 h2 (cE ht h3) (cE ht h4) r he2
    ·cases hc
   ·cases hc
 | mapUpdate t m k x =>
   simp only[cOp,DB] at hc
   split at hc
   ·rename_i kt e hu
    split at hc
    ·rename_i q rm rk rx h1 h2 h3 h4
     simp only[aa] at hc
     subst hc
     exact AB hu h1 (cE ht h2) (cE ht h3) (cE ht h4) r he
    ·cases hc
   ·cases hc
 | insert t m k x =>
   simp only[cOp,DB] at hc
   split at hc
   ·rename_i kt e hu
    split at hc
    ·rename_i q rm rk rx h1 h2 h3 h4
     simp only[aa] at hc
     subst hc
     exact AB hu h1 (cE ht h2) (cE ht h3) (cE ht h4) r he
    ·cases hc
   ·cases hc
 | mapEntry t m k =>
   simp only[cOp] at hc
   split at hc
   ·rename_i kt e hu
    split at hc
    ·rename_i q z rm rk h1 h2 h3 h4
     simp only[aa] at hc
     subst hc
     exact HS hu h1 h2 (cE ht h3) (cE ht h4) r he
    ·cases hc
   ·cases hc
 | entryStore t m s x =>
   simp only[cOp] at hc
   split at hc
   ·rename_i rm rs rx h1 h2 h3
    simp only[aa] at hc
    subst hc
    exact HN (cE ht h1) (cE ht h2) (cE ht h3) r he
   ·cases hc
 | range t x =>
   simp only[cOp] at hc
   split at hc
   ·rename_i kt e rx hu h1
    simp only[aa] at hc
    subst hc
    exact HL hu (cE ht h1) r he
   ·cases hc
 | next x s =>
   cases s with
   | true=>simp [cOp] at hc
   | false =>
     simp only[cOp] at hc
     obtain⟨rx,hx,rfl⟩:=aX hc
     simp [aF] at he
 | entry x =>
   simp only[cOp] at hc
   obtain⟨rx,hx,rfl⟩:=aX hc
   simp only[aF] at he
   obtain⟨he2,rfl⟩:=dA he
   exact HY (cE ht hx) r he2
 | call c =>
   obtain⟨callee,args,argTypes⟩:=c
   cases callee with
   | value f =>
     cases f<;>simp only[cOp,reduceCtorEq] at hc
     ·obtain⟨rs,_,rfl⟩:=aX hc
      simp [aF] at he
     ·rename_i f
      split at hc
      ·rename_i q hq
       obtain⟨as⟩:=args
       cases q with
       | none =>
         cases as with
         | nil=>simp [tA] at hc
         | cons x tl =>
           cases tl with
           | cons _ _=>simp [tA] at hc
           | nil =>
             simp only[tA] at hc
             obtain⟨rx,hx,rfl⟩:=aX hc
             simp only[aF,aa,aq] at he
             obtain⟨rfl,rfl⟩:=he
             have hf:∃ fn,P.funcs[f]?=some fn:=by
              unfold ub at hq
              cases hf:P.funcs[f]? with
              | none=>rw[hf] at hq; simp at hq
              | some fn=>exact⟨fn,rfl⟩
             obtain⟨fn,hf⟩:=hf
             obtain⟨o1,o2,o3⟩:=zA hq hf
             obtain⟨e1,e2⟩:=tx o2 o3
             refine Yields.same (v':=a.eval x) r ?_ (cE ht hx)
             have hfe:a.eval (.func f)=.func (.func f) #[] #[]:=rfl
             have hsame:(Extern.AbiNoEscape.same #[a.eval x]).run P w=.ok (a.eval x) w:=rfl
             simp [execOp,resolve,hfe,Deferred.ofValue,invoke,callFunc,hf,o1,o2,e1,e2,hsame]
       | some e =>
         cases as with
         | nil=>simp [tA] at hc
         | cons x tl =>
           cases tl with
           | cons _ _=>simp [tA] at hc
           | nil =>
             simp only[tA] at hc
             obtain⟨rx,hx,rfl⟩:=aX hc
             obtain⟨fn,t,o0,o1,o2,o3,o4,o5,o6⟩:=zz hq
             obtain⟨e1,e2⟩:=qr o2 o3
             simp only[aF] at he
             have hfe:a.eval (.func f)=.func (.func f) #[] #[]:=rfl
             have hrt:fn.resultTypes=#[t]:=by apply Array.ext'; simpa using o4
             have hex:execOp a.eval { o with op:=.call { callee:=.value (.func f),args:=#[x],argTypes:=argTypes}}=(do let d ← resolve a.eval { callee:=.value (.func f),args:=#[x],argTypes:=argTypes} o.type; invoke d.target d.args):=rfl
             refine Yields.congrRun ?_ (HP (ps:=fn.params) o5 (cE (a:=a) ht hx) r rfl he)
             rw[hex]
             simp [resolve,hfe,Deferred.ofValue,invoke,callFunc,o0,o1,o2,e1,e2,hrt,Sem.run_bind]
      ·obtain⟨rs,_,rfl⟩:=aX hc
       simp [aF] at he
   | invoke _ _=>simp [cOp] at hc
   | builtin b =>
     obtain⟨ats⟩:=argTypes
     obtain⟨as⟩:=args
     simp only[cOp] at hc
     split at hc
     ·rename_i x t ts'
      split at hc
      ·rename_i e rx h1 h2
       simp only[aa] at hc
       subst hc
       simp only[aF] at he
       obtain⟨he2,rfl⟩:=dA he
       have key:=Ew (P:=P) (ty:=o.type) (ts:=ts') h1 (cE ht h2) r he2
       simpa [execOp,resolve,invoke,builtin] using key
      ·rename_i rx h1 h2
       simp only[aa] at hc
       subst hc
       simp only[aF] at he
       obtain⟨he2,rfl⟩:=dA he
       have key:=Eu (P:=P) (ty:=o.type) (ts:=ts') h1 (cE ht h2) r he2
       simpa [execOp,resolve,invoke,builtin] using key
      ·rename_i k e rx h1 h2
       simp only[aa] at hc
       subst hc
       simp only[aF] at he
       obtain⟨he2,rfl⟩:=dA he
       have key:=Ev (P:=P) (ty:=o.type) (ts:=ts') h1 (cE ht h2) r he2
       simpa [execOp,resolve,invoke,builtin] using key
      ·cases hc
     ·rename_i x t ts'
      split at hc
      ·rename_i kt e rx h1 h2
       simp only[aa] at hc
       subst hc
       have key:=HT (P:=P) (ty:=o.type) (ts:=ts') h1 (cE ht h2) r he
       simpa [execOp,resolve,invoke,builtin] using key
      ·rename_i e rx h1 h2
       split at hc
       ·rename_i n z g1 g2
        split at hc
        ·rename_i hzl
         simp only[aa] at hc
         subst hc
         have key:=HK (P:=P) (ty:=o.type) (ts:=ts') h1 g1 g2 hzl.1 hzl.2 (cE ht h2) r he
         simpa [execOp,resolve,invoke,builtin] using key
        ·cases hc
       ·cases hc
      ·cases hc
     ·rename_i x t ts'
      split at hc
      ·rename_i e rx h1 h2
       simp only[aa] at hc
       subst hc
       simp only[aF] at he
       obtain⟨he2,rfl⟩:=dA he
       have key:=EE (P:=P) (ty:=o.type) (ts:=ts') h1 (cE ht h2) r he2
       simpa [execOp,resolve,invoke,builtin] using key
      ·cases hc
     ·rename_i d s t ts'
      split at hc
      ·rename_i e rd rs h1 h2 h3
       obtain⟨n,hn,rfl⟩:=aX hc
       have key:=Ic (P:=P) (ty:=o.type) (ts:=ts') h1 hn (cE ht h2) (cE ht h3) r he
       simpa [execOp,resolve,invoke,builtin] using key
      ·cases hc
     ·rename_i x
      obtain⟨rx,hx,rfl⟩:=aX hc
      simp only[aF] at he
      obtain⟨he2,rfl⟩:=dA he
      have key:=Es (P:=P) (ats:=⟨ats⟩) (ty:=o.type) (cE (a:=a) ht hx) r he2
      simpa [execOp,resolve,invoke,builtin] using key
     ·rename_i x n t ts'
      split at hc
      ·rename_i e rx rn h1 h2 h3
       split at hc
       ·rename_i hs
        simp only[aa] at hc
        subst hc
        have key:=Er (P:=P) (ty:=o.type) (tl:=ts') h1 hs (cE ht h2) (cE ht h3) r he
        simpa [execOp,resolve,invoke,builtin] using key
       ·cases hc
      ·cases hc
     ·obtain⟨rs,hrs,rfl⟩:=aX hc
      simp only[aF] at he
      obtain⟨he2,rfl⟩:=dA he
      have:=KB (P:=P) (ats:=⟨ats⟩) (ty:=o.type) (nU (a:=a) ht hrs) r he2
      simpa [execOp,resolve,invoke,builtin] using this
     ·obtain⟨rs,hrs,rfl⟩:=aX hc
      simp only[aF] at he
      obtain⟨he2,rfl⟩:=dA he
      have:=KC (P:=P) (ats:=⟨ats⟩) (ty:=o.type) (nU (a:=a) ht hrs) r he2
      simpa [execOp,resolve,invoke,builtin] using this
     ·rename_i s x t t' tl
      split at hc
      ·rename_i e e' rs rx h1 h2 h3 h4
       have key:=xh (P:=P) (ty:=o.type) (tl:=tl) hK h1 h2 (.inl ⟨_,rfl⟩) hc (cE ht h3) (cE ht h4) r he
       simpa [execOp,resolve,invoke,builtin] using key
      ·rename_i e rs rx h1 h2 h3 h4
       have key:=xh (P:=P) (ty:=o.type) (tl:=tl) hK h1 h2 (.inr rfl) hc (cE ht h3) (cE ht h4) r he
       simpa [execOp,resolve,invoke,builtin] using key
      ·rename_i e k rs rx h1 h2 h3 h4
       split at hc
       ·rename_i n b z g1 g2 g3
        split at hc
        ·rename_i hzl
         simp only[aa] at hc
         subst hc
         have key:=Ih (P:=P) (ty:=o.type) (tl:=tl) h1 h2 g1 g2 g3 hzl.1 hzl.2 (cE ht h3) (cE ht h4) r he
         simpa [execOp,resolve,invoke,builtin] using key
        ·cases hc
       ·cases hc
      ·cases hc
     ·cases hc
 | _=>simp [cOp] at hc
end
end Go.Am
