/- The clean machine step by step, with a stack -/
import Derived.Test.YtcfncejilmimpaaGreatVAmE
set_option linter.all false
namespace Go.Am
def RC.kid:RC->Nat->RC
 |.seq a _,0=>a
 |.seq _ b,1=>b
 |.cond _ a _,0=>a
 |.cond _ _ b,1=>b
 |.block _ c,0=>c
 |.loop c,0=>c
 |.rangeF _ _ _ _ asg _,0=>asg
 |.rangeF _ _ _ _ _ body,1=>body
 |_,_=>.skip
def RC.regOps:RC->List ROper
 |.reg l=>l
 |.regK _ l=>l
 |_=>[]
def eS(P:RP)(f:Nat):List Nat->RC
 |[]=>match P f with
   |some rf=>rf.body
   |none=>.skip
 |i::p=>(eS P f p).kid i
def b2n:Bool->Nat
 |false=>0
 |true=>1
theorem vO:∀(p:List Bool) (c d:RC),c.node p=some d->(p.map b2n).foldl RC.kid c=d
 |[],c,d,h=>by cases c<;>simp_all[RC.node]
 |b::p,c,d,h=>by
   cases c<;>cases b<;>simp only[RC.node,reduceCtorEq]at h<;>exact vO p _ d h
theorem sd(P:RP)(f:Nat):∀(q p:List Nat),eS P f (q.reverse++p)=q.foldl RC.kid (eS P f p)
 |[],p=>rfl
 |i::q,p=>by
   have:=sd P f q (i::p);simp only[gO,cn,List.singleton_append,fH];rw[this];rfl
def way(p:List Bool):List Nat:=(p.map b2n).reverse
theorem BO{P:RP}{f:Nat}{rf:RF}{p:List Bool}{d:RC}(hf:P f=some rf)(hn:rf.body.node p=some d):eS P f (way p)=d:=by
 have:=sd P f (p.map b2n) [];rw[cH]at this;unfold way;rw[this];simp only[eS,hf];exact vO p _ _ hn
inductive Fr where
 |seqK (b:RC) (f:Nat) (p:List Nat)
 |loopK (c:RC) (f:Nat) (p:List Nat)
 |blockK (id:Nat)
 |callK (f:Nat)
 |opsK (b:Nat) (o:ROper) (l:List ROper) (f:Nat) (p:List Nat) (k:Nat) (ts:Tm)
 |rngK (l:Nat) (ts:Tm)
 |asgK (b:Nat) (body:RC) (f:Nat) (p:List Nat)
 |rndK (b:Nat)
inductive Foc where
 |ops (b:Nat) (l:List ROper) (f:Nat) (p:List Nat) (k:Nat) (ts:Tm) (h:AH)
 |code (c:RC) (f:Nat) (p:List Nat) (ts:Tm) (h:AH)
 |call (f:FuncId) (args:List AV) (h:AH)
 |round (b:Nat) (args:List AV) (h:AH)
 |out (o:Out)
structure KS where
 f:Foc
 k:List Fr
def EN(b:Nat)(o:ROper)(l:List ROper)(f:Nat)(p:List Nat)(n:Nat)(ts:Tm)(h:AH)(k:List Fr):Option KS :=
 match wanted ts o.guard with
 |none=>none
 |some false=>some ⟨.ops b l f p (n+1) (dB ts o.dst .un) h,k⟩
 |some true =>
   match o.op with
   |.call g args=>some ⟨.call g (args.map (RO.ev ts)) h,.opsK b o l f p n ts::k⟩
   |.callv x args=>match RO.ev ts x with
     |.fn g caps=>some ⟨.call g (args.map (RO.ev ts)++caps) h,.opsK b o l f p n ts::k⟩
     |.yld c=>some ⟨.round c (args.map (RO.ev ts)) h,.opsK b o l f p n ts::k⟩
     |_=>none
   |_=>match evN b (RO.ev ts) h o with
     |some (v,h')=>if fZ (dB ts o.dst v) h' o.cs=true then some ⟨.ops b l f p (n+1) (dB ts o.dst v) h',k⟩else none
     |none=>none
def wg(c:RC)(f:Nat)(p:List Nat)(ts:Tm)(h:AH)(k:List Fr):Option KS :=
 match c with
 |.skip=>some ⟨.out (.norm ts h),k⟩
 |.reg ops=>some ⟨.ops h.next ops f p 0 ts h,k⟩
 |.regK kn ops=>some ⟨.ops h.next ops f p 0 ts (h.keep kn),k⟩
 |.regD _ _ _=>none
 |.seq a b=>some ⟨.code a f (0::p) ts h,.seqK b f (1::p)::k⟩
 |.cond c a b=>match RO.ev ts c with
   |.bool true=>some ⟨.code a f (0::p) ts h,k⟩
   |.bool false=>some ⟨.code b f (1::p) ts h,k⟩
   |_=>none
 |.block id c=>some ⟨.code c f (0::p) ts h,.blockK id::k⟩
 |.loop c=>some ⟨.code c f (0::p) ts h,.loopK c f (0::p)::k⟩
 |.rangeF fn q x ps _ _=>match RO.ev ts x with
   |.fn g caps=>some ⟨.call g (.yld h.next::caps) (h.new (.lp fn q ts ps .ready none)),.rngK h.next ts::k⟩
   |_=>none
 |.exit id=>some ⟨.out (.exit id ts h),k⟩
 |.ret=>some ⟨.out (.ret ts h),k⟩
 |.bad=>none
def tL(P:RP)(b:Nat)(args:List AV)(h:AH)(k:List Fr):Option KS :=
 match h.get b with
 |some (.lp fn p tl ps .ready none)=>if args.length=ps.length then
   match P fn with
   |some rf=>match rf.body.node p with
     |some (.rangeF fn' p' _ ps' asg body)=>if fn'=fn/\p'=p/\ps'=ps then some ⟨.code asg fn (0::way p) (lQ tl ps args) h,.asgK b body fn (1::way p)::k⟩else none
     |_=>none
   |none=>none
   else none
 |_=>none
def lh(P:RP)(fr:Fr)(o:Out)(k:List Fr):Option KS :=
 match fr with
 |.seqK b f p=>match o with
   |.norm ts h=>some ⟨.code b f p ts h,k⟩
   |.exit i ts h=>some ⟨.out (.exit i ts h),k⟩
   |.ret ts h=>some ⟨.out (.ret ts h),k⟩
   |_=>none
 |.loopK c f p=>match o with
   |.norm ts h=>some ⟨.code c f p ts h,.loopK c f p::k⟩
   |.exit i ts h=>some ⟨.out (.exit i ts h),k⟩
   |.ret ts h=>some ⟨.out (.ret ts h),k⟩
   |_=>none
 |.blockK id=>some ⟨.out (o.unblock id),k⟩
 |.callK f=>match P f with
   |some rf=>match li rf (some o)with
     |some o'=>some ⟨.out o',k⟩
     |none=>none
   |none=>none
 |.opsK b q l f p n ts=>match o with
   |.val v h=>if fZ (dB ts q.dst v) h q.cs=true then some ⟨.ops b l f p (n+1) (dB ts q.dst v) h,k⟩else none
   |_=>none
 |.rngK l ts=>match o with
   |.val _ h=>match jU l ts h with
     |some o'=>some ⟨.out o',k⟩
     |none=>none
   |_=>none
 |.asgK b body f p=>match o with
   |.norm ts1 h1=>match h1.get b with
     |some (.lp fn q tl ps .ready none)=>some ⟨.code body f p ts1 (h1.put b (.lp fn q tl ps .busy none)),.rndK b::k⟩
     |_=>none
   |_=>none
 |.rndK b=>match iH b (some o)with
   |some o'=>some ⟨.out o',k⟩
   |none=>none
def jy(P:RP)(S:KS):Option KS :=
 match S.f with
 |.ops _ [] _ _ _ ts h=>some ⟨.out (.norm ts h),S.k⟩
 |.ops b (o::l) f p n ts h=>EN b o l f p n ts h S.k
 |.code c f p ts h=>wg c f p ts h S.k
 |.call f args h=>match P f with
   |some rf=>some ⟨.code rf.body f [] (bL 0 args) h,.callK f::S.k⟩
   |none=>none
 |.round b args h=>tL P b args h S.k
 |.out o=>match S.k with
   |fr::k=>lh P fr o k
   |[]=>none
def nl(P:RP):Nat->KS->Option KS
 |0,S=>some S
 |n+1,S=>match jy P S with
   |some S'=>nl P n S'
   |none=>none
def qF(P:RP):Fr->Prop
 |.seqK b f p=>b=eS P f p
 |.loopK c f p=>c=eS P f p
 |.opsK _ o l f p n _=>o::l=(eS P f p).regOps.drop n
 |.asgK _ body f p=>body=eS P f p
 |_=>True
def lI(P:RP):Foc->Prop
 |.ops _ l f p n _ _=>l=(eS P f p).regOps.drop n
 |.code c f p _ _=>c=eS P f p
 |_=>True
def okS(P:RP)(S:KS):Prop:=lI P S.f/\∀fr∈S.k,qF P fr
theorem qT{α:Type}{l r:List α}{o:α}{n:Nat}(h:o::l=r.drop n):l=r.drop (n+1):=by
 rw[<-lY,<-h];rfl
theorem zF{P:RP}{S S':KS}(hs:jy P S=some S')(ho:okS P S):okS P S':=by
 obtain⟨f,k⟩:=S;obtain⟨h1,h2⟩:=ho;simp only at h1 h2;have hcons:∀{fr:Fr},qF P fr->∀x∈fr::k,qF P x:=λhf x hx=>by
  rcases aw.1 hx with rfl|hx
  .exact hf
  .exact h2 x hx
 cases f with
 |ops b l f p n ts h =>
   cases l with
   |nil =>
     simp only[jy,aa]at hs;subst hs;exact⟨trivial,h2⟩
   |cons o l =>
     simp only[lI]at h1;have h3:=qT h1;simp only[jy,EN]at hs;split at hs
     .cases hs
     .simp only[aa]at hs;subst hs;exact⟨h3,h2⟩
     .split at hs
      .simp only[aa]at hs;subst hs;exact⟨trivial,hcons h1⟩
      .split at hs
       .simp only[aa]at hs;subst hs;exact⟨trivial,hcons h1⟩
       .simp only[aa]at hs;subst hs;exact⟨trivial,hcons h1⟩
       .cases hs
      .split at hs
       .split at hs
        .simp only[aa]at hs;subst hs;exact⟨h3,h2⟩
        .cases hs
       .cases hs
 |code c f p ts h =>
   simp only[lI]at h1;cases c<;>simp only[jy,wg,reduceCtorEq,aa]at hs
   case skip=>subst hs;exact⟨trivial,h2⟩
   case reg=>subst hs;exact⟨by simp only[lI];rw[<-h1];rfl,h2⟩
   case regK=>subst hs;exact⟨by simp only[lI];rw[<-h1];rfl,h2⟩
   case seq=>subst hs;exact⟨by simp only[lI,eS];rw[<-h1];rfl,hcons (by simp only[qF,eS];rw[<-h1];rfl)⟩
   case cond =>
    split at hs
    .simp only[aa]at hs;subst hs;exact⟨by simp only[lI,eS];rw[<-h1];rfl,h2⟩
    .simp only[aa]at hs;subst hs;exact⟨by simp only[lI,eS];rw[<-h1];rfl,h2⟩
    .cases hs
   case block=>subst hs;exact⟨by simp only[lI,eS];rw[<-h1];rfl,hcons trivial⟩
   case loop=>subst hs;exact⟨by simp only[lI,eS];rw[<-h1];rfl,hcons (by simp only[qF,eS];rw[<-h1];rfl)⟩
   case rangeF =>
    split at hs
    .simp only[aa]at hs;subst hs;exact⟨trivial,hcons trivial⟩
    .cases hs
   case exit=>subst hs;exact⟨trivial,h2⟩
   case ret=>subst hs;exact⟨trivial,h2⟩
 |call f args h =>
   simp only[jy]at hs;split at hs
   .rename_i rf hrf
    simp only[aa]at hs;subst hs;exact⟨by simp only[lI,eS,hrf],hcons trivial⟩
   .cases hs
 |round b args h =>
   simp only[jy,tL]at hs;split at hs
   .split at hs
    .split at hs
     .rename_i hrf
      split at hs
      .rename_i hn
       split at hs
       .simp only[aa]at hs;subst hs;have:=BO hrf hn;exact⟨by simp only[lI,eS];rw[this];rfl,hcons (by simp only[qF,eS];rw[this];rfl)⟩
       .cases hs
      .cases hs
     .cases hs
    .cases hs
   .cases hs
 |out o =>
   cases k with
   |nil=>simp[jy]at hs
   |cons fr k =>
     have hfr:=h2 fr (by simp);have hk:∀x∈k,qF P x:=λx hx=>h2 x (by simp[hx]);simp only[jy]at hs;cases fr with
     |seqK b f p =>
       cases o<;>simp only[lh,reduceCtorEq,aa]at hs<;>subst hs
       .exact⟨hfr,hk⟩
       .exact⟨trivial,hk⟩
       .exact⟨trivial,hk⟩
     |loopK c f p =>
       cases o<;>simp only[lh,reduceCtorEq,aa]at hs<;>subst hs
       .refine⟨hfr,λx hx=>?_⟩;rcases aw.1 hx with rfl|hx
        .exact hfr
        .exact hk x hx
       .exact⟨trivial,hk⟩
       .exact⟨trivial,hk⟩
     |blockK id=>simp only[lh,aa]at hs;subst hs;exact⟨trivial,hk⟩
     |callK f =>
       simp only[lh]at hs;split at hs
       .split at hs
        .simp only[aa]at hs;subst hs;exact⟨trivial,hk⟩
        .cases hs
       .cases hs
     |opsK b q l f p n ts =>
       cases o<;>simp only[lh,reduceCtorEq]at hs;split at hs
       .simp only[aa]at hs;subst hs;exact⟨qT hfr,hk⟩
       .cases hs
     |rngK l ts =>
       cases o<;>simp only[lh,reduceCtorEq]at hs;split at hs
       .simp only[aa]at hs;subst hs;exact⟨trivial,hk⟩
       .cases hs
     |asgK b body f p =>
       cases o<;>simp only[lh,reduceCtorEq]at hs;split at hs
       .simp only[aa]at hs;subst hs;refine⟨hfr,λx hx=>?_⟩;rcases aw.1 hx with rfl|hx
        .trivial
        .exact hk x hx
       .cases hs
     |rndK b =>
       simp only[lh]at hs;split at hs
       .simp only[aa]at hs;subst hs;exact⟨trivial,hk⟩
       .cases hs
theorem tK{P:RP}:∀{n:Nat}{S S':KS},nl P n S=some S'->okS P S->okS P S'
 |0,S,S',hs,ho=>by simp only[nl,aa]at hs;subst hs;exact ho
 |n+1,S,S',hs,ho=>by
   simp only[nl]at hs;split at hs
   .rename_i S1 h1
    exact tK hs (zF h1 ho)
   .cases hs
inductive PFr where
 |seqK (f:Nat) (p:List Nat)
 |loopK (f:Nat) (p:List Nat)
 |blockK (id:Nat)
 |callK (f:Nat)
 |opsK (b:Nat) (f:Nat) (p:List Nat) (k:Nat) (ts:Tm)
 |rngK (l:Nat) (ts:Tm)
 |asgK (b:Nat) (f:Nat) (p:List Nat)
 |rndK (b:Nat)
inductive PFoc where
 |ops (b:Nat) (f:Nat) (p:List Nat) (k:Nat) (ts:Tm) (h:AH)
 |code (f:Nat) (p:List Nat) (ts:Tm) (h:AH)
 |call (f:Nat) (args:List AV) (h:AH)
 |round (b:Nat) (args:List AV) (h:AH)
 |out (o:Out)
structure PS where
 f:PFoc
 k:List PFr
def PFr.load(P:RP):PFr->Fr
 |.seqK f p=>.seqK (eS P f p) f p
 |.loopK f p=>.loopK (eS P f p) f p
 |.blockK i=>.blockK i
 |.callK f=>.callK f
 |.opsK b f p n ts=>match (eS P f p).regOps.drop n with
   |o::l=>.opsK b o l f p n ts
   |[]=>.blockK 0
 |.rngK l ts=>.rngK l ts
 |.asgK b f p=>.asgK b (eS P f p) f p
 |.rndK b=>.rndK b
def PFoc.load(P:RP):PFoc->Foc
 |.ops b f p n ts h=>.ops b ((eS P f p).regOps.drop n) f p n ts h
 |.code f p ts h=>.code (eS P f p) f p ts h
 |.call f a h=>.call f a h
 |.round b a h=>.round b a h
 |.out o=>.out o
def PS.load(P:RP)(S:PS):KS:=⟨S.f.load P,S.k.map (PFr.load P)⟩
theorem PS.load_ok(P:RP)(S:PS):okS P (S.load P):=by
 refine⟨?_,λfr hf=>?_⟩
 .simp only[PS.load];cases S.f<;>simp[PFoc.load,lI]
 .simp only[PS.load,bh]at hf;obtain⟨x,_,rfl⟩:=hf;cases x with
  |opsK b f p n ts =>
    simp only[PFr.load];cases h:(eS P f p).regOps.drop n with
    |nil=>trivial
    |cons o l=>exact h.symm
  |_=>simp only[PFr.load,qF]
def Fr.bare:Fr->PFr
 |.seqK _ f p=>.seqK f p
 |.loopK _ f p=>.loopK f p
 |.blockK i=>.blockK i
 |.callK f=>.callK f
 |.opsK b _ _ f p n ts=>.opsK b f p n ts
 |.rngK l ts=>.rngK l ts
 |.asgK b _ f p=>.asgK b f p
 |.rndK b=>.rndK b
theorem Fr.load_bare{P:RP}:∀{fr:Fr},qF P fr->fr.bare.load P=fr
 |.seqK _ _ _,h=>by simp only[qF]at h;subst h;rfl
 |.loopK _ _ _,h=>by simp only[qF]at h;subst h;rfl
 |.blockK _,_=>rfl
 |.callK _,_=>rfl
 |.opsK b o l f p n ts,h=>by
   simp only[qF]at h;simp only[Fr.bare,PFr.load,<-h]
 |.rngK _ _,_=>rfl
 |.asgK _ _ _ _,h=>by simp only[qF]at h;subst h;rfl
 |.rndK _,_=>rfl
def nH{α:Type}(s:α->α->Bool):T α->T α->Bool
 |.nil,.nil=>true
 |.node l v r,.node l' v' r'=>(match v,v' with
   |none,none=>true
   |some a,some b=>s a b
   |_,_=>false)&&nH s l l'&&nH s r r'
 |_,_=>false
theorem kU{α:Type}{s:α->α->Bool}(hs:∀a b,s a b=true->a=b):∀(x y:T α),nH s x y=true->x=y
 |.nil,.nil,_=>rfl
 |.node l v r,.node l' v' r',h=>by
   simp only[nH,aK]at h;have e1:=kU hs l l' h.1.2;have e2:=kU hs r r' h.2;have e3:v=v':=by
    have:=h.1.1;cases v<;>cases v'<;>simp only[bu]at this
    .rfl
    .rw[hs _ _ this]
   rw[e1,e2,e3]
 |.nil,.node _ _ _,h=>by simp[nH]at h
 |.node _ _ _,.nil,h=>by simp[nH]at h
def qA:List (AV×AV×Nat)->List (AV×AV×Nat)->Bool
 |[],[]=>true
 |(a,b,n)::r,(a',b',n')::r'=>AV.same a a'&&AV.same b b'&&n==n'&&qA r r'
 |_,_=>false
theorem vD:∀(x y:List (AV×AV×Nat)),qA x y=true->x=y
 |[],[],_=>rfl
 |(a,b,n)::r,(a',b',n')::r',h=>by
   simp only[qA,aK,beq_iff_eq]at h;rw[AV.same_eq _ _ h.1.1.1,AV.same_eq _ _ h.1.1.2,h.1.2,vD r r' h.2]
 |[],_::_,h=>by simp[qA]at h
 |_::_,[],h=>by simp[qA]at h
def GM:AO->AO->Bool
 |.cells a e r,.cells a' e' r'=>AV.sames a a'&&e==e'&&r==r'
 |.dead,.dead=>true
 |.resv,.resv=>true
 |.mapo es c,.mapo es' c'=>qA es es'&&c==c'
 |.sit s p,.sit s' p'=>s==s'&&p==p'
 |.mit m s l n,.mit m' s' l' n'=>m==m'&&s==s'&&l==l'&&n==n'
 |.lp f p ts ps st pd,.lp f' p' ts' ps' st' pd'=>f==f'&&p==p'&&nH AV.same ts ts'&&ps==ps'&&st==st'&&pd==pd'
 |_,_=>false
theorem GK(x y:AO)(h:GM x y=true):x=y:=by
 cases x<;>cases y<;>simp only[GM,bu,aK,beq_iff_eq]at h
 case cells=>rw[AV.sames_eq _ _ h.1.1,h.1.2,h.2]
 case dead=>rfl
 case resv=>rfl
 case mapo=>rw[vD _ _ h.1,h.2]
 case sit=>rw[h.1,h.2]
 case mit=>rw[h.1.1.1,h.1.1.2,h.1.2,h.2]
 case lp=>rw[h.1.1.1.1.1,h.1.1.1.1.2,kU AV.same_eq _ _ h.1.1.1.2,h.1.1.2,h.1.2,h.2]
def GN(x y:AH):Bool:=x.next==y.next&&nH GM x.t y.t&&nH (·==·) x.ty y.ty
theorem yR(x y:AH)(h:GN x y=true):x=y:=by
 obtain⟨a,b,c⟩:=x;obtain⟨a',b',c'⟩:=y;simp only[GN,aK,beq_iff_eq]at h;have h1:=h.1.1;have h2:=kU GK _ _ h.1.2;have h3:=kU (s:=λ(a b:Nat)=>a==b) (λa b q=>by simpa using q) _ _ h.2;rw[h1,h2,h3]
def AS:PFr->PFr->Bool
 |.seqK f p,.seqK f' p'=>f==f'&&p==p'
 |.loopK f p,.loopK f' p'=>f==f'&&p==p'
 |.blockK i,.blockK j=>i==j
 |.callK f,.callK g=>f==g
 |.opsK b f p k ts,.opsK b' f' p' k' ts'=>b==b'&&f==f'&&p==p'&&k==k'&&nH AV.same ts ts'
 |.rngK l ts,.rngK l' ts'=>l==l'&&nH AV.same ts ts'
 |.asgK b f p,.asgK b' f' p'=>b==b'&&f==f'&&p==p'
 |.rndK b,.rndK b'=>b==b'
 |_,_=>false
theorem Ei(x y:PFr)(h:AS x y=true):x=y:=by
 cases x<;>cases y<;>simp only[AS,bu,aK,beq_iff_eq]at h
 case seqK=>rw[h.1,h.2]
 case loopK=>rw[h.1,h.2]
 case blockK=>rw[h]
 case callK=>rw[h]
 case opsK=>rw[h.1.1.1.1,h.1.1.1.2,h.1.1.2,h.1.2,kU AV.same_eq _ _ h.2]
 case rngK=>rw[h.1,kU AV.same_eq _ _ h.2]
 case asgK=>rw[h.1.1,h.1.2,h.2]
 case rndK=>rw[h]
def lG:List PFr->List PFr->Bool
 |[],[]=>true
 |a::r,b::r'=>AS a b&&lG r r'
 |_,_=>false
theorem th:∀(x y:List PFr),lG x y=true->x=y
 |[],[],_=>rfl
 |a::r,b::r',h=>by
   simp only[lG,aK]at h;rw[Ei _ _ h.1,th r r' h.2]
 |[],_::_,h=>by simp[lG]at h
 |_::_,[],h=>by simp[lG]at h
def HQ(P:RP)(n:Nat)(a:PS):Bool :=
 match nl P n (a.load P)with
 |some S=>match S.f,S.k with
   |.out (.val (.bool true) _),[]=>true
   |_,_=>false
 |none=>false
def JE{α:Type}(t:T α):List (Nat×α)->T α
 |[]=>t
 |x::r=>JE (t.set (fW x.1) x.2) r
def iv(n:Int):AV:=.int .i64 n
def oY(h:AH)(n:Nat)(l:List (Nat×AO))(ty:List (Nat×Nat)):AH:={ next:=n,t:=JE h.t l,ty:=JE h.ty ty}
def qx:List (Nat×AV)->Tm:=JE .nil
end Go.Am
