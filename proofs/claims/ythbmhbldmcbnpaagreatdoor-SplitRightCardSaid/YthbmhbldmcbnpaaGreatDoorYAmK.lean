/- The clean machine step by step, with a stack -/
import Derived.Test.YthbmhbldmcbnpaaGreatDoorYAmE
set_option linter.all false
namespace Go.Am
def RC.kid:RC→Nat→RC
 | .seq a _,0=>a
 | .seq _ b,1=>b
 | .cond _ a _,0=>a
 | .cond _ _ b,1=>b
 | .block _ c,0=>c
 | .loop c,0=>c
 | .rangeF _ _ _ _ asg _,0=>asg
 | .rangeF _ _ _ _ _ body,1=>body
 | _,_=>.skip
def RC.regOps:RC→List ROper
 | .reg l=>l
 | .regK _ l=>l
 | _=>[]
def dS (P:RP) (f:Nat):List Nat→RC
 | []=>match P f with
   | some rf=>rf.body
   | none=>.skip
 | i::p=>(dS P f p).kid i
def b2n:Bool→Nat
 | false=>0
 | true=>1
theorem tZ:∀ (p:List Bool) (c d:RC),c.node p=some d→(p.map b2n).foldl RC.kid c=d
 | [],c,d,h=>by cases c<;>simp_all [RC.node]
 | b::p,c,d,h=>by
   cases c<;>cases b<;>simp only[RC.node,reduceCtorEq] at h<;>exact tZ p _ d h
theorem qr (P:RP) (f:Nat):∀ (q p:List Nat),dS P f (q.reverse++p)=q.foldl RC.kid (dS P f p)
 | [],p=>rfl
 | i::q,p=>by
   have:=qr P f q (i::p)
   simp only[List.reverse_cons,cr,List.singleton_append,dB]
   rw[this]
   rfl
def way (p:List Bool):List Nat:=(p.map b2n).reverse
theorem zJ {P:RP}{f:Nat}{rf:RF}{p:List Bool}{d:RC} (hf:P f=some rf) (hn:rf.body.node p=some d):dS P f (way p)=d:=by
 have:=qr P f (p.map b2n) []
 rw[bZ] at this
 unfold way
 rw[this]
 simp only[dS,hf]
 exact tZ p _ _ hn
inductive Fr where
 | seqK (b:RC) (f:Nat) (p:List Nat)
 | loopK (c:RC) (f:Nat) (p:List Nat)
 | blockK (id:Nat)
 | callK (f:Nat)
 | opsK (b:Nat) (o:ROper) (l:List ROper) (f:Nat) (p:List Nat) (k:Nat) (ts:Tm)
 | rngK (l:Nat) (ts:Tm)
 | asgK (b:Nat) (body:RC) (f:Nat) (p:List Nat)
 | rndK (b:Nat)
inductive Foc where
 | ops (b:Nat) (l:List ROper) (f:Nat) (p:List Nat) (k:Nat) (ts:Tm) (h:AH)
 | code (c:RC) (f:Nat) (p:List Nat) (ts:Tm) (h:AH)
 | call (f:FuncId) (args:List AV) (h:AH)
 | round (b:Nat) (args:List AV) (h:AH)
 | out (o:Out)
structure KS where
 f:Foc
 k:List Fr
def CD (b:Nat) (o:ROper) (l:List ROper) (f:Nat) (p:List Nat) (n:Nat) (ts:Tm) (h:AH) (k:List Fr):Option KS :=
 match wanted ts o.guard with
 | none=>none
 | some false=>some ⟨.ops b l f p (n+1) (cD ts o.dst .un) h,k⟩
 | some true =>
   match o.op with
   | .call g args=>some ⟨.call g (args.map (RO.ev ts)) h,.opsK b o l f p n ts::k⟩
   | .callv x args=>match RO.ev ts x with
     | .fn g caps=>some ⟨.call g (args.map (RO.ev ts)++caps) h,.opsK b o l f p n ts::k⟩
     | .yld c=>some ⟨.round c (args.map (RO.ev ts)) h,.opsK b o l f p n ts::k⟩
     | _=>none
   | _=>match evN b (RO.ev ts) h o with
     | some (v,h')=>if eW (cD ts o.dst v) h' o.cs=true then some ⟨.ops b l f p (n+1) (cD ts o.dst v) h',k⟩ else none
     | none=>none
def ul (c:RC) (f:Nat) (p:List Nat) (ts:Tm) (h:AH) (k:List Fr):Option KS :=
 match c with
 | .skip=>some ⟨.out (.norm ts h),k⟩
 | .reg ops=>some ⟨.ops h.next ops f p 0 ts h,k⟩
 | .regK kn ops=>some ⟨.ops h.next ops f p 0 ts (h.keep kn),k⟩
 | .regD _ _ _=>none
 | .seq a b=>some ⟨.code a f (0::p) ts h,.seqK b f (1::p)::k⟩
 | .cond c a b=>match RO.ev ts c with
   | .bool true=>some ⟨.code a f (0::p) ts h,k⟩
   | .bool false=>some ⟨.code b f (1::p) ts h,k⟩
   | _=>none
 | .block id c=>some ⟨.code c f (0::p) ts h,.blockK id::k⟩
 | .loop c=>some ⟨.code c f (0::p) ts h,.loopK c f (0::p)::k⟩
 | .rangeF fn q x ps _ _=>match RO.ev ts x with
   | .fn g caps=>some ⟨.call g (.yld h.next::caps) (h.new (.lp fn q ts ps .ready none)),.rngK h.next ts::k⟩
   | _=>none
 | .exit id=>some ⟨.out (.exit id ts h),k⟩
 | .ret=>some ⟨.out (.ret ts h),k⟩
 | .bad=>none
def sd (P:RP) (b:Nat) (args:List AV) (h:AH) (k:List Fr):Option KS :=
 match h.get b with
 | some (.lp fn p tl ps .ready none)=>if args.length=ps.length then
   match P fn with
   | some rf=>match rf.body.node p with
     | some (.rangeF fn' p' _ ps' asg body)=>if fn'=fn∧p'=p∧ps'=ps then some ⟨.code asg fn (0::way p) (jp tl ps args) h,.asgK b body fn (1::way p)::k⟩ else none
     | _=>none
   | none=>none
   else none
 | _=>none
def jv (P:RP) (fr:Fr) (o:Out) (k:List Fr):Option KS :=
 match fr with
 | .seqK b f p=>match o with
   | .norm ts h=>some ⟨.code b f p ts h,k⟩
   | .exit i ts h=>some ⟨.out (.exit i ts h),k⟩
   | .ret ts h=>some ⟨.out (.ret ts h),k⟩
   | _=>none
 | .loopK c f p=>match o with
   | .norm ts h=>some ⟨.code c f p ts h,.loopK c f p::k⟩
   | .exit i ts h=>some ⟨.out (.exit i ts h),k⟩
   | .ret ts h=>some ⟨.out (.ret ts h),k⟩
   | _=>none
 | .blockK id=>some ⟨.out (o.unblock id),k⟩
 | .callK f=>match P f with
   | some rf=>match jw rf (some o) with
     | some o'=>some ⟨.out o',k⟩
     | none=>none
   | none=>none
 | .opsK b q l f p n ts=>match o with
   | .val v h=>if eW (cD ts q.dst v) h q.cs=true then some ⟨.ops b l f p (n+1) (cD ts q.dst v) h,k⟩ else none
   | _=>none
 | .rngK l ts=>match o with
   | .val _ h=>match iw l ts h with
     | some o'=>some ⟨.out o',k⟩
     | none=>none
   | _=>none
 | .asgK b body f p=>match o with
   | .norm ts1 h1=>match h1.get b with
     | some (.lp fn q tl ps .ready none)=>some ⟨.code body f p ts1 (h1.put b (.lp fn q tl ps .busy none)),.rndK b::k⟩
     | _=>none
   | _=>none
 | .rndK b=>match fV b (some o) with
   | some o'=>some ⟨.out o',k⟩
   | none=>none
def gU (P:RP) (S:KS):Option KS :=
 match S.f with
 | .ops _ [] _ _ _ ts h=>some ⟨.out (.norm ts h),S.k⟩
 | .ops b (o::l) f p n ts h=>CD b o l f p n ts h S.k
 | .code c f p ts h=>ul c f p ts h S.k
 | .call f args h=>match P f with
   | some rf=>some ⟨.code rf.body f [] (bI 0 args) h,.callK f::S.k⟩
   | none=>none
 | .round b args h=>sd P b args h S.k
 | .out o=>match S.k with
   | fr::k=>jv P fr o k
   | []=>none
def mw (P:RP):Nat→KS→Option KS
 | 0,S=>some S
 | n+1,S=>match gU P S with
   | some S'=>mw P n S'
   | none=>none
def pf (P:RP):Fr→Prop
 | .seqK b f p=>b=dS P f p
 | .loopK c f p=>c=dS P f p
 | .opsK _ o l f p n _=>o::l=(dS P f p).regOps.drop n
 | .asgK _ body f p=>body=dS P f p
 | _=>True
def jS (P:RP):Foc→Prop
 | .ops _ l f p n _ _=>l=(dS P f p).regOps.drop n
 | .code c f p _ _=>c=dS P f p
 | _=>True
def okS (P:RP) (S:KS):Prop:=jS P S.f∧∀ fr∈S.k,pf P fr
theorem pE {α:Type}{l r:List α}{o:α}{n:Nat} (h:o::l=r.drop n):l=r.drop (n+1):=by
 rw[← ky,← h]
 rfl
theorem xK {P:RP}{S S':KS} (hs:gU P S=some S') (ho:okS P S):okS P S':=by
 obtain⟨f,k⟩:=S
 obtain⟨h1,h2⟩:=ho
 simp only at h1 h2
 have hcons:∀ {fr:Fr},pf P fr→∀ x∈fr::k,pf P x:=λhf x hx=>by
  rcases aA.1 hx with rfl|hx
  ·exact hf
  ·exact h2 x hx
 cases f with
 | ops b l f p n ts h =>
   cases l with
   | nil =>
     simp only[gU,aa] at hs
     subst hs
     exact⟨trivial,h2⟩
   | cons o l =>
     simp only[jS] at h1
     have h3:=pE h1
     simp only[gU,CD] at hs
     split at hs
     ·cases hs
     ·simp only[aa] at hs; subst hs; exact⟨h3,h2⟩
     ·split at hs
      ·simp only[aa] at hs; subst hs; exact⟨trivial,hcons h1⟩
      ·split at hs
       ·simp only[aa] at hs; subst hs; exact⟨trivial,hcons h1⟩
       ·simp only[aa] at hs; subst hs; exact⟨trivial,hcons h1⟩
       ·cases hs
      ·split at hs
       ·split at hs
        ·simp only[aa] at hs; subst hs; exact⟨h3,h2⟩
        ·cases hs
       ·cases hs
 | code c f p ts h =>
   simp only[jS] at h1
   cases c<;>simp only[gU,ul,reduceCtorEq,aa] at hs
   case skip=>subst hs; exact⟨trivial,h2⟩
   case reg=>subst hs; exact⟨by simp only[jS]; rw[← h1]; rfl,h2⟩
   case regK=>subst hs; exact⟨by simp only[jS]; rw[← h1]; rfl,h2⟩
   case seq=>subst hs; exact⟨by simp only[jS,dS]; rw[← h1]; rfl,hcons (by simp only[pf,dS]; rw[← h1]; rfl)⟩
   case cond =>
    split at hs
    ·simp only[aa] at hs; subst hs; exact⟨by simp only[jS,dS]; rw[← h1]; rfl,h2⟩
    ·simp only[aa] at hs; subst hs; exact⟨by simp only[jS,dS]; rw[← h1]; rfl,h2⟩
    ·cases hs
   case block=>subst hs; exact⟨by simp only[jS,dS]; rw[← h1]; rfl,hcons trivial⟩
   case loop=>subst hs; exact⟨by simp only[jS,dS]; rw[← h1]; rfl,hcons (by simp only[pf,dS]; rw[← h1]; rfl)⟩
   case rangeF =>
    split at hs
    ·simp only[aa] at hs; subst hs; exact⟨trivial,hcons trivial⟩
    ·cases hs
   case exit=>subst hs; exact⟨trivial,h2⟩
   case ret=>subst hs; exact⟨trivial,h2⟩
 | call f args h =>
   simp only[gU] at hs
   split at hs
   ·rename_i rf hrf
    simp only[aa] at hs
    subst hs
    exact⟨by simp only[jS,dS,hrf],hcons trivial⟩
   ·cases hs
 | round b args h =>
   simp only[gU,sd] at hs
   split at hs
   ·split at hs
    ·split at hs
     ·rename_i hrf
      split at hs
      ·rename_i hn
       split at hs
       ·simp only[aa] at hs
        subst hs
        have:=zJ hrf hn
        exact⟨by simp only[jS,dS]; rw[this]; rfl,hcons (by simp only[pf,dS]; rw[this]; rfl)⟩
       ·cases hs
      ·cases hs
     ·cases hs
    ·cases hs
   ·cases hs
 | out o =>
   cases k with
   | nil=>simp [gU] at hs
   | cons fr k =>
     have hfr:=h2 fr (by simp)
     have hk:∀ x∈k,pf P x:=λx hx=>h2 x (by simp [hx])
     simp only[gU] at hs
     cases fr with
     | seqK b f p =>
       cases o<;>simp only[jv,reduceCtorEq,aa] at hs<;>subst hs
       ·exact⟨hfr,hk⟩
       ·exact⟨trivial,hk⟩
       ·exact⟨trivial,hk⟩
     | loopK c f p =>
       cases o<;>simp only[jv,reduceCtorEq,aa] at hs<;>subst hs
       ·refine⟨hfr,λx hx=>?_⟩
        rcases aA.1 hx with rfl|hx
        ·exact hfr
        ·exact hk x hx
       ·exact⟨trivial,hk⟩
       ·exact⟨trivial,hk⟩
     | blockK id=>simp only[jv,aa] at hs; subst hs; exact⟨trivial,hk⟩
     | callK f =>
       simp only[jv] at hs
       split at hs
       ·split at hs
        ·simp only[aa] at hs; subst hs; exact⟨trivial,hk⟩
        ·cases hs
       ·cases hs
     | opsK b q l f p n ts =>
       cases o<;>simp only[jv,reduceCtorEq] at hs
       split at hs
       ·simp only[aa] at hs
        subst hs
        exact⟨pE hfr,hk⟩
       ·cases hs
     | rngK l ts =>
       cases o<;>simp only[jv,reduceCtorEq] at hs
       split at hs
       ·simp only[aa] at hs; subst hs; exact⟨trivial,hk⟩
       ·cases hs
     | asgK b body f p =>
       cases o<;>simp only[jv,reduceCtorEq] at hs
       split at hs
       ·simp only[aa] at hs
        subst hs
        refine⟨hfr,λx hx=>?_⟩
        rcases aA.1 hx with rfl|hx
        ·trivial
        ·exact hk x hx
       ·cases hs
     | rndK b =>
       simp only[jv] at hs
       split at hs
       ·simp only[aa] at hs; subst hs; exact⟨trivial,hk⟩
       ·cases hs
theorem xL {P:RP}:∀ {n:Nat}{S S':KS},mw P n S=some S'→okS P S→okS P S'
 | 0,S,S',hs,ho=>by simp only[mw,aa] at hs; subst hs; exact ho
 | n+1,S,S',hs,ho=>by
   simp only[mw] at hs
   split at hs
   ·rename_i S1 h1
    exact xL hs (xK h1 ho)
   ·cases hs
inductive PFr where
 | seqK (f:Nat) (p:List Nat)
 | loopK (f:Nat) (p:List Nat)
 | blockK (id:Nat)
 | callK (f:Nat)
 | opsK (b:Nat) (f:Nat) (p:List Nat) (k:Nat) (ts:Tm)
 | rngK (l:Nat) (ts:Tm)
 | asgK (b:Nat) (f:Nat) (p:List Nat)
 | rndK (b:Nat)
inductive PFoc where
 | ops (b:Nat) (f:Nat) (p:List Nat) (k:Nat) (ts:Tm) (h:AH)
 | code (f:Nat) (p:List Nat) (ts:Tm) (h:AH)
 | call (f:Nat) (args:List AV) (h:AH)
 | round (b:Nat) (args:List AV) (h:AH)
 | out (o:Out)
structure PS where
 f:PFoc
 k:List PFr
def PFr.load (P:RP):PFr→Fr
 | .seqK f p=>.seqK (dS P f p) f p
 | .loopK f p=>.loopK (dS P f p) f p
 | .blockK i=>.blockK i
 | .callK f=>.callK f
 | .opsK b f p n ts=>match (dS P f p).regOps.drop n with
   | o::l=>.opsK b o l f p n ts
   | []=>.blockK 0
 | .rngK l ts=>.rngK l ts
 | .asgK b f p=>.asgK b (dS P f p) f p
 | .rndK b=>.rndK b
def PFoc.load (P:RP):PFoc→Foc
 | .ops b f p n ts h=>.ops b ((dS P f p).regOps.drop n) f p n ts h
 | .code f p ts h=>.code (dS P f p) f p ts h
 | .call f a h=>.call f a h
 | .round b a h=>.round b a h
 | .out o=>.out o
def PS.load (P:RP) (S:PS):KS:=⟨S.f.load P,S.k.map (PFr.load P)⟩
theorem PS.load_ok (P:RP) (S:PS):okS P (S.load P):=by
 refine⟨?_,λfr hf=>?_⟩
 ·simp only[PS.load]
  cases S.f<;>simp [PFoc.load,jS]
 ·simp only[PS.load,bi] at hf
  obtain⟨x,_,rfl⟩:=hf
  cases x with
  | opsK b f p n ts =>
    simp only[PFr.load]
    cases h:(dS P f p).regOps.drop n with
    | nil=>trivial
    | cons o l=>exact h.symm
  | _=>simp only[PFr.load,pf]
def Fr.bare:Fr→PFr
 | .seqK _ f p=>.seqK f p
 | .loopK _ f p=>.loopK f p
 | .blockK i=>.blockK i
 | .callK f=>.callK f
 | .opsK b _ _ f p n ts=>.opsK b f p n ts
 | .rngK l ts=>.rngK l ts
 | .asgK b _ f p=>.asgK b f p
 | .rndK b=>.rndK b
theorem Fr.load_bare {P:RP}:∀ {fr:Fr},pf P fr→fr.bare.load P=fr
 | .seqK _ _ _,h=>by simp only[pf] at h; subst h; rfl
 | .loopK _ _ _,h=>by simp only[pf] at h; subst h; rfl
 | .blockK _,_=>rfl
 | .callK _,_=>rfl
 | .opsK b o l f p n ts,h=>by
   simp only[pf] at h
   simp only[Fr.bare,PFr.load,← h]
 | .rngK _ _,_=>rfl
 | .asgK _ _ _ _,h=>by simp only[pf] at h; subst h; rfl
 | .rndK _,_=>rfl
def ma {α:Type} (s:α→α→Bool):T α→T α→Bool
 | .nil,.nil=>true
 | .node l v r,.node l' v' r'=>(match v,v' with
   | none,none=>true
   | some a,some b=>s a b
   | _,_=>false)&&ma s l l'&&ma s r r'
 | _,_=>false
theorem jq {α:Type}{s:α→α→Bool} (hs:∀ a b,s a b=true→a=b):∀ (x y:T α),ma s x y=true→x=y
 | .nil,.nil,_=>rfl
 | .node l v r,.node l' v' r',h=>by
   simp only[ma,aH] at h
   have e1:=jq hs l l' h.1.2
   have e2:=jq hs r r' h.2
   have e3:v=v':=by
    have:=h.1.1
    cases v<;>cases v'<;>simp only[bj] at this
    ·rfl
    ·rw[hs _ _ this]
   rw[e1,e2,e3]
 | .nil,.node _ _ _,h=>by simp [ma] at h
 | .node _ _ _,.nil,h=>by simp [ma] at h
def oY:List (AV×AV×Nat)→List (AV×AV×Nat)→Bool
 | [],[]=>true
 | (a,b,n)::r,(a',b',n')::r'=>AV.same a a'&&AV.same b b'&&n==n'&&oY r r'
 | _,_=>false
theorem tN:∀ (x y:List (AV×AV×Nat)),oY x y=true→x=y
 | [],[],_=>rfl
 | (a,b,n)::r,(a',b',n')::r',h=>by
   simp only[oY,aH,beq_iff_eq] at h
   rw[AV.same_eq _ _ h.1.1.1,AV.same_eq _ _ h.1.1.2,h.1.2,tN r r' h.2]
 | [],_::_,h=>by simp [oY] at h
 | _::_,[],h=>by simp [oY] at h
def EG:AO→AO→Bool
 | .cells a e r,.cells a' e' r'=>AV.sames a a'&&e==e'&&r==r'
 | .dead,.dead=>true
 | .resv,.resv=>true
 | .mapo es c,.mapo es' c'=>oY es es'&&c==c'
 | .sit s p,.sit s' p'=>s==s'&&p==p'
 | .mit m s l n,.mit m' s' l' n'=>m==m'&&s==s'&&l==l'&&n==n'
 | .lp f p ts ps st pd,.lp f' p' ts' ps' st' pd'=>f==f'&&p==p'&&ma AV.same ts ts'&&ps==ps'&&st==st'&&pd==pd'
 | _,_=>false
theorem EF (x y:AO) (h:EG x y=true):x=y:=by
 cases x<;>cases y<;>simp only[EG,bj,aH,beq_iff_eq] at h
 case cells=>rw[AV.sames_eq _ _ h.1.1,h.1.2,h.2]
 case dead=>rfl
 case resv=>rfl
 case mapo=>rw[tN _ _ h.1,h.2]
 case sit=>rw[h.1,h.2]
 case mit=>rw[h.1.1.1,h.1.1.2,h.1.2,h.2]
 case lp=>rw[h.1.1.1.1.1,h.1.1.1.1.2,jq AV.same_eq _ _ h.1.1.1.2,h.1.1.2,h.1.2,h.2]
def EH (x y:AH):Bool:=x.next==y.next&&ma EG x.t y.t&&ma (·==·) x.ty y.ty
theorem wU (x y:AH) (h:EH x y=true):x=y:=by
 obtain⟨a,b,c⟩:=x
 obtain⟨a',b',c'⟩:=y
 simp only[EH,aH,beq_iff_eq] at h
 have h1:=h.1.1
 have h2:=jq EF _ _ h.1.2
 have h3:=jq (s:=λ(a b:Nat)=>a==b) (λa b q=>by simpa using q) _ _ h.2
 rw[h1,h2,h3]
def yX:PFr→PFr→Bool
 | .seqK f p,.seqK f' p'=>f==f'&&p==p'
 | .loopK f p,.loopK f' p'=>f==f'&&p==p'
 | .blockK i,.blockK j=>i==j
 | .callK f,.callK g=>f==g
 | .opsK b f p k ts,.opsK b' f' p' k' ts'=>b==b'&&f==f'&&p==p'&&k==k'&&ma AV.same ts ts'
 | .rngK l ts,.rngK l' ts'=>l==l'&&ma AV.same ts ts'
 | .asgK b f p,.asgK b' f' p'=>b==b'&&f==f'&&p==p'
 | .rndK b,.rndK b'=>b==b'
 | _,_=>false
theorem BV (x y:PFr) (h:yX x y=true):x=y:=by
 cases x<;>cases y<;>simp only[yX,bj,aH,beq_iff_eq] at h
 case seqK=>rw[h.1,h.2]
 case loopK=>rw[h.1,h.2]
 case blockK=>rw[h]
 case callK=>rw[h]
 case opsK=>rw[h.1.1.1.1,h.1.1.1.2,h.1.1.2,h.1.2,jq AV.same_eq _ _ h.2]
 case rngK=>rw[h.1,jq AV.same_eq _ _ h.2]
 case asgK=>rw[h.1.1,h.1.2,h.2]
 case rndK=>rw[h]
def jQ:List PFr→List PFr→Bool
 | [],[]=>true
 | a::r,b::r'=>yX a b&&jQ r r'
 | _,_=>false
theorem rg:∀ (x y:List PFr),jQ x y=true→x=y
 | [],[],_=>rfl
 | a::r,b::r',h=>by
   simp only[jQ,aH] at h
   rw[BV _ _ h.1,rg r r' h.2]
 | [],_::_,h=>by simp [jQ] at h
 | _::_,[],h=>by simp [jQ] at h
def Fv (P:RP) (n:Nat) (a:PS):Bool :=
 match mw P n (a.load P) with
 | some S=>match S.f,S.k with
   | .out (.val (.bool true) _),[]=>true
   | _,_=>false
 | none=>false
def GV {α:Type} (t:T α):List (Nat×α)→T α
 | []=>t
 | x::r=>GV (t.set (eY x.1) x.2) r
def iv (n:Int):AV:=.int .i64 n
def ew (h:AH) (n:Nat) (l:List (Nat×AO)) (ty:List (Nat×Nat)):AH:={ next:=n,t:=GV h.t l,ty:=GV h.ty ty}
def dw:List (Nat×AV)→Tm:=GV .nil
end Go.Am
