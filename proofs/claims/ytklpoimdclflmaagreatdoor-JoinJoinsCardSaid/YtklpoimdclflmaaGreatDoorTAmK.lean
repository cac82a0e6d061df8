/- The clean machine step by step, with a stack -/
import Derived.Test.YtklpoimdclflmaaGreatDoorTAmE
set_option linter.all false
namespace Go.Am
def RC.kid:RC->Nat->RC
 |.seq a _,0=>a
 |.seq _ b,1=>b
 |.cond _ a _,0=>a
 |.cond _ _ b,1=>b
 |.block _ c,0=>c
 |.loop c,0=>c
 |.rangeF _ _ _ _ asg _,0=>asg
 |.rangeF _ _ _ _ _ body,1=>body
 |_,_=>.skip
def RC.regOps:RC->List ROper
 |.reg l=>l
 |.regK _ l=>l
 |_=>[]
def qJ(P:RP)(f:Nat):List Nat->RC
 |[]=>match P f with
   |some rf=>rf.body
   |none=>.skip
 |i::p=>(qJ P f p).kid i
def b2n:Bool->Nat
 |false=>0
 |true=>1
def way(p:List Bool):List Nat:=(p.map b2n).reverse
inductive Fr where
 |seqK (b:RC) (f:Nat) (p:List Nat)
 |loopK (c:RC) (f:Nat) (p:List Nat)
 |blockK (id:Nat)
 |callK (f:Nat)
 |opsK (b:Nat) (o:ROper) (l:List ROper) (f:Nat) (p:List Nat) (k:Nat) (ts:Tm)
 |rngK (l:Nat) (ts:Tm)
 |asgK (b:Nat) (body:RC) (f:Nat) (p:List Nat)
 |rndK (b:Nat)
inductive Foc where
 |ops (b:Nat) (l:List ROper) (f:Nat) (p:List Nat) (k:Nat) (ts:Tm) (h:AH)
 |code (c:RC) (f:Nat) (p:List Nat) (ts:Tm) (h:AH)
 |call (f:FuncId) (args:List AV) (h:AH)
 |round (b:Nat) (args:List AV) (h:AH)
 |out (o:Out)
structure KS where
 f:Foc
 k:List Fr
def Ix(b:Nat)(o:ROper)(l:List ROper)(f:Nat)(p:List Nat)(n:Nat)(ts:Tm)(h:AH)(k:List Fr):Option KS :=
 match wanted ts o.guard with
 |none=>none
 |some false=>some ⟨.ops b l f p (n+1) (dH ts o.dst .un) h,k⟩
 |some true =>
   match o.op with
   |.call g args=>some ⟨.call g (args.map (RO.ev ts)) h,.opsK b o l f p n ts::k⟩
   |.callv x args=>match RO.ev ts x with
     |.fn g caps=>some ⟨.call g (args.map (RO.ev ts)++caps) h,.opsK b o l f p n ts::k⟩
     |.yld c=>some ⟨.round c (args.map (RO.ev ts)) h,.opsK b o l f p n ts::k⟩
     |_=>none
   |_=>match evN b (RO.ev ts) h o with
     |some (v,h')=>if gZ (dH ts o.dst v) h' o.cs=true then some ⟨.ops b l f p (n+1) (dH ts o.dst v) h',k⟩else none
     |none=>none
def AM(c:RC)(f:Nat)(p:List Nat)(ts:Tm)(h:AH)(k:List Fr):Option KS :=
 match c with
 |.skip=>some ⟨.out (.norm ts h),k⟩
 |.reg ops=>some ⟨.ops h.next ops f p 0 ts h,k⟩
 |.regK kn ops=>some ⟨.ops h.next ops f p 0 ts (h.keep kn),k⟩
 |.regD _ _ _=>none
 |.seq a b=>some ⟨.code a f (0::p) ts h,.seqK b f (1::p)::k⟩
 |.cond c a b=>match RO.ev ts c with
   |.bool true=>some ⟨.code a f (0::p) ts h,k⟩
   |.bool false=>some ⟨.code b f (1::p) ts h,k⟩
   |_=>none
 |.block id c=>some ⟨.code c f (0::p) ts h,.blockK id::k⟩
 |.loop c=>some ⟨.code c f (0::p) ts h,.loopK c f (0::p)::k⟩
 |.rangeF fn q x ps _ _=>match RO.ev ts x with
   |.fn g caps=>some ⟨.call g (.yld h.next::caps) (h.new (.lp fn q ts ps .ready none)),.rngK h.next ts::k⟩
   |_=>none
 |.exit id=>some ⟨.out (.exit id ts h),k⟩
 |.ret=>some ⟨.out (.ret ts h),k⟩
 |.bad=>none
def yI(P:RP)(b:Nat)(args:List AV)(h:AH)(k:List Fr):Option KS :=
 match h.get b with
 |some (.lp fn p tl ps .ready none)=>if args.length=ps.length then
   match P fn with
   |some rf=>match rf.body.node p with
     |some (.rangeF fn' p' _ ps' asg body)=>if fn'=fn/\p'=p/\ps'=ps then some ⟨.code asg fn (0::way p) (mB tl ps args) h,.asgK b body fn (1::way p)::k⟩else none
     |_=>none
   |none=>none
   else none
 |_=>none
def qB(P:RP)(fr:Fr)(o:Out)(k:List Fr):Option KS :=
 match fr with
 |.seqK b f p=>match o with
   |.norm ts h=>some ⟨.code b f p ts h,k⟩
   |.exit i ts h=>some ⟨.out (.exit i ts h),k⟩
   |.ret ts h=>some ⟨.out (.ret ts h),k⟩
   |_=>none
 |.loopK c f p=>match o with
   |.norm ts h=>some ⟨.code c f p ts h,.loopK c f p::k⟩
   |.exit i ts h=>some ⟨.out (.exit i ts h),k⟩
   |.ret ts h=>some ⟨.out (.ret ts h),k⟩
   |_=>none
 |.blockK id=>some ⟨.out (o.unblock id),k⟩
 |.callK f=>match P f with
   |some rf=>match vi rf (some o)with
     |some o'=>some ⟨.out o',k⟩
     |none=>none
   |none=>none
 |.opsK b q l f p n ts=>match o with
   |.val v h=>if gZ (dH ts q.dst v) h q.cs=true then some ⟨.ops b l f p (n+1) (dH ts q.dst v) h,k⟩else none
   |_=>none
 |.rngK l ts=>match o with
   |.val _ h=>match rV l ts h with
     |some o'=>some ⟨.out o',k⟩
     |none=>none
   |_=>none
 |.asgK b body f p=>match o with
   |.norm ts1 h1=>match h1.get b with
     |some (.lp fn q tl ps .ready none)=>some ⟨.code body f p ts1 (h1.put b (.lp fn q tl ps .busy none)),.rndK b::k⟩
     |_=>none
   |_=>none
 |.rndK b=>match pn b (some o)with
   |some o'=>some ⟨.out o',k⟩
   |none=>none
def tF(P:RP)(S:KS):Option KS :=
 match S.f with
 |.ops _ [] _ _ _ ts h=>some ⟨.out (.norm ts h),S.k⟩
 |.ops b (o::l) f p n ts h=>Ix b o l f p n ts h S.k
 |.code c f p ts h=>AM c f p ts h S.k
 |.call f args h=>match P f with
   |some rf=>some ⟨.code rf.body f [] (bV 0 args) h,.callK f::S.k⟩
   |none=>none
 |.round b args h=>yI P b args h S.k
 |.out o=>match S.k with
   |fr::k=>qB P fr o k
   |[]=>none
def uZ(P:RP):Nat->KS->Option KS
 |0,S=>some S
 |n+1,S=>match tF P S with
   |some S'=>uZ P n S'
   |none=>none
inductive PFr where
 |seqK (f:Nat) (p:List Nat)
 |loopK (f:Nat) (p:List Nat)
 |blockK (id:Nat)
 |callK (f:Nat)
 |opsK (b:Nat) (f:Nat) (p:List Nat) (k:Nat) (ts:Tm)
 |rngK (l:Nat) (ts:Tm)
 |asgK (b:Nat) (f:Nat) (p:List Nat)
 |rndK (b:Nat)
inductive PFoc where
 |ops (b:Nat) (f:Nat) (p:List Nat) (k:Nat) (ts:Tm) (h:AH)
 |code (f:Nat) (p:List Nat) (ts:Tm) (h:AH)
 |call (f:Nat) (args:List AV) (h:AH)
 |round (b:Nat) (args:List AV) (h:AH)
 |out (o:Out)
structure PS where
 f:PFoc
 k:List PFr
def PFr.load(P:RP):PFr->Fr
 |.seqK f p=>.seqK (qJ P f p) f p
 |.loopK f p=>.loopK (qJ P f p) f p
 |.blockK i=>.blockK i
 |.callK f=>.callK f
 |.opsK b f p n ts=>match (qJ P f p).regOps.drop n with
   |o::l=>.opsK b o l f p n ts
   |[]=>.blockK 0
 |.rngK l ts=>.rngK l ts
 |.asgK b f p=>.asgK b (qJ P f p) f p
 |.rndK b=>.rndK b
def PFoc.load(P:RP):PFoc->Foc
 |.ops b f p n ts h=>.ops b ((qJ P f p).regOps.drop n) f p n ts h
 |.code f p ts h=>.code (qJ P f p) f p ts h
 |.call f a h=>.call f a h
 |.round b a h=>.round b a h
 |.out o=>.out o
def PS.load(P:RP)(S:PS):KS:=⟨S.f.load P,S.k.map (PFr.load P)⟩
def Ns:List (AV×AV×Nat)->List (AV×AV×Nat)->Bool
 |[],[]=>true
 |(a,b,n)::r,(a',b',n')::r'=>AV.same a a'&&AV.same b b'&&n==n'&&Ns r r'
 |_,_=>false
def Io(P:RP)(n:Nat)(a:PS):Bool :=
 match uZ P n (a.load P)with
 |some S=>match S.f,S.k with
   |.out (.val (.bool true) _),[]=>true
   |_,_=>false
 |none=>false
def updT{α:Type}(t:T α):List (Nat×α)->T α
 |[]=>t
 |x::r=>updT (t.set (gC x.1) x.2) r
def updH(h:AH)(n:Nat)(l:List (Nat×AO))(ty:List (Nat×Nat)):AH:={ next:=n,t:=updT h.t l,ty:=updT h.ty ty}
end Go.Am
