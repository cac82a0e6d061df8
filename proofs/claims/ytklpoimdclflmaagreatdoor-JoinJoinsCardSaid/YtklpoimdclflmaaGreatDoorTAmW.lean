/- Drawn orders fixed beforehand; weakest preconditions over th -/
import Derived.Test.YtklpoimdclflmaaGreatDoorTAmDraw
set_option linter.all false
namespace Go.Am
variable {P:RP}{a b c:RC}{es:List (List Nat)}{h:AH}{kn:Nat}{l ops:List ROper}{ts:Tm}
def Bt(ops:List ROper)(i:Nat):Nat:=match ops[i]? with
 |some o=>o.op.cls
 |none=>0
def As(es:List (List Nat))(done:List Nat)(f:Nat->Bool):List Nat->Option Nat
 |[]=>none
 |i::r=>if f i&&(es.getD i []).all (done.contains ·)then some i else As es done f r
def Co(x y:Option Nat):Option Nat:=match x with
 |some i=>some i
 |none=>y
def Ht(ops:List ROper)(es bef:List (List Nat)):Nat->List Nat->List Nat->List Nat
 |0,done,_=>done
 |n+1,done,rest =>
   match Co (As es done (λi=>Bt ops i<2) rest) (Co (As es done (λi=>Bt ops i==3) rest)
    (Co (As es done (λi=>match rest.find? (λk=>Bt ops k==3)with|some k=>(bef.getD k []).contains i|none=>false) rest) (As es done (λ_=>true) rest)))with
   |some i=>Ht ops es bef n (done++[i]) (rest.filter (· != i))
   |none=>done
def clOf(ops:List ROper)(bef:List (List Nat))(l0:List Nat):List (List Nat) :=
 (List.range ops.length).map λx=>if Bt ops x==3 then(l0.takeWhile (· != x)).filter (λy=>Bt ops y==1&&!((bef.getD x []).contains y))else []
def Ku(kn:Nat)(ops:List ROper)(es cl:List (List Nat))(l0:List Nat):Option (List ROper):=if okK kn ops cl es l0 then some (l0.map (gK ops cl))else none
def Mi(kn:Nat)(ops:List ROper)(es:List (List Nat)):Option (List ROper) :=
 match Ku kn ops es (clOf ops (Dm [] es) (List.range ops.length)) (List.range ops.length)with
 |some l=>some l
 |none=>Ku kn ops es (clOf ops (Dm [] es) (Ht ops es (Dm [] es) ops.length [] (List.range ops.length))) (Ht ops es (Dm [] es) ops.length [] (List.range ops.length))
def wN(kn:Nat)(l:List ROper):RC:=if kn=0 then .reg l else .regK kn l
def gY:RC->Option RC
 |.regD kn ops es=>match Mi kn ops es with
   |some l=>some (wN kn l)
   |none=>none
 |.seq a b=>match gY a,gY b with
   |some a,some b=>some (.seq a b)
   |_,_=>none
 |.cond c a b=>match gY a,gY b with
   |some a,some b=>some (.cond c a b)
   |_,_=>none
 |.block id c=>(gY c).map (.block id)
 |.loop c=>(gY c).map .loop
 |.rangeF fn p f ps a b=>match gY a,gY b with
   |some a,some b=>some (.rangeF fn p f ps a b)
   |_,_=>none
 |.reg ops=>some (.reg ops)
 |.regK kn ops=>some (.regK kn ops)
 |.skip=>some .skip
 |.exit id=>some (.exit id)
 |.ret=>some .ret
 |.bad=>some .bad
def ww{cl:List (List Nat)}{l0:List Nat}(h:Ku kn ops es cl l0=some l):okK kn ops cl es l0=true/\l=l0.map (gK ops cl):=by
 unfold Ku at h;split at h
 .rename_i hk
  exact⟨hk,(Option.some.inj h).symm⟩
 .cases h
def xx(h:Mi kn ops es=some l):∃cl l0,okK kn ops cl es l0=true/\l=l0.map (gK ops cl):=by
 unfold Mi at h;split at h
 .rename_i hk
  simp only[aa]at h;subst h;exact⟨_,_,ww hk⟩
 .exact⟨_,_,ww h⟩
def oS(kn:Nat)(l:List ROper):(kn=0/\wN kn l=.reg l)\/wN kn l=.regK kn l:=by
 unfold wN;split
 .exact .inl ⟨‹_›,rfl⟩
 .exact .inr rfl
def cY(f:RF):Option RF:=(gY f.body).map λb=>{ f with body:=b}
def Det(P P':RP):Prop:=∀f rf',P' f=some rf'->∃rf,P f=some rf/\cY rf=some rf'
def DetTo(P:RP):Task->Tm->AH->(Out->Prop)->Prop
 |.code c',ts,h,r=>∀c,gY c=some c'->BS P (.code c) ts h r
 |t,ts,h,r=>BS P t ts h r
def jO{c':RC}(h:gY c=some c'):(∃kn ops es l,c=.regD kn ops es/\Mi kn ops es=some l/\c'=wN kn l)\/(∃a b a' b',c=.seq a b/\c'=.seq a' b'/\gY a=some a'/\gY b=some b') \/
 (∃v a b a' b',c=.cond v a b/\c'=.cond v a' b'/\gY a=some a'/\gY b=some b')\/(∃id a a',c=.block id a/\c'=.block id a'/\gY a=some a')\/(∃a a',c=.loop a/\c'=.loop a'/\gY a=some a') \/
 (∃fn p f ps a b a' b',c=.rangeF fn p f ps a b/\c'=.rangeF fn p f ps a' b'/\gY a=some a'/\gY b=some b')\/(c=c'/\(match c with|.reg _|.regK _ _|.skip|.exit _|.ret|.bad=>true|_=>false)=true):=by
 cases c<;>simp only[gY]at h
 case regD kn o es =>
  split at h
  .rename_i l hl
   exact .inl ⟨_,_,_,l,rfl,hl,(Option.some.inj h).symm⟩
  .cases h
 case seq x y =>
  split at h
  .rename_i h1 h2
   exact .inr (.inl ⟨_,_,_,_,rfl,(Option.some.inj h).symm,h1,h2⟩)
  .cases h
 case cond w x y =>
  split at h
  .rename_i h1 h2
   exact .inr (.inr (.inl ⟨_,_,_,_,_,rfl,(Option.some.inj h).symm,h1,h2⟩))
  .cases h
 case block i x =>
  rw[aG]at h;obtain⟨y,h1,h2⟩:=h;exact .inr (.inr (.inr (.inl ⟨_,_,_,rfl,h2.symm,h1⟩)))
 case loop x =>
  rw[aG]at h;obtain⟨y,h1,h2⟩:=h;exact .inr (.inr (.inr (.inr (.inl ⟨_,_,rfl,h2.symm,h1⟩))))
 case rangeF f0 p0 g0 q0 x y =>
  split at h
  .rename_i h1 h2
   exact .inr (.inr (.inr (.inr (.inr (.inl ⟨_,_,_,_,_,_,_,_,rfl,(Option.some.inj h).symm,h1,h2⟩)))))
  .cases h
 all_goals exact .inr (.inr (.inr (.inr (.inr (.inr ⟨Option.some.inj h,rfl⟩)))))
def lJ(h:c=wN kn l):(∃ops,c=.reg ops)\/∃k ops,c=.regK k ops:=by
 rcases oS kn l with⟨_,e⟩|e
 .exact .inl ⟨_,h.trans e⟩
 .exact .inr ⟨_,_,h.trans e⟩
def Jq(h:gY c=some (.reg ops)):c=.reg ops\/∃ops0 es cl l0,c=.regD 0 ops0 es/\ops=l0.map (gK ops0 cl)/\okK 0 ops0 cl es l0=true:=by
 rcases jO h with⟨kn,o,es,l,rfl,h1,h2⟩|⟨_,_,_,_,_,e,_⟩|⟨_,_,_,_,_,_,e,_⟩|⟨_,_,_,_,e,_⟩|⟨_,_,_,e,_⟩|⟨_,_,_,_,_,_,_,_,_,e,_⟩|⟨rfl,_⟩
 .rcases oS kn l with⟨rfl,e⟩|e
  .rw[e]at h2;simp only[RC.reg.injEq]at h2;subst h2;obtain⟨cl,l0,k1,k2⟩:=xx h1;exact .inr ⟨_,_,_,_,rfl,k2,k1⟩
  .rw[e]at h2;cases h2
 all_goals first|(cases e;done)|exact .inl rfl
def Gb(h:gY c=some (.regK kn ops)):c=.regK kn ops\/∃ops0 es cl l0,c=.regD kn ops0 es/\ops=l0.map (gK ops0 cl)/\okK kn ops0 cl es l0=true:=by
 rcases jO h with⟨kn',o,es,l,rfl,h1,h2⟩|⟨_,_,_,_,_,e,_⟩|⟨_,_,_,_,_,_,e,_⟩|⟨_,_,_,_,e,_⟩|⟨_,_,_,e,_⟩|⟨_,_,_,_,_,_,_,_,_,e,_⟩|⟨rfl,_⟩
 .rcases oS kn' l with⟨rfl,e⟩|e
  .rw[e]at h2;cases h2
  .rw[e]at h2;simp only[RC.regK.injEq]at h2;obtain⟨rfl,rfl⟩:=h2;obtain⟨cl,l0,k1,k2⟩:=xx h1;exact .inr ⟨_,_,_,_,rfl,k2,k1⟩
 all_goals first|(cases e;done)|exact .inl rfl
def Gc(h:gY c=some (.regD kn ops es)):False:=by
 rcases jO h with⟨_,o,_,l,rfl,h1,h2⟩|⟨_,_,_,_,_,e,_⟩|⟨_,_,_,_,_,_,e,_⟩|⟨_,_,_,_,e,_⟩|⟨_,_,_,e,_⟩|⟨_,_,_,_,_,_,_,_,_,e,_⟩|⟨rfl,e⟩
 .rcases lJ h2 with⟨_,e⟩|⟨_,_,e⟩<;>cases e
 all_goals cases e
def Bn(h:gY c=some (.seq a b)):∃x y,c=.seq x y/\gY x=some a/\gY y=some b:=by
 rcases jO h with⟨_,o,_,l,rfl,h1,h2⟩|⟨_,_,_,_,rfl,e,k1,k2⟩|⟨_,_,_,_,_,_,e,_⟩|⟨_,_,_,_,e,_⟩|⟨_,_,_,e,_⟩|⟨_,_,_,_,_,_,_,_,_,e,_⟩|⟨rfl,e⟩
 .rcases lJ h2 with⟨_,e⟩|⟨_,_,e⟩<;>cases e
 .cases e;exact⟨_,_,rfl,k1,k2⟩
 all_goals cases e
def xL{v:RO}(h:gY c=some (.cond v a b)):∃x y,c=.cond v x y/\gY x=some a/\gY y=some b:=by
 rcases jO h with⟨_,o,_,l,rfl,h1,h2⟩|⟨_,_,_,_,_,e,_⟩|⟨_,_,_,_,_,rfl,e,k1,k2⟩|⟨_,_,_,_,e,_⟩|⟨_,_,_,e,_⟩|⟨_,_,_,_,_,_,_,_,_,e,_⟩|⟨rfl,e⟩
 .rcases lJ h2 with⟨_,e⟩|⟨_,_,e⟩<;>cases e
 .cases e
 .cases e;exact⟨_,_,rfl,k1,k2⟩
 all_goals cases e
def vG{id:Nat}(h:gY c=some (.block id a)):∃x,c=.block id x/\gY x=some a:=by
 rcases jO h with⟨_,o,_,l,rfl,h1,h2⟩|⟨_,_,_,_,_,e,_⟩|⟨_,_,_,_,_,_,e,_⟩|⟨_,_,_,rfl,e,k1⟩|⟨_,_,_,e,_⟩|⟨_,_,_,_,_,_,_,_,_,e,_⟩|⟨rfl,e⟩
 .rcases lJ h2 with⟨_,e⟩|⟨_,_,e⟩<;>cases e
 .cases e
 .cases e
 .cases e;exact⟨_,rfl,k1⟩
 all_goals cases e
def xK(h:gY c=some (.loop a)):∃x,c=.loop x/\gY x=some a:=by
 rcases jO h with⟨_,o,_,l,rfl,h1,h2⟩|⟨_,_,_,_,_,e,_⟩|⟨_,_,_,_,_,_,e,_⟩|⟨_,_,_,_,e,_⟩|⟨_,_,rfl,e,k1⟩|⟨_,_,_,_,_,_,_,_,_,e,_⟩|⟨rfl,e⟩
 .rcases lJ h2 with⟨_,e⟩|⟨_,_,e⟩<;>cases e
 .cases e
 .cases e
 .cases e
 .cases e;exact⟨_,rfl,k1⟩
 all_goals cases e
def vF{fn:FuncId}{p:List Bool}{f:RO}{ps:List Nat}(h:gY c=some (.rangeF fn p f ps a b)):∃x y,c=.rangeF fn p f ps x y/\gY x=some a/\gY y=some b:=by
 rcases jO h with⟨_,o,_,l,rfl,h1,h2⟩|⟨_,_,_,_,_,e,_⟩|⟨_,_,_,_,_,_,e,_⟩|⟨_,_,_,_,e,_⟩|⟨_,_,_,e,_⟩|⟨_,_,_,_,_,_,_,_,rfl,e,k1,k2⟩|⟨rfl,e⟩
 .rcases lJ h2 with⟨_,e⟩|⟨_,_,e⟩<;>cases e
 .cases e
 .cases e
 .cases e
 .cases e
 .cases e;exact⟨_,_,rfl,k1,k2⟩
 all_goals cases e
def rY(h:gY c=some a)(ha:a=.skip\/a=.ret\/∃i,a=.exit i):c=a:=by
 rcases jO h with⟨_,o,_,l,rfl,h1,h2⟩|⟨_,_,_,_,_,e,_⟩|⟨_,_,_,_,_,_,e,_⟩|⟨_,_,_,_,e,_⟩|⟨_,_,_,e,_⟩|⟨_,_,_,_,_,_,_,_,_,e,_⟩|⟨e,_⟩
 .rcases lJ h2 with⟨_,e⟩|⟨_,_,e⟩<;>(rw[e]at ha;simp at ha)
 all_goals first|exact e|(rw[e]at ha;simp at ha)
def kz:∀(p:List Bool) {c c' d':RC},gY c=some c'->c'.node p=some d'->∃d,c.node p=some d/\gY d=some d'
 |[],c,c',d',h,hd=>by
   simp only[RC.node,aa]at hd;subst hd;exact⟨c,by simp[RC.node],h⟩
 |b::p,c,c',d',h,hd=>by
   cases c' with
   |seq x y =>
     obtain⟨x',y',rfl,h1,h2⟩:=Bn h;cases b
     .obtain⟨d,e1,e2⟩:=kz p h1 (by simpa[RC.node]using hd);exact⟨d,by simpa[RC.node]using e1,e2⟩
     .obtain⟨d,e1,e2⟩:=kz p h2 (by simpa[RC.node]using hd);exact⟨d,by simpa[RC.node]using e1,e2⟩
   |cond v x y =>
     obtain⟨x',y',rfl,h1,h2⟩:=xL h;cases b
     .obtain⟨d,e1,e2⟩:=kz p h1 (by simpa[RC.node]using hd);exact⟨d,by simpa[RC.node]using e1,e2⟩
     .obtain⟨d,e1,e2⟩:=kz p h2 (by simpa[RC.node]using hd);exact⟨d,by simpa[RC.node]using e1,e2⟩
   |block i x =>
     obtain⟨x',rfl,h1⟩:=vG h;cases b
     .obtain⟨d,e1,e2⟩:=kz p h1 (by simpa[RC.node]using hd);exact⟨d,by simpa[RC.node]using e1,e2⟩
     .simp[RC.node]at hd
   |loop x =>
     obtain⟨x',rfl,h1⟩:=xK h;cases b
     .obtain⟨d,e1,e2⟩:=kz p h1 (by simpa[RC.node]using hd);exact⟨d,by simpa[RC.node]using e1,e2⟩
     .simp[RC.node]at hd
   |_=>simp[RC.node]at hd
def Bm{Q:RP}(hd:Det P Q){f:FuncId}{k:Nat}(a:Q f=some ⟨[],.exit k⟩):P f=some ⟨[],.exit k⟩:=by
 obtain⟨rf,h1,h2⟩:=hd _ _ a;unfold cY at h2;rw[aG]at h2;obtain⟨x,h3,h4⟩:=h2;have e1:x=.exit k:=congrArg RF.body h4;subst e1;have e2:=rY h3 (.inr (.inr ⟨_,rfl⟩));rw[h1,<-h4,<-e2]
def NO{P':RP}(hd:Det P P'){t:Task}{r:Out->Prop}(hb:BS P' t ts h r):DetTo P t ts h r:=by
 induction hb with
 |nil a=>exact .nil a
 |skipped a _ ih=>exact .skipped a ih
 |op a b c _ ih=>exact .op a b c ih
 |any a b c k _ ih=>exact .any a b c k ih
 |call a b _ k _ i1 i2=>exact .call a b i1 k i2
 |callv a b c _ k _ i1 i2=>exact .callv a b c i1 k i2
 |yield a b c _ k _ i1 i2=>exact .yield a b c i1 k i2
 |skip a=>intro c hc;rw[rY hc (.inl rfl)];exact .skip a
 |reg hb ih =>
   intro c hc;rcases Jq hc with rfl|⟨o,es,cl,l0,rfl,rfl,hk⟩
   .exact .reg ih
   .exact BS.draw hk ih
 |regD=>exact λc hc=>(Gc hc).elim
 |regK hb ih =>
   intro c hc;rcases Gb hc with rfl|⟨o,es,cl,l0,rfl,rfl,hk⟩
   .exact .regK ih
   .exact BS.draw hk ih
 |seq _ _ hx hr i1 i2 =>
   intro c hc;obtain⟨x,y,rfl,h1,h2⟩:=Bn hc;exact .seq (i1 _ h1) (λts' h' hs=>i2 ts' h' hs _ h2) hx hr
 |@cond v a b ts h t r hv _ i1 =>
   intro c hc;obtain⟨x,y,rfl,h1,h2⟩:=xL hc;refine .cond hv ?_;cases t
   .exact i1 _ h2
   .exact i1 _ h1
 |block _ hs i1 =>
   intro c hc;obtain⟨x,rfl,h1⟩:=vG hc;exact .block (i1 _ h1) hs
 |loop _ _ hx hr i1 i2 =>
   intro c hc;obtain⟨x,rfl,h1⟩:=xK hc;exact .loop (i1 _ h1) (λts' h' hs=>i2 ts' h' hs _ hc) hx hr
 |rangeF hf _ he i1 =>
   intro c hc;obtain⟨x,y,rfl,h1,h2⟩:=vF hc;exact .rangeF hf i1 he
 |exit a=>intro c hc;rw[rY hc (.inr (.inr ⟨_,rfl⟩))];exact .exit a
 |ret a=>intro c hc;rw[rY hc (.inr (.inl rfl))];exact .ret a
 |srt a b c d e=>exact .srt (Bm hd a) b c d e
 |srf a b c d e k=>exact .srf (Bm hd a) b c d e k
 |func hf _ hx hr i1 =>
   obtain⟨rf,h1,h2⟩:=hd _ _ hf;unfold cY at h2;rw[aG]at h2;obtain⟨b,h3,rfl⟩:=h2;exact .func h1 (i1 _ h3) hx hr
 |round hg hal hrf hn _ h2 _ h4 i1 i2 =>
   obtain⟨rf,g1,g2⟩:=hd _ _ hrf;unfold cY at g2;rw[aG]at g2;obtain⟨b,g3,rfl⟩:=g2;obtain⟨d,e1,e2⟩:=kz _ g3 hn;obtain⟨x,y,rfl,q1,q2⟩:=vF e2;exact .round hg hal g1 e1 (i1 _ q1) h2 (λts1 h1 f1 p1 t1 s1 hs hg=>i2 ts1 h1 f1 p1 t1 s1 hs hg _ q2) h4
def C(P:RP)(f:FuncId)(args:List AV)(h:AH)(Q:AV->AH->Prop):Prop:=BS P (.call f args) .nil h λo=>∃v h',o=.val v h'/\Q v h'
def C.mono{P:RP}{f:FuncId}{args:List AV}{h:AH}{Q Q':AV->AH->Prop}(hc:C P f args h Q)(hq:∀v h',Q v h'->Q' v h'):C P f args h Q' :=
 BS.mono hc λ_ ⟨v,h',a,b⟩=>⟨v,h',a,hq v h' b⟩
def Y(P:RP)(b:Nat)(args:List AV)(h:AH)(Q:AV->AH->Prop):Prop:=BS P (.round b args) .nil h λo=>∃v h',o=.val v h'/\Q v h'
def Y.mono{P:RP}{f:Nat}{args:List AV}{h:AH}{Q Q':AV->AH->Prop}(hc:Y P f args h Q)(hq:∀v h',Q v h'->Q' v h'):Y P f args h Q' :=
 BS.mono hc λ_ ⟨v,h',a,b⟩=>⟨v,h',a,hq v h' b⟩
def wop(P:RP)(b:Nat)(ts:Tm)(h:AH)(K:AV->AH->Prop)(o:ROper):Prop :=
 match o.op with
 |.call f args=>C P f (args.map (RO.ev ts)) h K
 |.callv x args=>(∃f caps,RO.ev ts x=.fn f caps/\C P f (args.map (RO.ev ts)++caps) h K)\/∃b,RO.ev ts x=.yld b/\Y P b (args.map (RO.ev ts)) h K
 |.nxM x=>∃as,we h (RO.ev ts x)=some as/\∀v h',(v,h')∈as->K v h'
 |_=>∃v h',evN b (RO.ev ts) h o=some (v,h')/\K v h'
def pT(P:RP)(b:Nat):List ROper->Tm->AH->(Tm->AH->Prop)->Prop
 |[],ts,h,K=>K ts h
 |o::l,ts,h,K =>
   match wanted ts o.guard with
   |some true=>wop P b ts h (λv h'=>pT P b l (dH ts o.dst v) h' K/\gZ (dH ts o.dst v) h' o.cs=true) o
   |some false=>pT P b l (dH ts o.dst .un) h K
   |none=>False
def nq{P:RP}{b:Nat}:∀(l:List ROper) {ts:Tm}{h:AH}{K:Tm->AH->Prop},pT P b l ts h K->BS P (.ops b l) ts h λo=>∃ts' h',o=.norm ts' h'/\K ts' h'
 |[],ts,h,_,hw=>.nil ⟨ts,h,rfl,hw⟩
 |o::l,ts,h,K,hw=>by
   unfold pT at hw;split at hw
   .rename_i hg
    have key:SV P b o ts h λv h'=>pT P b l (dH ts o.dst v) h' K:=by
     refine .inr ⟨hg,?_⟩;unfold wop at hw;split at hw
     .rename_i f args ho
      exact .inr (.inr (.inl ⟨f,args,_,ho,hw,λv h' ⟨_,_,e,q⟩=>by cases e;exact q⟩))
     .rename_i x args ho
      rcases hw with⟨f,caps,hx,hc⟩|⟨b,hx,hc⟩
      .exact .inr (.inr (.inr (.inl ⟨x,args,f,caps,_,ho,hx,hc,λv h' ⟨_,_,e,q⟩=>by cases e;exact q⟩)))
      .exact .inr (.inr (.inr (.inr ⟨x,args,b,_,ho,hx,hc,λv h' ⟨_,_,e,q⟩=>by cases e;exact q⟩)))
     .rename_i x ho
      obtain⟨as,h1,h2⟩:=hw;exact .inr (.inl ⟨x,as,ho,h1,h2⟩)
     .obtain⟨v,h',a,q⟩:=hw;exact .inl ⟨v,h',a,q⟩
    exact BS.step key λv h1 q=>nq l q
   .rename_i hg
    exact .skipped hg (nq l hw)
   .exact hw.elim
def fin(Kn Kr:Tm->AH->Prop)(Kx:Nat->Tm->AH->Prop):Out->Prop
 |.norm ts h=>Kn ts h
 |.exit id ts h=>Kx id ts h
 |.ret ts h=>Kr ts h
 |.val _ _=>False
def W(P:RP):RC->Tm->AH->(Tm->AH->Prop)->(Tm->AH->Prop)->(Nat->Tm->AH->Prop)->Prop
 |.skip,ts,h,Kn,_,_=>Kn ts h
 |.reg ops,ts,h,Kn,_,_=>pT P h.next ops ts h Kn
 |.regD kn ops es,ts,h,Kn,Kr,Kx=>BS P (.code (.regD kn ops es)) ts h (fin Kn Kr Kx)
 |.regK kn ops,ts,h,Kn,_,_=>pT P h.next ops ts (h.keep kn) Kn
 |.seq a b,ts,h,Kn,Kr,Kx=>W P a ts h (λts h=>W P b ts h Kn Kr Kx) Kr Kx
 |.cond c a b,ts,h,Kn,Kr,Kx=>(RO.ev ts c=.bool true/\W P a ts h Kn Kr Kx)\/(RO.ev ts c=.bool false/\W P b ts h Kn Kr Kx)
 |.block id c,ts,h,Kn,Kr,Kx=>W P c ts h Kn Kr (λi ts h=>(i=id->Kn ts h)/\(i≠id->Kx i ts h))
 |.loop c,ts,h,Kn,Kr,Kx=>BS P (.code (.loop c)) ts h (fin Kn Kr Kx)
 |.rangeF fn p f ps a b,ts,h,Kn,Kr,Kx=>BS P (.code (.rangeF fn p f ps a b)) ts h (fin Kn Kr Kx)
 |.exit id,ts,h,_,_,Kx=>Kx id ts h
 |.ret,ts,h,_,Kr,_=>Kr ts h
 |.bad,_,_,_,_,_=>False
def lm{P:RP}:∀(c:RC) {ts:Tm}{h:AH}{Kn Kr:Tm->AH->Prop}{Kx:Nat->Tm->AH->Prop},W P c ts h Kn Kr Kx->BS P (.code c) ts h (fin Kn Kr Kx)
 |.skip,ts,h,_,_,_,hw=>.skip hw
 |.reg ops,_,_,_,_,_,hw=>.reg ((nq ops hw).mono λo ⟨ts',h',a,b⟩=>by subst a;exact b)
 |.regD _ _ _,_,_,_,_,_,hw=>hw
 |.regK _ ops,_,_,_,_,_,hw=>.regK ((nq ops hw).mono λo ⟨ts',h',a,b⟩=>by subst a;exact b)
 |.seq a b,ts,h,Kn,Kr,Kx,hw=>.seq (lm a hw) (λts' h' q=>lm b q) (λ_ _ _ q=>q) (λ_ _ q=>q)
 |.cond c a b,ts,h,_,_,_,hw=>by
   rcases hw with⟨h1,h2⟩|⟨h1,h2⟩
   .exact .cond h1 (lm a h2)
   .exact .cond h1 (lm b h2)
 |.block id c,ts,h,Kn,Kr,Kx,hw=>by
   refine .block (lm c hw) λo ho=>?_;cases o with
   |exit i ts' h' =>
     simp only[Out.unblock];split
     .rename_i e;exact ho.1 e
     .rename_i e;exact ho.2 e
   |norm=>exact ho
   |ret=>exact ho
   |val=>exact ho
 |.loop _,_,_,_,_,_,hw=>hw
 |.rangeF _ _ _ _ _ _,_,_,_,_,_,hw=>hw
 |.exit id,ts,h,_,_,_,hw=>.exit hw
 |.ret,ts,h,_,_,_,hw=>.ret hw
 |.bad,_,_,_,_,_,hw=>hw.elim
def hG{Kn Kr:Tm->AH->Prop}{Kx:Nat->Tm->AH->Prop}(I:Nat->Tm->AH->Prop)(hs:∀n ts h,I n ts h->W P c ts h (λts' h'=>∃m,m<n/\I m ts' h') Kr Kx){n:Nat}(hi:I n ts h):W P (.loop c) ts h Kn Kr Kx:=by
 induction n using Nat.strongRecOn generalizing ts h with
 |_ n ih =>
   refine BS.loop (lm c (hs n ts h hi)) ?_ (λ_ _ _ q=>q) (λ_ _ q=>q);rintro ts' h' ⟨m,hm,hi'⟩;exact ih m hm hi'
def C.func{P:RP}{f:FuncId}{args:List AV}{h:AH}{Q:AV->AH->Prop}{rf:RF}(hf:P f=some rf)
 (hw:W P rf.body (bV 0 args) h (λts h'=>∃v,results rf ts h'=some v/\Q v h') (λts h'=>∃v,results rf ts h'=some v/\Q v h') (λ_ _ _=>False)):C P f args h Q:=by
 refine BS.func hf (lm _ hw) (λ_ _ _ q=>q) ?_;rintro ts' h' (⟨v,a,b⟩|⟨v,a,b⟩)
 .exact⟨v,a,v,h',rfl,b⟩
 .exact⟨v,a,v,h',rfl,b⟩
def Oj:=@C.func
end Go.Am
