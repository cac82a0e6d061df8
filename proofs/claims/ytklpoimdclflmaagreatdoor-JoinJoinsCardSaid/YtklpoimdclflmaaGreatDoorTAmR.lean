/- Loops over rows, ranges over functions; what is kept. -/
import Derived.Test.YtklpoimdclflmaaGreatDoorTAmL
set_option linter.all false
namespace Go.Am
variable {B B1 b bytes c e i k n:Nat}{Kn Kr:Tm->AH->Prop}{Kx:Nat->Tm->AH->Prop}{P:RP}{S:Nat->Prop}{body:RC}{cs z:List AV}{ev:RO->AV}{h h':AH}{o:AO}{p q0 q1 q2 q3 q4 q5 q6 q7 q8 q9:Prop}{ro:Bool}{ts:Tm}{v:AV}{x:RO}{xs:List (List AV)}
def Held:List (Nat×AV)->Tm->Prop
 |[],_=>True
 |p::r,ts=>db ts p.1=p.2/\Held r ts
def eS{ts:Tm}:Held [] ts=True:=rfl
def et{a:Nat}{v:AV}{r:List (Nat×AV)}{ts:Tm}:Held ((a,v)::r) ts=(db ts a=v/\Held r ts):=rfl
def hl:=And.intro @et @eS
def Held.put{n:Nat}{x:AV}{ts:Tm}:∀{E:List (Nat×AV)},(E.all λp=>p.1 != n)=true->Held E ts->Held E (qV ts n x)
 |[],_,_=>trivial
 |(a,v)::r,ho,⟨h1,h2⟩=>by
   simp only[gQ,aU,bne_iff_ne,ne_eq]at ho;refine⟨?_,Held.put ho.2 h2⟩;show db (qV ts n x) a=v;rw[fD,if_neg (Ne.symm ho.1),h1]
def Av(E:List (Nat×AV))(i n c j:Nat):Bool:=(E.all λp=>p.1 != i&&p.1 != c&&p.1 != j&&p.1 != n)&&n != i&&n != c&&n != j&&i != c&&c != j&&i != j
def zm{α:Type}{p q:α->Bool}{l:List α}(h:l.all p=true)(hpq:∀x,p x=true->q x=true):l.all q=true:=by
 rw[bK]at *
 exact λx hx=>hpq x (h x hx)
def fi{α:Type}{j:Nat}{N:Nat}(E:Nat->α->List (Nat×AV))(J:Nat->α->AH->Prop)(a0:α)(ok:∀k a,Av (E k a) i n c j=true)(hN:N<2^62)
 (h0:Held ((i,.int .i64 0)::(n,.int .i64 (N:Nat))::E 0 a0) ts) (hJ:J 0 a0 h)
 (hs:∀k a ts h,k<N->J k a h->Held ((i,.int .i64 (k:Nat))::(n,.int .i64 (N:Nat))::E k a) ts ->
  W P body ts h (λts' h'=>∃a',J (k+1) a' h'/\Held ((i,.int .i64 (k:Nat))::(n,.int .i64 (N:Nat))::E (k+1) a') ts') Kr
    (λx ts' h'=>(x=B1->∃a',J (k+1) a' h'/\Held ((i,.int .i64 (k:Nat))::(n,.int .i64 (N:Nat))::E (k+1) a') ts')/\(x≠B1->(x=B->Kn ts' h')/\(x≠B->Kx x ts' h'))))
 (hk:∀a ts h,J N a h->Held (E N a) ts->Kn ts h) :
 W P (.block B (.loop (.seq (.reg [⟨some c,.bin .lss .no (.t i) (.t n),none,none,[]⟩]) (.seq (.cond (.t c) .skip (.exit B)) (.seq (.block B1 body) (.reg [⟨some j,.bin .add .no (.t i) (.c (.int .i64 1)),none,none,[]⟩,⟨some i,.mov (.t j),none,none,[]⟩])))))) ts h Kn Kr Kx:=by
 have ok1:∀k a,((E k a).all λp=>p.1 != c)=true:=λk a=>by
  have:=ok k a;simp only[Av,aU]at this;exact zm this.1.1.1.1.1.1 λx hx=>by simp only[aU]at hx;exact hx.1.1.2
 have ok2:∀k a,((E k a).all λp=>p.1 != i)=true:=λk a=>by
  have:=ok k a;simp only[Av,aU]at this;exact zm this.1.1.1.1.1.1 λx hx=>by simp only[aU]at hx;exact hx.1.1.1
 have ok3:∀k a,((E k a).all λp=>p.1 != j)=true:=λk a=>by
  have:=ok k a;simp only[Av,aU]at this;exact zm this.1.1.1.1.1.1 λx hx=>by simp only[aU]at hx;exact hx.1.2
 have ok0:=ok 0 a0;simp only[Av,aU,bne_iff_ne,ne_eq]at ok0;obtain⟨⟨⟨⟨⟨⟨_,o1⟩,o2⟩,o3⟩,o4⟩,o5⟩,o6⟩:=ok0;obtain⟨h01,h02,h03⟩:=h0;refine dl (hG (λm ts h=>∃k a,m=N-k/\k<=N/\J k a h/\db ts i=.int .i64 (k:Nat)/\db ts n=.int .i64 (N:Nat)/\Held (E k a) ts) ?_ (n:=N) ⟨0,a0,rfl,dv _,hJ,h01,h02,h03⟩);rintro m ts h ⟨k,a,rfl,hk1,hj,e1,e2,e3⟩;refine ae (ak (ts':=qV ts c (.bool (decide (k<N)))) (h':=h) (by simp only[ul,sy,oN,zd,sD,yQ,oK,sT,vw,aL,Jk,e1,e2,Eo,aQ,bE]) ?_);refine ae (cF (t:=decide (k<N)) (by rw[Jk,fD,if_pos rfl]) (λq=>?_) λq=>?_)
 .have q:k<N:=aY q;refine bz (ae (dl ?_));have hb:=hs k a (qV ts c (.bool (decide (k<N)))) h q hj ⟨by rw[fD,if_neg (Ne.symm o4),e1],by rw[fD,if_neg (Ne.symm o2),e2],Held.put (ok1 k a) e3⟩
  have key:∀ts' h',(∃a',J (k+1) a' h'/\Held ((i,.int .i64 (k:Nat))::(n,.int .i64 (N:Nat))::E (k+1) a') ts') ->
   W P (.reg [⟨some j,.bin .add .no (.t i) (.c (.int .i64 1)),none,none,[]⟩,⟨some i,.mov (.t j),none,none,[]⟩]) ts' h' (λts' h'=>∃m,m<N-k/\∃k a,m=N-k/\k<=N/\J k a h'/\db ts' i=.int .i64 (k:Nat)/\db ts' n=.int .i64 (N:Nat)/\Held (E k a) ts') Kr (λi ts h=>(i=B->Kn ts h)/\(i≠B->Kx i ts h)):=by
   rintro ts' h' ⟨a',f4,f1,f2,f3⟩;have f1:db ts' i=.int .i64 (k:Nat):=f1;have f2:db ts' n=.int .i64 (N:Nat):=f2;have w1:IntKind.i64.wrap (((k:Nat):Int)+1)=((k+1:Nat):Int):=fU om om;refine ak (ts':=qV (qV ts' j (.int .i64 ((k+1:Nat):Int))) i (.int .i64 ((k+1:Nat):Int))) (h':=h') (by simp only[ul,sy,oN,zd,sD,yQ,oK,sT,vw,aL,Jk,ev_c,f1,Ep,w1,aQ,fD,if_true]) ?_;exact⟨N-(k+1),om,k+1,a',rfl,om,f4,by rw[fD,if_pos rfl],by rw[fD,if_neg (Ne.symm o1),fD,if_neg (Ne.symm o3),f2],Held.put (ok2 _ _) (Held.put (ok3 _ _) f3)⟩
  refine kO body hb (λts' h' q=>key ts' h' q) (λ_ _ q=>q) λx ts' h' q=>⟨λe=>key ts' h' (q.1 e),λe=>⟨λe2=>(q.2 e).1 e2,λe2=>(q.2 e).2 e2⟩⟩
 .have q:¬k<N:=bo q;have e:k=N:=om;subst e;exact fM ⟨λ_=>hk a _ _ hj (Held.put (ok1 _ _) e3),λe=>absurd rfl e⟩
def dX{α:Type}{T inc:List ROper}{N:Nat}(E:Nat->α->List (Nat×AV))(J:Nat->α->AH->Prop)(a0:α)
 (h0:Held (E 0 a0) ts) (hJ:J 0 a0 h)
 (hT:∀k a ts h,k<=N->J k a h->Held (E k a) ts->∃ts',lF h.next T (some (ts,h))=some (ts',h)/\db ts' c=.bool (decide (k<N))/\Held (E k a) ts')
 (hs:∀k a ts h,k<N->J k a h->Held (E k a) ts ->
  W P body ts h (λts' h'=>∃a',J (k+1) a' h'/\∃ts'',lF h'.next inc (some (ts',h'))=some (ts'',h')/\Held (E (k+1) a') ts'') Kr
    (λx ts' h'=>(x=B1->∃a',J (k+1) a' h'/\∃ts'',lF h'.next inc (some (ts',h'))=some (ts'',h')/\Held (E (k+1) a') ts'')/\(x≠B1->(x=B->Kn ts' h')/\(x≠B->Kx x ts' h'))))
 (hk:∀a ts h,J N a h->Held (E N a) ts->Kn ts h) :
 W P (.block B (.loop (.seq (.seq (.reg T) (.cond (.t c) .skip (.exit B))) (.seq (.block B1 body) (.reg inc))))) ts h Kn Kr Kx:=by
 refine dl (hG (λm ts h=>∃k a,m=N-k/\k<=N/\J k a h/\Held (E k a) ts) ?_ (n:=N) ⟨0,a0,rfl,dv _,hJ,h0⟩);rintro m ts h ⟨k,a,rfl,hk1,hj,e3⟩;obtain⟨ts1,t1,t2,t3⟩:=hT k a ts h hk1 hj e3;refine ae (ae (ak t1 ?_));refine cF (t:=decide (k<N)) (by rw[Jk,t2]) (λq=>?_) λq=>?_
 .have q:k<N:=aY q;refine bz (ae (dl ?_));have hb:=hs k a ts1 h q hj t3
  have key:∀ts' h',(∃a',J (k+1) a' h'/\∃ts'',lF h'.next inc (some (ts',h'))=some (ts'',h')/\Held (E (k+1) a') ts'') ->
   W P (.reg inc) ts' h' (λts' h'=>∃m,m<N-k/\∃k a,m=N-k/\k<=N/\J k a h'/\Held (E k a) ts') Kr (λi ts h=>(i=B->Kn ts h)/\(i≠B->Kx i ts h)):=by
   rintro ts' h' ⟨a',f4,ts'',f1,f3⟩;exact ak f1 ⟨N-(k+1),om,k+1,a',rfl,om,f4,f3⟩
  refine kO body hb (λts' h' q=>key ts' h' q) (λ_ _ q=>q) λx ts' h' q=>⟨λe=>key ts' h' (q.1 e),λe=>⟨λe2=>(q.2 e).1 e2,λe2=>(q.2 e).2 e2⟩⟩
 .have q:¬k<N:=bo q;have e:k=N:=om;subst e;exact fM ⟨λ_=>hk a _ _ hj t3,λe=>absurd rfl e⟩
def Kd{c:RC}(N:Nat)(I:Nat->Tm->AH->Prop)(hs:∀k ts h,k<=N->I k ts h->W P c ts h (λts' h'=>k<N/\I (k+1) ts' h') Kr Kx)(hi:I 0 ts h):W P (.loop c) ts h Kn Kr Kx:=by
 refine hG (λm ts h=>∃k,m=N-k/\k<=N/\I k ts h) ?_ (n:=N) ⟨0,rfl,dv _,hi⟩;rintro m ts h ⟨k,rfl,hk,hi⟩;exact kO c (hs k ts h hk hi) (λts' h' q=>⟨N-(k+1),om,k+1,rfl,om,q.2⟩) (λ_ _ q=>q) λ_ _ _ q=>q
def W.rangeF{P:RP}{fn:FuncId}{p:List Bool}{f:RO}{ps:List Nat}{asg body:RC}{ts:Tm}{h:AH}{Kn Kr:Tm->AH->Prop}{Kx:Nat->Tm->AH->Prop}{g:FuncId}{caps:List AV}{Q:AV->AH->Prop}(hf:RO.ev ts f=.fn g caps)
 (hc:C P g (.yld h.next::caps) (h.new (.lp fn p ts ps .ready none)) Q) (he:∀v h',Q v h'->(∃f1 p1 t1 q1,h'.get h.next=some (.lp f1 p1 t1 q1 .ready none))/\∀f1 p1 t1 q1,Kn ts (h'.put h.next (.lp f1 p1 t1 q1 .over none))):W P (.rangeF fn p f ps asg body) ts h Kn Kr Kx:=by
 refine BS.rangeF hf hc λv h' ⟨v',h'',e,q⟩=>?_;cases e;obtain⟨⟨f1,p1,t1,q1,hg⟩,hk⟩:=he v h' q;exact⟨f1,p1,t1,q1,.ready,none,hg,by decide,hk f1 p1 t1 q1⟩
def Y.round{P:RP}{b:Nat}{args:List AV}{h:AH}{fn:FuncId}{p:List Bool}{tl:Tm}{ps:List Nat}{rf:RF}{f:RO}{asg body:RC}{Q:AV->AH->Prop}(hg:h.get b=some (.lp fn p tl ps .ready none))(hl:args.length=ps.length)(hP:P fn=some rf)(hn:rf.body.node p=some (.rangeF fn p f ps asg body))
 (hw:W P asg (mB tl ps args) h (λts1 h1=>h1=h/\W P body ts1 (h.put b (.lp fn p tl ps .busy none)) (λ_ h2=>h2.get b=some (.lp fn p tl ps .busy none)/\Q (.bool true) (h2.put b (.lp fn p tl ps .ready none))) (λ_ _=>False) λ_ _ _=>False) (λ_ _=>False) λ_ _ _=>False):Y P b args h Q:=by
 refine BS.round hg hl hP hn (lm _ hw) ?_ (S2:=fin (λ_ h2=>h2.get b=some (.lp fn p tl ps .busy none)/\Q (.bool true) (h2.put b (.lp fn p tl ps .ready none))) (λ_ _=>False) λ_ _ _=>False) ?_ ?_
 .intro o ho;cases o with
  |norm ts1 h1=>obtain⟨rfl,_⟩:=ho;exact⟨_,_,_,_,_,_,rfl,hg⟩
  |exit=>exact ho.elim
  |ret=>exact ho.elim
  |val=>exact ho.elim
 .intro ts1 h1 f1 p1 tl1 ps1 ho hg1;obtain⟨rfl,hw2⟩:=ho;rw[hg]at hg1;simp only[aa,AO.lp.injEq,and_true]at hg1;obtain⟨rfl,rfl,rfl,rfl⟩:=hg1;exact lm _ hw2
 .intro o ho;cases o with
  |norm ts2 h2=>exact⟨_,_,_,_,ho.1,_,_,rfl,ho.2⟩
  |exit=>exact ho.elim
  |ret=>exact ho.elim
  |val=>exact ho.elim
structure Kp(S:Nat->Prop)(h h':AH):Prop where
 nx:h.next<=h'.next
 gt:∀c,c<h.next->¬S c->h'.get c=h.get c
 ty:∀c,c<h.next->h'.tyOf c=h.tyOf c
def Kp.refl{S:Nat->Prop}{h:AH}:Kp S h h:=⟨ab _,λ_ _ _=>rfl,λ_ _=>rfl⟩
def Kp.trans{S T:Nat->Prop}{h h1 h2:AH}(a:Kp S h h1)(b:Kp T h1 h2)(hs:∀c,c<h.next->T c->S c):Kp S h h2 :=
 ⟨cu a.nx b.nx,λc hc hn=>(b.gt c (du hc a.nx) λt=>hn (hs c hc t)).trans (a.gt c hc hn),λc hc=>(b.ty c (du hc a.nx)).trans (a.ty c hc)⟩
def Ext.kp(a:Ext n h h')(hn:h.next<=n):Kp S h h':=⟨a.nx,λc hc _=>a.gt c om,λc hc=>a.ty c om⟩
def Kp.mono{T:Nat->Prop}(a:Kp S h h')(hs:∀c,c<h.next->S c->T c):Kp T h h':=⟨a.nx,λc hc hn=>a.gt c hc λs=>hn (hs c hc s),a.ty⟩
def Upd.kp{s:Nat}(a:Upd h h' s o)(hs:S s):Kp S h h':=⟨by rw[a.nx];exact ab _,λc _ hn=>a.ne λe=>hn (e▸hs),λc _=>a.ty c⟩
def Off(S:Nat->Prop):AV->Prop
 |.sl b _ _ _=>¬S b
 |_=>True
def Sl.kp(hs:Sl h e v xs)(hk:Kp S h h')(ho:Off S v):Sl h' e v xs :=
 hs.cong λb o n c hv=>hk.gt b (hs.lt hv) (by subst hv;exact ho)
def tb(lo hi mx:Option AV)(len cap:Nat):Option (Nat×Nat×Nat) :=
 match (match mx with|some v=>bnd v cap|none=>some cap)with
 |some m=>match (match hi with | some v=>bnd v m | none=>if mx.isSome then none else some len)with
   |some h=>match (match lo with | some v=>bnd v h | none=>some 0)with
     |some l=>some (l,h,m)
     |none=>none
   |none=>none
 |none=>none
def slV(h:AH)(e:Nat)(x:AV)(lo hi mx:Option AV):Option AV :=
 match x with
 |.nils=>(tb lo hi mx 0 0).map λ_=>.nils
 |.emp=>(tb lo hi mx 0 0).map λ_=>.emp
 |.sl b o n c=>match h.get b with
   |some (.cells _ e' _)=>if e'=e then(tb lo hi mx n c).map λr=>.sl b (if r.2.2=r.1 then o else o+r.1*e) (r.2.1-r.1) (r.2.2-r.1)else none
   |_=>none
 |_=>none
def dQ{x:AV}{lo hi mx:Option RO}:BW ev h e x lo hi mx=slV h e x (lo.map ev) (hi.map ev) (mx.map ev):=by
 cases lo<;>cases hi<;>cases mx<;>rfl
def iU{k:IntKind}{n y:Nat}(h:n<=y):bnd (.int k (n:Nat)) y=some n:=by
 simp only[bnd];rw[if_pos ⟨om,om⟩];simp
def InB(S:Nat->Prop):AV->Prop
 |.sl b _ _ _=>S b
 |_=>True
def Sl.part(hs:Sl h e v xs){lo hi:Nat}(h1:lo<=hi)(h2:hi<=xs.length) :
 ∃v',slV h e v (some (.int .i64 (lo:Nat))) (some (.int .i64 (hi:Nat))) none=some v'/\Sl h e v' ((xs.drop lo).take (hi-lo))/\(∀S,InB S v->InB S v')/\∀S,Off S v->Off S v':=by
 rcases hs with⟨rfl,hn⟩|⟨b,o,c,cs,ro,rfl,hg,hc,hle,hx⟩
 .simp only[bm,Nat.le_zero]at h2;subst h2;have:lo=0:=om;subst this;rcases hn with rfl|rfl
  .exact⟨.nils,rfl,.inl ⟨by simp,.inl rfl⟩,λ_ _=>trivial,λ_ _=>trivial⟩
  .exact⟨.emp,rfl,.inl ⟨by simp,.inr rfl⟩,λ_ _=>trivial,λ_ _=>trivial⟩
 .refine⟨.sl b (if c=lo then o else o+lo*e) (hi-lo) (c-lo),?_,.inr ⟨b,if c=lo then o else o+lo*e,c-lo,cs,ro,?_,hg,?_,?_,?_⟩,λ_ q=>q,λ_ q=>q⟩
  .simp only[slV,hg,if_true,tb,iU (show hi<=c by omega),iU h1,aQ]
  .simp only[aS,cI];rw[cD om]
  .simp only[aS,cI];omega
  .simp only[aS,cI];rw[cD om];have:lo*e+(hi-lo)*e<=xs.length*e:=by rw[<-dF];exact fW _ om
   split
   .omega
   .omega
  .intro i x hi';rw[cS]at hi';split at hi'
   .rename_i hlt
    rw[fS]at hi';obtain⟨y1,y2⟩:=hx _ _ hi';have e1:(lo+i)*e=lo*e+i*e:=dF _ _ _;rw[if_neg om];rw[e1,<-fF]at y1 y2;exact⟨y1,y2⟩
   .cases hi'
def Sl.upto(hs:Sl h e v xs){hi:Nat}(h2:hi<=xs.length) :
 ∃v',slV h e v none (some (.int .i64 (hi:Nat))) none=some v'/\Sl h e v' (xs.take hi)/\(∀S,InB S v->InB S v')/\∀S,Off S v->Off S v':=by
 obtain⟨v',a,b,c⟩:=hs.part (dv hi) h2;refine⟨v',?_,by simpa using b,c⟩;rw[<-a];have:∀y,(match (some (AV.int .i64 ((0:Nat):Int)):Option AV)with|some v=>bnd v y|none=>some 0)=some 0:=λy=>iU (dv y);unfold slV tb;simp only[this]
def Sl.from(hs:Sl h e v xs){lo:Nat}(h2:lo<=xs.length) :
 ∃v',slV h e v (some (.int .i64 (lo:Nat))) none none=some v'/\Sl h e v' (xs.drop lo)/\(∀S,InB S v->InB S v')/\∀S,Off S v->Off S v':=by
 obtain⟨v',a,b,c⟩:=hs.part h2 (ab _);refine⟨v',?_,?_,c⟩
 .rw[<-a];rcases hs with⟨rfl,rfl|rfl⟩|⟨b,o,cc,cs,ro,rfl,hg,hc,hle,hx⟩
  .rfl
  .rfl
  .unfold slV tb;simp only[iU hc,jC,bT,if_false]
 .rwa [dx (by simp)]at b
def Sl.src(hs:Sl h e v xs):fz h e v=some (xs.length,xs.flatten)/\xs.flatten.length=xs.length*e:=by
 rcases hs with⟨rfl,rfl|rfl⟩|⟨b,o,c,cs,ro,rfl,hg,hc,hle,hx⟩
 .exact⟨rfl,by simp⟩
 .exact⟨rfl,by simp⟩
 .have key:∀(xs:List (List AV)) (o:Nat),(∀i x,xs[i]?=some x->o+i*e+e<=cs.length/\(cs.drop (o+i*e)).take e=x)->(xs≠[]->o+xs.length*e<=cs.length)/\(cs.drop o).take (xs.length*e)=xs.flatten/\xs.flatten.length=xs.length*e:=by
   intro xs;induction xs with
   |nil=>intro o _;exact⟨λq=>absurd rfl q,by simp,by simp⟩
   |cons x r ih =>
     intro o hx;obtain⟨a1,a2⟩:=hx 0 x rfl;simp only[pV,eB]at a1 a2;obtain⟨b1,b2,b3⟩:=ih (o+e) λi y hy=>by
      have:=hx (i+1) y (by simpa using hy);rw[show o+(i+1)*e=o+e+i*e by rw[dF];omega]at this;exact this
     have hxl:x.length=e:=by rw[<-a2,aS,cI];omega
     have e1:(x::r).length*e=e+r.length*e:=by simp only[bd,dF];omega
     refine⟨λ_=>?_,?_,?_⟩
     .by_cases hr:r=[]
      .subst hr;simp only[bd,bm,bN,oH];exact a1
      .have:=b1 hr;omega
     .rw[e1,iJ,List.take_add,a2,NX,b2]
     .rw[e1,iJ,aJ,hxl,b3]
  obtain⟨k1,k2,k3⟩:=key xs o hx;refine⟨?_,k3⟩;simp only[fz];rw[aR hg,if_pos hle,k2];rfl
def G.gyield{l l2:List ROper}{s:Option (Tm×AH)}{K:Tm->AH->Prop}{d:Option Nat}{args:List RO}{g:Option (Nat×Bool)}{nm:Option Nat}{vs:List AV}{Q:AV->AH->Prop}(n:Nat)
 (hs:lF b (l.take n) s=some (ts,h)) (hd:l.drop n=⟨d,.callv x args,g,nm,[]⟩::l2) (hw:wanted ts g=some true) (hx:RO.ev ts x=.yld c) (ha:args.map (RO.ev ts)=vs) (hc:Y P c vs h Q)
 (hk:∀v h',Q v h'->G P b l2 (some (dH ts d v,h')) K):G P b l s K:=by
 subst ha;rw[<-cH n l];refine tO ?_;rw[hs,hd];exact G.yield hw hx (hc.mono λv h' q=>⟨rfl,hk v h' q⟩)
def dR{ps:List (Nat×Nat×RO)}(hg:h.get n=some .resv):iV ev h n (.mksl z e k ps)=(fill ev (cq z k) ps).map λcs=>(.sl n 0 k k,h.put n (.cells cs e false)):=by
 rw[lU hg];simp only[lay];cases fill ev (cq z k) ps<;>rfl
def LG(z:List AV)(bytes:Nat)(l c:AV):Option (Nat×Nat×List AV) :=
 match l,c with
 |.int _ l,.int _ c=>if 0<=l/\l<=c/\c<bf/\c*bytes<bf then some (l.toNat,c.toNat,cq z c.toNat)else none
 |_,_=>none
def uT{n:Nat}(h1:n<bf)(h2:n*bytes<bf):LG z bytes (.int .i64 (n:Nat)) (.int .i64 (n:Nat))=some (n,n,cq z n):=by
 simp only[LG];rw[if_pos ⟨om,om,om,by rw[<-Int.natCast_mul];omega⟩];simp
def lN{n:Nat}(h1:n<bf)(h2:n*bytes<bf):wg h z e bytes (.int .i64 (n:Nat)) (.int .i64 (n:Nat))=some (.sl h.next 0 n n,h.new (.cells (cq z n) e false)):=by
 simp only[wg];rw[if_pos ⟨om,om,om,by rw[<-Int.natCast_mul];omega⟩];simp
def mW{l c:RO}(hg:h.get n=some .resv):iV ev h n (.mks z e b l c)=(LG z b (ev l) (ev c)).map λp=>(.sl n 0 p.1 p.2.1,h.put n (.cells p.2.2 e false)):=by
 rw[lU hg];simp only[lay,LG];cases ev l<;>cases ev c<;>try rfl
 rename_i k1 x k2 y
 by_cases q:0<=x/\x<=y/\y<bf/\y*b<bf
 .simp only[if_pos q];rfl
 .simp only[if_neg q];rfl
def MB(k:Nat)(x:AV):Option (List AV):=if x.cells.length=k then some x.cells else none
def xF(hg:h.get n=some .resv):iV ev h n (.box e k x)=(MB k (ev x)).map λcs=>(.ptr n 0,h.put n (.cells cs e false)):=by
 rw[lU hg];simp only[lay,MB];by_cases q:(ev x).cells.length=k
 .simp only[if_pos q];rfl
 .simp only[if_neg q];rfl
def BA(h:cs.length=k):MB k (.agg cs)=some cs:=by
 simp only[MB,xS,h,if_true]
def ff:(h.keep 1).get h.next=some .resv:=by
 rw[AH.keep_get,if_pos ⟨om,om⟩]
def fO:Ext h.next h ((h.keep 1).put h.next o)/\((h.keep 1).put h.next o).get h.next=some o/\((h.keep 1).put h.next o).next=h.next+1/\∀c,c<h.next->((h.keep 1).put h.next o).get c=h.get c:=by
 have hn:(h.keep 1).next=h.next+1:=AH.keep_next 1 h;have k:∀c,c<h.next->((h.keep 1).put h.next o).get c=h.get c:=λc hc=>by
  rw[AH.get_put _ _ _ _ (by rw[hn];omega),if_neg om,AH.keep_get,if_neg om]
 exact⟨⟨by rw[AH.next_put,hn];omega,k,λ_ _=>rfl⟩,by rw[AH.get_put _ _ _ _ (by rw[hn];omega),if_pos rfl],by rw[AH.next_put,hn],k⟩
def gD(hl:z.length=cs.length):∃h1,bP (h.new (.cells z e false)) h.next 0 cs=some h1/\Ext h.next h h1/\h1.get h.next=some (.cells cs e false)/\h1.next=h.next+1:=by
 have g:(h.new (.cells z e false)).get h.next=some (.cells z e false):=by rw[AH.get_new,if_pos rfl]
 refine⟨(h.new (.cells z e false)).put h.next (.cells cs e false),?_,(Oe (ab _)).trans (Og (ab _)),(Oi g).get,rfl⟩;rw[dw g,if_pos om];congr 3;simp only[dG,eD,cr,bN];rw[dy om,bF]
def AH.keep_tyOf:∀(k:Nat) (h:AH) {c:Nat},(h.keep k).tyOf c=h.tyOf c
 |0,_,_=>rfl
 |k+1,h,c=>by
   show((h.new .resv).keep k).tyOf c=_;rw[AH.keep_tyOf k (h.new .resv)];rfl
def eQ{x:AV}:∀n:Nat,cq [x] n=List.replicate n x
 |0=>rfl
 |n+1=>by rw[cq,eQ n];rfl
def ut(hi:i<cs.length):dG cs i [v]=cs.set i v:=by
 refine cV λj=>?_;rw[fE (by simp only[bd,bm];omega),cU];simp only[bd,bm];by_cases e:i=j
 .subst e;rw[if_pos ⟨om,om⟩,if_pos rfl,if_pos hi,dV];rfl
 .rw[if_neg om,if_neg e]
def bq(hg:h.get b=some (.cells cs e ro))(hi:cs[i]?=some v):ai h b i 1=some [v]:=by
 obtain⟨hl,h2⟩:=au.1 hi;rw[aR hg,if_pos om,cj hl,h2];rfl
def ew(hg:h.get b=some (.cells cs e false))(hi:i<cs.length):bP h b i [v]=some (h.put b (.cells (cs.set i v) e false)):=by
 rw[dw hg,if_pos (by simp only[bd,bm];omega),ut hi]
def lY{kn:Nat}{ops:List ROper}{ts':Tm}(hs:lF h.next ops (some (ts,h.keep kn))=some (ts',h'))(hk:Kn ts' h'):W P (.regK kn ops) ts h Kn Kr Kx:=pw (bI hs hk)
def Sl.row{h:AH}{b n c:Nat}{vs:List AV}{ro:Bool}(hg:h.get b=some (.cells vs 1 ro))(hn:vs.length=n)(hc:n<=c):Sl h 1 (.sl b 0 n c) (vs.map λx=>[x]):=by
 subst hn;refine .inr ⟨b,0,c,vs,ro,by rw[ah],hg,by rw[ah];exact hc,by rw[ah];omega,λi x hi=>?_⟩;rw[aV]at hi;obtain⟨y,hy,rfl⟩:=aG.1 hi;obtain⟨hl,h2⟩:=au.1 hy;refine⟨om,?_⟩;rw[bN,aP,cj hl,h2];rfl
def lT{ts:Tm}{f:FuncId}:RO.ev ts (.fu f)=.fn f []:=rfl
def GY{L k:Nat}(hg:h.get b=some (.cells cs e ro))(hk:k<c)(hL:L<=c)(hkL:k<=L):slV h e (.sl b 0 L c) (some (.int .i64 (k:Nat))) none none=some (.sl b (k*e) (L-k) (c-k)):=by
 have h1:=iU (k:=.i64) hL;have h2:=iU (k:=.i64) hkL;simp only[slV,hg,if_true,tb,h2,aQ,jC,bT,if_false];rw[if_neg om,bN]
def NR{o:Nat}{d:Array Int}(hg:h.get b=some (jT cs o d))(hr:o+d.size<=cs.length)(hc:d.size<=c):SlI h (.sl b o d.size c) d.toList:=by
 have hr':o+(iR d).length<=cs.length:=by rw[im];exact hr
 have hl:=iK hr';refine .inr ⟨b,o,c,_,false,by rw[ah];rfl,hg,by rw[ah];exact hc,by rw[ah,hl];have:d.toList.length=d.size:=rfl;omega,λi x hi=>?_⟩;rw[aV]at hi;obtain⟨y,hy,rfl⟩:=aG.1 hi;have hil:i<d.size:=(au.1 hy).1;have hk:(dG cs o (iR d))[o+i]?=some (.int .i64 y):=by
  rw[fE hr',if_pos ⟨om,by rw[im];omega⟩,show o+i-o=i by omega];unfold iR;rw[aV,hy];rfl
 obtain⟨hlt,hk2⟩:=au.1 hk;refine⟨om,?_⟩;rw[aP,cj hlt,hk2];rfl
def H1(f0:q0)(h:q0->p:=by intro f0;simp only[hl,am,aL,simprocAttr,f0]):p:=h f0
def H2(f0:q0)(f1:q1)(h:q0->q1->p:=by intro f0 f1;simp only[hl,am,aL,simprocAttr,f0,f1]):p:=h f0 f1
def H3(f0:q0)(f1:q1)(f2:q2)(h:q0->q1->q2->p:=by intro f0 f1 f2;simp only[hl,am,aL,simprocAttr,f0,f1,f2]):p:=h f0 f1 f2
def H4(f0:q0)(f1:q1)(f2:q2)(f3:q3)(h:q0->q1->q2->q3->p:=by intro f0 f1 f2 f3;simp only[hl,am,aL,simprocAttr,f0,f1,f2,f3]):p:=h f0 f1 f2 f3
def H5(f0:q0)(f1:q1)(f2:q2)(f3:q3)(f4:q4)(h:q0->q1->q2->q3->q4->p:=by intro f0 f1 f2 f3 f4;simp only[hl,am,aL,simprocAttr,f0,f1,f2,f3,f4]):p:=h f0 f1 f2 f3 f4
def H6(f0:q0)(f1:q1)(f2:q2)(f3:q3)(f4:q4)(f5:q5)(h:q0->q1->q2->q3->q4->q5->p:=by intro f0 f1 f2 f3 f4 f5;simp only[hl,am,aL,simprocAttr,f0,f1,f2,f3,f4,f5]):p:=h f0 f1 f2 f3 f4 f5
def H7(f0:q0)(f1:q1)(f2:q2)(f3:q3)(f4:q4)(f5:q5)(f6:q6)(h:q0->q1->q2->q3->q4->q5->q6->p:=by intro f0 f1 f2 f3 f4 f5 f6;simp only[hl,am,aL,simprocAttr,f0,f1,f2,f3,f4,f5,f6]):p:=h f0 f1 f2 f3 f4 f5 f6
def H8(f0:q0)(f1:q1)(f2:q2)(f3:q3)(f4:q4)(f5:q5)(f6:q6)(f7:q7)(h:q0->q1->q2->q3->q4->q5->q6->q7->p:=by intro f0 f1 f2 f3 f4 f5 f6 f7;simp only[hl,am,aL,simprocAttr,f0,f1,f2,f3,f4,f5,f6,f7]):p:=h f0 f1 f2 f3 f4 f5 f6 f7
def H10(f0:q0)(f1:q1)(f2:q2)(f3:q3)(f4:q4)(f5:q5)(f6:q6)(f7:q7)(f8:q8)(f9:q9)(h:q0->q1->q2->q3->q4->q5->q6->q7->q8->q9->p:=by intro f0 f1 f2 f3 f4 f5 f6 f7 f8 f9;simp only[hl,am,aL,simprocAttr,f0,f1,f2,f3,f4,f5,f6,f7,f8,f9]):p:=h f0 f1 f2 f3 f4 f5 f6 f7 f8 f9
def H12{q10 q11:Prop}(f0:q0)(f1:q1)(f2:q2)(f3:q3)(f4:q4)(f5:q5)(f6:q6)(f7:q7)(f8:q8)(f9:q9)(f10:q10)(f11:q11)(h:q0->q1->q2->q3->q4->q5->q6->q7->q8->q9->q10->q11->p:=by intro f0 f1 f2 f3 f4 f5 f6 f7 f8 f9 f10 f11;simp only[hl,am,aL,simprocAttr,f0,f1,f2,f3,f4,f5,f6,f7,f8,f9,f10,f11]):p:=h f0 f1 f2 f3 f4 f5 f6 f7 f8 f9 f10 f11
def Hi0(h:p:=by simp only[hl,am,aL,simprocAttr,bV]):p:=h
def Hi1(f0:q0)(h:q0->p:=by intro f0;simp only[hl,am,aL,simprocAttr,bV,f0]):p:=h f0
def Hi2(f0:q0)(f1:q1)(h:q0->q1->p:=by intro f0 f1;simp only[hl,am,aL,simprocAttr,bV,f0,f1]):p:=h f0 f1
def O1(f0:q0)(h:q0->p:=by intro f0;simp only[et,eS,am,aL,↓reduceIte,Nat.reduceEqDiff,Int.reduceEq,Nat.reduceAdd,Nat.reduceLeDiff,reduceCtorEq,f0]):p:=h f0
def O2(f0:q0)(f1:q1)(h:q0->q1->p:=by intro f0 f1;simp only[et,eS,am,aL,↓reduceIte,Nat.reduceEqDiff,Int.reduceEq,Nat.reduceAdd,Nat.reduceLeDiff,reduceCtorEq,f0,f1]):p:=h f0 f1
def O3(f0:q0)(f1:q1)(f2:q2)(h:q0->q1->q2->p:=by intro f0 f1 f2;simp only[et,eS,am,aL,↓reduceIte,Nat.reduceEqDiff,Int.reduceEq,Nat.reduceAdd,Nat.reduceLeDiff,reduceCtorEq,f0,f1,f2]):p:=h f0 f1 f2
def O4(f0:q0)(f1:q1)(f2:q2)(f3:q3)(h:q0->q1->q2->q3->p:=by intro f0 f1 f2 f3;simp only[et,eS,am,aL,↓reduceIte,Nat.reduceEqDiff,Int.reduceEq,Nat.reduceAdd,Nat.reduceLeDiff,reduceCtorEq,f0,f1,f2,f3]):p:=h f0 f1 f2 f3
def O5(f0:q0)(f1:q1)(f2:q2)(f3:q3)(f4:q4)(h:q0->q1->q2->q3->q4->p:=by intro f0 f1 f2 f3 f4;simp only[et,eS,am,aL,↓reduceIte,Nat.reduceEqDiff,Int.reduceEq,Nat.reduceAdd,Nat.reduceLeDiff,reduceCtorEq,f0,f1,f2,f3,f4]):p:=h f0 f1 f2 f3 f4
def O6(f0:q0)(f1:q1)(f2:q2)(f3:q3)(f4:q4)(f5:q5)(h:q0->q1->q2->q3->q4->q5->p:=by intro f0 f1 f2 f3 f4 f5;simp only[et,eS,am,aL,↓reduceIte,Nat.reduceEqDiff,Int.reduceEq,Nat.reduceAdd,Nat.reduceLeDiff,reduceCtorEq,f0,f1,f2,f3,f4,f5]):p:=h f0 f1 f2 f3 f4 f5
def O7(f0:q0)(f1:q1)(f2:q2)(f3:q3)(f4:q4)(f5:q5)(f6:q6)(h:q0->q1->q2->q3->q4->q5->q6->p:=by intro f0 f1 f2 f3 f4 f5 f6;simp only[et,eS,am,aL,↓reduceIte,Nat.reduceEqDiff,Int.reduceEq,Nat.reduceAdd,Nat.reduceLeDiff,reduceCtorEq,f0,f1,f2,f3,f4,f5,f6]):p:=h f0 f1 f2 f3 f4 f5 f6
def Oi0(h:p:=by simp only[et,eS,am,aL,↓reduceIte,Nat.reduceEqDiff,Int.reduceEq,Nat.reduceAdd,Nat.reduceLeDiff,reduceCtorEq,bV]):p:=h
def Oi1(f0:q0)(h:q0->p:=by intro f0;simp only[et,eS,am,aL,↓reduceIte,Nat.reduceEqDiff,Int.reduceEq,Nat.reduceAdd,Nat.reduceLeDiff,reduceCtorEq,bV,f0]):p:=h f0
def Oc:=@AH.keep_tyOf
def Od:=@Sl.row
end Go.Am
