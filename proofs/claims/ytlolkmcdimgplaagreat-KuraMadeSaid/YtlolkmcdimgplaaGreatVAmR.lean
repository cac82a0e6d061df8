/- Loops over rows, ranges over functions; what is kept. -/
import Derived.Test.YtlolkmcdimgplaaGreatVAmL
set_option linter.all false
namespace Go.Am
variable {B B1 b bytes c e i k n:Nat}{Kr:Tm->AH->Prop}{Kx:Nat->Tm->AH->Prop}{P:RP}{S:Nat->Prop}{body:RC}{cs vs z:List AV}{ev:RO->AV}{h h':AH}{o:AO}{p q0 q1 q2 q3 q4 q5 q6 q7 q8 q9:Prop}{ts:Tm}{v:AV}{x:RO}{xs:List (List AV)}
def Held:List (Nat×AV)->Tm->Prop
 |[],_=>True
 |p::r,ts=>aR ts p.1=p.2/\Held r ts
theorem dl{ts:Tm}:Held [] ts=True:=rfl
theorem cG{a:Nat}{v:AV}{r:List (Nat×AV)}{ts:Tm}:Held ((a,v)::r) ts=(aR ts a=v/\Held r ts):=rfl
def hl:=And.intro @cG @dl
theorem Held.put{n:Nat}{x:AV}{ts:Tm}:∀{E:List (Nat×AV)},(E.all λp=>p.1 != n)=true->Held E ts->Held E (qj ts n x)
 |[],_,_=>trivial
 |(a,v)::r,ho,⟨h1,h2⟩=>by
   simp only[rY,aL,bne_iff_ne,ne_eq]at ho;refine⟨?_,Held.put ho.2 h2⟩;show aR (qj ts n x) a=v;rw[fC,if_neg (Ne.symm ho.1),h1]
def zC(E:List (Nat×AV))(i n c j:Nat):Bool:=(E.all λp=>p.1 != i&&p.1 != c&&p.1 != j&&p.1 != n)&&n != i&&n != c&&n != j&&i != c&&c != j&&i != j
theorem yA{α:Type}{p q:α->Bool}{l:List α}(h:l.all p=true)(hpq:∀x,p x=true->q x=true):l.all q=true:=by
 rw[bZ]at *
 exact λx hx=>hpq x (h x hx)
theorem gA{α:Type}{j:Nat}{N:Nat}{Kn:Tm->AH->Prop}(E:Nat->α->List (Nat×AV))(J:Nat->α->AH->Prop)(a0:α)(ok:∀k a,zC (E k a) i n c j=true)(hN:N<2^62)
 (h0:Held ((i,.int .i64 0)::(n,.int .i64 (N:Nat))::E 0 a0) ts) (hJ:J 0 a0 h)
 (hs:∀k a ts h,k<N->J k a h->Held ((i,.int .i64 (k:Nat))::(n,.int .i64 (N:Nat))::E k a) ts ->
  W P body ts h (λts' h'=>∃a',J (k+1) a' h'/\Held ((i,.int .i64 (k:Nat))::(n,.int .i64 (N:Nat))::E (k+1) a') ts') Kr
    (λx ts' h'=>(x=B1->∃a',J (k+1) a' h'/\Held ((i,.int .i64 (k:Nat))::(n,.int .i64 (N:Nat))::E (k+1) a') ts')/\(x≠B1->(x=B->Kn ts' h')/\(x≠B->Kx x ts' h'))))
 (hk:∀a ts h,J N a h->Held (E N a) ts->Kn ts h) :
 W P (.block B (.loop (.seq (.reg [⟨some c,.bin .lss .no (.t i) (.t n),none,none,[]⟩]) (.seq (.cond (.t c) .skip (.exit B)) (.seq (.block B1 body) (.reg [⟨some j,.bin .add .no (.t i) (.c (.int .i64 1)),none,none,[]⟩,⟨some i,.mov (.t j),none,none,[]⟩])))))) ts h Kn Kr Kx:=by
 have ok1:∀k a,((E k a).all λp=>p.1 != c)=true:=λk a=>by
  have:=ok k a;simp only[zC,aL]at this;exact yA this.1.1.1.1.1.1 λx hx=>by simp only[aL]at hx;exact hx.1.1.2
 have ok2:∀k a,((E k a).all λp=>p.1 != i)=true:=λk a=>by
  have:=ok k a;simp only[zC,aL]at this;exact yA this.1.1.1.1.1.1 λx hx=>by simp only[aL]at hx;exact hx.1.1.1
 have ok3:∀k a,((E k a).all λp=>p.1 != j)=true:=λk a=>by
  have:=ok k a;simp only[zC,aL]at this;exact yA this.1.1.1.1.1.1 λx hx=>by simp only[aL]at hx;exact hx.1.2
 have ok0:=ok 0 a0;simp only[zC,aL,bne_iff_ne,ne_eq]at ok0;obtain⟨⟨⟨⟨⟨⟨_,o1⟩,o2⟩,o3⟩,o4⟩,o5⟩,o6⟩:=ok0;obtain⟨h01,h02,h03⟩:=h0;refine cA (fO (λm ts h=>∃k a,m=N-k/\k<=N/\J k a h/\aR ts i=.int .i64 (k:Nat)/\aR ts n=.int .i64 (N:Nat)/\Held (E k a) ts) ?_ (n:=N) ⟨0,a0,rfl,dx _,hJ,h01,h02,h03⟩);rintro m ts h ⟨k,a,rfl,hk1,hj,e1,e2,e3⟩;refine ai (aD (ts':=qj ts c (.bool (decide (k<N)))) (h':=h) (by simp only[tD,qU,nW,ym,qX,yb,nU,rP,uD,aI,Fl,e1,e2,DC,aC,ma]) ?_);refine ai (io (t:=decide (k<N)) (by rw[Fl,fC,if_pos rfl]) (λq=>?_) λq=>?_)
 .have q:k<N:=cE q;refine bQ (ai (cA ?_));have hb:=hs k a (qj ts c (.bool (decide (k<N)))) h q hj ⟨by rw[fC,if_neg (Ne.symm o4),e1],by rw[fC,if_neg (Ne.symm o2),e2],Held.put (ok1 k a) e3⟩
  have key:∀ts' h',(∃a',J (k+1) a' h'/\Held ((i,.int .i64 (k:Nat))::(n,.int .i64 (N:Nat))::E (k+1) a') ts') ->
   W P (.reg [⟨some j,.bin .add .no (.t i) (.c (.int .i64 1)),none,none,[]⟩,⟨some i,.mov (.t j),none,none,[]⟩]) ts' h' (λts' h'=>∃m,m<N-k/\∃k a,m=N-k/\k<=N/\J k a h'/\aR ts' i=.int .i64 (k:Nat)/\aR ts' n=.int .i64 (N:Nat)/\Held (E k a) ts') Kr (λi ts h=>(i=B->Kn ts h)/\(i≠B->Kx i ts h)):=by
   rintro ts' h' ⟨a',f4,f1,f2,f3⟩;have f1:aR ts' i=.int .i64 (k:Nat):=f1;have f2:aR ts' n=.int .i64 (N:Nat):=f2;have w1:IntKind.i64.wrap (((k:Nat):Int)+1)=((k+1:Nat):Int):=fx om om;refine aD (ts':=qj (qj ts' j (.int .i64 ((k+1:Nat):Int))) i (.int .i64 ((k+1:Nat):Int))) (h':=h') (by simp only[tD,qU,nW,ym,qX,yb,nU,rP,uD,aI,Fl,ev_c,f1,DD,w1,aC,fC,if_true]) ?_;exact⟨N-(k+1),om,k+1,a',rfl,om,f4,by rw[fC,if_pos rfl],by rw[fC,if_neg (Ne.symm o1),fC,if_neg (Ne.symm o3),f2],Held.put (ok2 _ _) (Held.put (ok3 _ _) f3)⟩
  refine oJ body hb (λts' h' q=>key ts' h' q) (λ_ _ q=>q) λx ts' h' q=>⟨λe=>key ts' h' (q.1 e),λe=>⟨λe2=>(q.2 e).1 e2,λe2=>(q.2 e).2 e2⟩⟩
 .have q:¬k<N:=of_decide_eq_false q;have e:k=N:=om;subst e;exact fp ⟨λ_=>hk a _ _ hj (Held.put (ok1 _ _) e3),λe=>absurd rfl e⟩
theorem uW{α:Type}{T inc:List ROper}{N:Nat}{Kn:Tm->AH->Prop}(E:Nat->α->List (Nat×AV))(J:Nat->α->AH->Prop)(a0:α)
 (h0:Held (E 0 a0) ts) (hJ:J 0 a0 h)
 (hT:∀k a ts h,k<=N->J k a h->Held (E k a) ts->∃ts',lK h.next T (some (ts,h))=some (ts',h)/\aR ts' c=.bool (decide (k<N))/\Held (E k a) ts')
 (hs:∀k a ts h,k<N->J k a h->Held (E k a) ts ->
  W P body ts h (λts' h'=>∃a',J (k+1) a' h'/\∃ts'',lK h'.next inc (some (ts',h'))=some (ts'',h')/\Held (E (k+1) a') ts'') Kr
    (λx ts' h'=>(x=B1->∃a',J (k+1) a' h'/\∃ts'',lK h'.next inc (some (ts',h'))=some (ts'',h')/\Held (E (k+1) a') ts'')/\(x≠B1->(x=B->Kn ts' h')/\(x≠B->Kx x ts' h'))))
 (hk:∀a ts h,J N a h->Held (E N a) ts->Kn ts h) :
 W P (.block B (.loop (.seq (.seq (.reg T) (.cond (.t c) .skip (.exit B))) (.seq (.block B1 body) (.reg inc))))) ts h Kn Kr Kx:=by
 refine cA (fO (λm ts h=>∃k a,m=N-k/\k<=N/\J k a h/\Held (E k a) ts) ?_ (n:=N) ⟨0,a0,rfl,dx _,hJ,h0⟩);rintro m ts h ⟨k,a,rfl,hk1,hj,e3⟩;obtain⟨ts1,t1,t2,t3⟩:=hT k a ts h hk1 hj e3;refine ai (ai (aD t1 ?_));refine io (t:=decide (k<N)) (by rw[Fl,t2]) (λq=>?_) λq=>?_
 .have q:k<N:=cE q;refine bQ (ai (cA ?_));have hb:=hs k a ts1 h q hj t3
  have key:∀ts' h',(∃a',J (k+1) a' h'/\∃ts'',lK h'.next inc (some (ts',h'))=some (ts'',h')/\Held (E (k+1) a') ts'') ->
   W P (.reg inc) ts' h' (λts' h'=>∃m,m<N-k/\∃k a,m=N-k/\k<=N/\J k a h'/\Held (E k a) ts') Kr (λi ts h=>(i=B->Kn ts h)/\(i≠B->Kx i ts h)):=by
   rintro ts' h' ⟨a',f4,ts'',f1,f3⟩;exact aD f1 ⟨N-(k+1),om,k+1,a',rfl,om,f4,f3⟩
  refine oJ body hb (λts' h' q=>key ts' h' q) (λ_ _ q=>q) λx ts' h' q=>⟨λe=>key ts' h' (q.1 e),λe=>⟨λe2=>(q.2 e).1 e2,λe2=>(q.2 e).2 e2⟩⟩
 .have q:¬k<N:=of_decide_eq_false q;have e:k=N:=om;subst e;exact fp ⟨λ_=>hk a _ _ hj t3,λe=>absurd rfl e⟩
theorem W.rangeF{P:RP}{fn:FuncId}{p:List Bool}{f:RO}{ps:List Nat}{asg body:RC}{ts:Tm}{h:AH}{Kn Kr:Tm->AH->Prop}{Kx:Nat->Tm->AH->Prop}{g:FuncId}{caps:List AV}{Q:AV->AH->Prop}(hf:RO.ev ts f=.fn g caps)
 (hc:C P g (.yld h.next::caps) (h.new (.lp fn p ts ps .ready none)) Q) (he:∀v h',Q v h'->(∃f1 p1 t1 q1,h'.get h.next=some (.lp f1 p1 t1 q1 .ready none))/\∀f1 p1 t1 q1,Kn ts (h'.put h.next (.lp f1 p1 t1 q1 .over none))):W P (.rangeF fn p f ps asg body) ts h Kn Kr Kx:=by
 refine BS.rangeF hf hc λv h' ⟨v',h'',e,q⟩=>?_;cases e;obtain⟨⟨f1,p1,t1,q1,hg⟩,hk⟩:=he v h' q;exact⟨f1,p1,t1,q1,.ready,none,hg,by decide,hk f1 p1 t1 q1⟩
theorem Y.round{P:RP}{b:Nat}{args:List AV}{h:AH}{fn:FuncId}{p:List Bool}{tl:Tm}{ps:List Nat}{rf:RF}{f:RO}{asg body:RC}{Q:AV->AH->Prop}(hg:h.get b=some (.lp fn p tl ps .ready none))(hl:args.length=ps.length)(hP:P fn=some rf)(hn:rf.body.node p=some (.rangeF fn p f ps asg body))
 (hw:W P asg (mP tl ps args) h (λts1 h1=>h1=h/\W P body ts1 (h.put b (.lp fn p tl ps .busy none)) (λ_ h2=>h2.get b=some (.lp fn p tl ps .busy none)/\Q (.bool true) (h2.put b (.lp fn p tl ps .ready none))) (λ_ _=>False) λ_ _ _=>False) (λ_ _=>False) λ_ _ _=>False):Y P b args h Q:=by
 refine BS.round hg hl hP hn (kK _ hw) ?_ (S2:=fin (λ_ h2=>h2.get b=some (.lp fn p tl ps .busy none)/\Q (.bool true) (h2.put b (.lp fn p tl ps .ready none))) (λ_ _=>False) λ_ _ _=>False) ?_ ?_
 .intro o ho;cases o with
  |norm ts1 h1=>obtain⟨rfl,_⟩:=ho;exact⟨_,_,_,_,_,_,rfl,hg⟩
  |exit=>exact ho.elim
  |ret=>exact ho.elim
  |val=>exact ho.elim
 .intro ts1 h1 f1 p1 tl1 ps1 ho hg1;obtain⟨rfl,hw2⟩:=ho;rw[hg]at hg1;simp only[aa,AO.lp.injEq,and_true]at hg1;obtain⟨rfl,rfl,rfl,rfl⟩:=hg1;exact kK _ hw2
 .intro o ho;cases o with
  |norm ts2 h2=>exact⟨_,_,_,_,ho.1,_,_,rfl,ho.2⟩
  |exit=>exact ho.elim
  |ret=>exact ho.elim
  |val=>exact ho.elim
structure Kp(S:Nat->Prop)(h h':AH):Prop where
 nx:h.next<=h'.next
 gt:∀c,c<h.next->¬S c->h'.get c=h.get c
 ty:∀c,c<h.next->h'.tyOf c=h.tyOf c
theorem Kp.refl{S:Nat->Prop}{h:AH}:Kp S h h:=⟨ab _,λ_ _ _=>rfl,λ_ _=>rfl⟩
theorem Kp.trans{S T:Nat->Prop}{h h1 h2:AH}(a:Kp S h h1)(b:Kp T h1 h2)(hs:∀c,c<h.next->T c->S c):Kp S h h2 :=
 ⟨cI a.nx b.nx,λc hc hn=>(b.gt c (cB hc a.nx) λt=>hn (hs c hc t)).trans (a.gt c hc hn),λc hc=>(b.ty c (cB hc a.nx)).trans (a.ty c hc)⟩
theorem Ext.kp(a:Ext n h h')(hn:h.next<=n):Kp S h h':=⟨a.nx,λc hc _=>a.gt c om,λc hc=>a.ty c om⟩
theorem Kp.mono{T:Nat->Prop}(a:Kp S h h')(hs:∀c,c<h.next->S c->T c):Kp T h h':=⟨a.nx,λc hc hn=>a.gt c hc λs=>hn (hs c hc s),a.ty⟩
theorem Upd.kp{s:Nat}(a:Upd h h' s o)(hs:S s):Kp S h h':=⟨by rw[a.nx];exact ab _,λc _ hn=>a.ne λe=>hn (e▸hs),λc _=>a.ty c⟩
def Off(S:Nat->Prop):AV->Prop
 |.sl b _ _ _=>¬S b
 |_=>True
theorem Sl.kp(hs:Sl h e v xs)(hk:Kp S h h')(ho:Off S v):Sl h' e v xs :=
 hs.cong λb o n c hv=>hk.gt b (hs.lt hv) (by subst hv;exact ho)
def pV(lo hi mx:Option AV)(len cap:Nat):Option (Nat×Nat×Nat) :=
 match (match mx with|some v=>bnd v cap|none=>some cap)with
 |some m=>match (match hi with | some v=>bnd v m | none=>if mx.isSome then none else some len)with
   |some h=>match (match lo with | some v=>bnd v h | none=>some 0)with
     |some l=>some (l,h,m)
     |none=>none
   |none=>none
 |none=>none
def slV(h:AH)(e:Nat)(x:AV)(lo hi mx:Option AV):Option AV :=
 match x with
 |.nils=>(pV lo hi mx 0 0).map λ_=>.nils
 |.emp=>(pV lo hi mx 0 0).map λ_=>.emp
 |.sl b o n c=>match h.get b with
   |some (.cells _ e' _)=>if e'=e then(pV lo hi mx n c).map λr=>.sl b (if r.2.2=r.1 then o else o+r.1*e) (r.2.1-r.1) (r.2.2-r.1)else none
   |_=>none
 |_=>none
theorem dY{x:AV}{lo hi mx:Option RO}:Ed ev h e x lo hi mx=slV h e x (lo.map ev) (hi.map ev) (mx.map ev):=by
 cases lo<;>cases hi<;>cases mx<;>rfl
theorem gJ{k:IntKind}{n y:Nat}(h:n<=y):bnd (.int k (n:Nat)) y=some n:=by
 simp only[bnd];rw[if_pos ⟨om,om⟩];simp
def InB(S:Nat->Prop):AV->Prop
 |.sl b _ _ _=>S b
 |_=>True
theorem Sl.part(hs:Sl h e v xs){lo hi:Nat}(h1:lo<=hi)(h2:hi<=xs.length) :
 ∃v',slV h e v (some (.int .i64 (lo:Nat))) (some (.int .i64 (hi:Nat))) none=some v'/\Sl h e v' ((xs.drop lo).take (hi-lo))/\(∀S,InB S v->InB S v')/\∀S,Off S v->Off S v':=by
 rcases hs with⟨rfl,hn⟩|⟨b,o,c,cs,ro,rfl,hg,hc,hle,hx⟩
 .simp only[aU,Nat.le_zero]at h2;subst h2;have:lo=0:=om;subst this;rcases hn with rfl|rfl
  .exact⟨.nils,rfl,.inl ⟨by simp,.inl rfl⟩,λ_ _=>trivial,λ_ _=>trivial⟩
  .exact⟨.emp,rfl,.inl ⟨by simp,.inr rfl⟩,λ_ _=>trivial,λ_ _=>trivial⟩
 .refine⟨.sl b (if c=lo then o else o+lo*e) (hi-lo) (c-lo),?_,.inr ⟨b,if c=lo then o else o+lo*e,c-lo,cs,ro,?_,hg,?_,?_,?_⟩,λ_ q=>q,λ_ q=>q⟩
  .simp only[slV,hg,if_true,pV,gJ (show hi<=c by omega),gJ h1,aC]
  .simp only[bK,dr];rw[dU om]
  .simp only[bK,dr];omega
  .simp only[bK,dr];rw[dU om];have:lo*e+(hi-lo)*e<=xs.length*e:=by rw[<-cT];exact fX _ om
   split
   .omega
   .omega
  .intro i x hi';rw[cM]at hi';split at hi'
   .rename_i hlt
    rw[eK]at hi';obtain⟨y1,y2⟩:=hx _ _ hi';have e1:(lo+i)*e=lo*e+i*e:=cT _ _ _;rw[if_neg om];rw[e1,<-gF]at y1 y2;exact⟨y1,y2⟩
   .cases hi'
theorem Sl.upto(hs:Sl h e v xs){hi:Nat}(h2:hi<=xs.length) :
 ∃v',slV h e v none (some (.int .i64 (hi:Nat))) none=some v'/\Sl h e v' (xs.take hi)/\(∀S,InB S v->InB S v')/\∀S,Off S v->Off S v':=by
 obtain⟨v',a,b,c⟩:=hs.part (dx hi) h2;refine⟨v',?_,by simpa using b,c⟩;rw[<-a];have:∀y,(match (some (AV.int .i64 ((0:Nat):Int)):Option AV)with|some v=>bnd v y|none=>some 0)=some 0:=λy=>gJ (dx y);unfold slV pV;simp only[this]
theorem Sl.from(hs:Sl h e v xs){lo:Nat}(h2:lo<=xs.length) :
 ∃v',slV h e v (some (.int .i64 (lo:Nat))) none none=some v'/\Sl h e v' (xs.drop lo)/\(∀S,InB S v->InB S v')/\∀S,Off S v->Off S v':=by
 obtain⟨v',a,b,c⟩:=hs.part h2 (ab _);refine⟨v',?_,?_,c⟩
 .rw[<-a];rcases hs with⟨rfl,rfl|rfl⟩|⟨b,o,cc,cs,ro,rfl,hg,hc,hle,hx⟩
  .rfl
  .rfl
  .unfold slV pV;simp only[gJ hc,fS,bC,if_false]
 .rwa [cV (by simp)]at b
theorem Sl.src(hs:Sl h e v xs):eT h e v=some (xs.length,xs.flatten)/\xs.flatten.length=xs.length*e:=by
 rcases hs with⟨rfl,rfl|rfl⟩|⟨b,o,c,cs,ro,rfl,hg,hc,hle,hx⟩
 .exact⟨rfl,by simp⟩
 .exact⟨rfl,by simp⟩
 .have key:∀(xs:List (List AV)) (o:Nat),(∀i x,xs[i]?=some x->o+i*e+e<=cs.length/\(cs.drop (o+i*e)).take e=x)->(xs≠[]->o+xs.length*e<=cs.length)/\(cs.drop o).take (xs.length*e)=xs.flatten/\xs.flatten.length=xs.length*e:=by
   intro xs;induction xs with
   |nil=>intro o _;exact⟨λq=>absurd rfl q,by simp,by simp⟩
   |cons x r ih =>
     intro o hx;obtain⟨a1,a2⟩:=hx 0 x rfl;simp only[lY,dX]at a1 a2;obtain⟨b1,b2,b3⟩:=ih (o+e) λi y hy=>by
      have:=hx (i+1) y (by simpa using hy);rw[show o+(i+1)*e=o+e+i*e by rw[cT];omega]at this;exact this
     have hxl:x.length=e:=by rw[<-a2,bK,dr];omega
     have e1:(x::r).length*e=e+r.length*e:=by simp only[ar,cT];omega
     refine⟨λ_=>?_,?_,?_⟩
     .by_cases hr:r=[]
      .subst hr;simp only[ar,aU,cq,nQ];exact a1
      .have:=b1 hr;omega
     .rw[e1,jI,List.take_add,a2,Nm,b2]
     .rw[e1,jI,aB,hxl,b3]
  obtain⟨k1,k2,k3⟩:=key xs o hx;refine⟨?_,k3⟩;simp only[eT];rw[bI hg,if_pos hle,k2];rfl
theorem G.gyield{l l2:List ROper}{s:Option (Tm×AH)}{K:Tm->AH->Prop}{d:Option Nat}{args:List RO}{g:Option (Nat×Bool)}{nm:Option Nat}{Q:AV->AH->Prop}(n:Nat)
 (hs:lK b (l.take n) s=some (ts,h)) (hd:l.drop n=⟨d,.callv x args,g,nm,[]⟩::l2) (hw:wanted ts g=some true) (hx:RO.ev ts x=.yld c) (ha:args.map (RO.ev ts)=vs) (hc:Y P c vs h Q)
 (hk:∀v h',Q v h'->G P b l2 (some (eu ts d v,h')) K):G P b l s K:=by
 subst ha;rw[<-cm n l];refine sI ?_;rw[hs,hd];exact G.yield hw hx (hc.mono λv h' q=>⟨rfl,hk v h' q⟩)
theorem eV{ps:List (Nat×Nat×RO)}(hg:h.get n=some .resv):jJ ev h n (.mksl z e k ps)=(fill ev (dA z k) ps).map λcs=>(.sl n 0 k k,h.put n (.cells cs e false)):=by
 rw[ng hg];simp only[lay];cases fill ev (dA z k) ps<;>rfl
def KL(z:List AV)(bytes:Nat)(l c:AV):Option (Nat×Nat×List AV) :=
 match l,c with
 |.int _ l,.int _ c=>if 0<=l/\l<=c/\c<bq/\c*bytes<bq then some (l.toNat,c.toNat,dA z c.toNat)else none
 |_,_=>none
theorem qx{n:Nat}(h1:n<bq)(h2:n*bytes<bq):KL z bytes (.int .i64 (n:Nat)) (.int .i64 (n:Nat))=some (n,n,dA z n):=by
 simp only[KL];rw[if_pos ⟨om,om,om,by rw[<-Int.natCast_mul];omega⟩];simp
theorem zH{n:Nat}(h1:n<bq)(h2:n*bytes<bq):EF h z e bytes (.int .i64 (n:Nat)) (.int .i64 (n:Nat))=some (.sl h.next 0 n n,h.new (.cells (dA z n) e false)):=by
 simp only[EF];rw[if_pos ⟨om,om,om,by rw[<-Int.natCast_mul];omega⟩];simp
theorem mG{l c:RO}(hg:h.get n=some .resv):jJ ev h n (.mks z e b l c)=(KL z b (ev l) (ev c)).map λp=>(.sl n 0 p.1 p.2.1,h.put n (.cells p.2.2 e false)):=by
 rw[ng hg];simp only[lay,KL];cases ev l<;>cases ev c<;>try rfl
 rename_i k1 x k2 y
 by_cases q:0<=x/\x<=y/\y<bq/\y*b<bq
 .simp only[if_pos q];rfl
 .simp only[if_neg q];rfl
def LA(k:Nat)(x:AV):Option (List AV):=if x.cells.length=k then some x.cells else none
theorem wN(hg:h.get n=some .resv):jJ ev h n (.box e k x)=(LA k (ev x)).map λcs=>(.ptr n 0,h.put n (.cells cs e false)):=by
 rw[ng hg];simp only[lay,LA];by_cases q:(ev x).cells.length=k
 .simp only[if_pos q];rfl
 .simp only[if_neg q];rfl
theorem uT(h:cs.length=k):LA k (.agg cs)=some cs:=by
 simp only[LA,xe,h,if_true]
theorem iA:(h.keep 1).get h.next=some .resv:=by
 rw[AH.keep_get,if_pos ⟨om,om⟩]
theorem mC:Ext h.next h ((h.keep 1).put h.next o)/\((h.keep 1).put h.next o).get h.next=some o/\((h.keep 1).put h.next o).next=h.next+1/\∀c,c<h.next->((h.keep 1).put h.next o).get c=h.get c:=by
 have hn:(h.keep 1).next=h.next+1:=AH.keep_next 1 h;have k:∀c,c<h.next->((h.keep 1).put h.next o).get c=h.get c:=λc hc=>by
  rw[AH.get_put _ _ _ _ (by rw[hn];omega),if_neg om,AH.keep_get,if_neg om]
 exact⟨⟨by rw[AH.next_put,hn];omega,k,λ_ _=>rfl⟩,by rw[AH.get_put _ _ _ _ (by rw[hn];omega),if_pos rfl],by rw[AH.next_put,hn],k⟩
theorem gv(hl:z.length=cs.length):∃h1,cj (h.new (.cells z e false)) h.next 0 cs=some h1/\Ext h.next h h1/\h1.get h.next=some (.cells cs e false)/\h1.next=h.next+1:=by
 have g:(h.new (.cells z e false)).get h.next=some (.cells z e false):=by rw[AH.get_new,if_pos rfl]
 refine⟨(h.new (.cells z e false)).put h.next (.cells cs e false),?_,(Nt (ab _)).trans (Ext.put (ab _)),(Nv g).get,rfl⟩;rw[ez g,if_pos om];congr 3;simp only[dD,eZ,bt,cq];rw[cL om,bV]
theorem AH.keep_tyOf:∀(k:Nat) (h:AH) {c:Nat},(h.keep k).tyOf c=h.tyOf c
 |0,_,_=>rfl
 |k+1,h,c=>by
   show((h.new .resv).keep k).tyOf c=_;rw[AH.keep_tyOf k (h.new .resv)];rfl
theorem li{x:AV}:∀n:Nat,dA [x] n=List.replicate n x
 |0=>rfl
 |n+1=>by rw[dA,li n];rfl
theorem AX(hi:i<cs.length):dD cs i [v]=cs.set i v:=by
 refine dI λj=>?_;rw[gR (by simp only[ar,aU];omega),dB];simp only[ar,aU];by_cases e:i=j
 .subst e;rw[if_pos ⟨om,om⟩,if_pos rfl,if_pos hi,dP];rfl
 .rw[if_neg om,if_neg e]
theorem bJ{ro:Bool}(hg:h.get b=some (.cells cs e ro))(hi:cs[i]?=some v):aA h b i 1=some [v]:=by
 obtain⟨hl,h2⟩:=aF.1 hi;rw[bI hg,if_pos om,cn hl,h2];rfl
theorem iP(hg:h.get b=some (.cells cs e false))(hi:i<cs.length):cj h b i [v]=some (h.put b (.cells (cs.set i v) e false)):=by
 rw[ez hg,if_pos (by simp only[ar,aU];omega),AX hi]
theorem yE{kn:Nat}{ops:List ROper}{Kn:Tm->AH->Prop}{ts':Tm}(hs:lK h.next ops (some (ts,h.keep kn))=some (ts',h'))(hk:Kn ts' h'):W P (.regK kn ops) ts h Kn Kr Kx:=pZ (bM hs hk)
theorem Sl.row{ro:Bool}(hg:h.get b=some (.cells vs 1 ro))(hn:vs.length=n)(hc:n<=c):Sl h 1 (.sl b 0 n c) (vs.map λx=>[x]):=by
 subst hn;refine .inr ⟨b,0,c,vs,ro,by rw[ah],hg,by rw[ah];exact hc,by rw[ah];omega,λi x hi=>?_⟩;rw[aG]at hi;obtain⟨y,hy,rfl⟩:=aE.1 hi;obtain⟨hl,h2⟩:=aF.1 hy;refine⟨om,?_⟩;rw[cq,bh,cn hl,h2];rfl
theorem kD{ts:Tm}{f:FuncId}:RO.ev ts (.fu f)=.fn f []:=rfl
theorem za{L k:Nat}{ro:Bool}(hg:h.get b=some (.cells cs e ro))(hk:k<c)(hL:L<=c)(hkL:k<=L):slV h e (.sl b 0 L c) (some (.int .i64 (k:Nat))) none none=some (.sl b (k*e) (L-k) (c-k)):=by
 have h1:=gJ (k:=.i64) hL;have h2:=gJ (k:=.i64) hkL;simp only[slV,hg,if_true,pV,h2,aC,fS,bC,if_false];rw[if_neg om,cq]
theorem Ni{o:Nat}{d:Array Int}(hg:h.get b=some (nu cs o d))(hr:o+d.size<=cs.length)(hc:d.size<=c):SlI h (.sl b o d.size c) d.toList:=by
 have hr':o+(iJ d).length<=cs.length:=by rw[iU];exact hr
 have hl:=kX hr';refine .inr ⟨b,o,c,_,false,by rw[ah];rfl,hg,by rw[ah];exact hc,by rw[ah,hl];have:d.toList.length=d.size:=rfl;omega,λi x hi=>?_⟩;rw[aG]at hi;obtain⟨y,hy,rfl⟩:=aE.1 hi;have hil:i<d.size:=(aF.1 hy).1;have hk:(dD cs o (iJ d))[o+i]?=some (.int .i64 y):=by
  rw[gR hr',if_pos ⟨om,by rw[iU];omega⟩,show o+i-o=i by omega];unfold iJ;rw[aG,hy];rfl
 obtain⟨hlt,hk2⟩:=aF.1 hk;refine⟨om,?_⟩;rw[bh,cn hlt,hk2];rfl
theorem H1(f0:q0)(h:q0->p:=by intro f0;simp only[hl,am,aI,simprocAttr,f0]):p:=h f0
theorem H2(f0:q0)(f1:q1)(h:q0->q1->p:=by intro f0 f1;simp only[hl,am,aI,simprocAttr,f0,f1]):p:=h f0 f1
theorem H3(f0:q0)(f1:q1)(f2:q2)(h:q0->q1->q2->p:=by intro f0 f1 f2;simp only[hl,am,aI,simprocAttr,f0,f1,f2]):p:=h f0 f1 f2
theorem H4(f0:q0)(f1:q1)(f2:q2)(f3:q3)(h:q0->q1->q2->q3->p:=by intro f0 f1 f2 f3;simp only[hl,am,aI,simprocAttr,f0,f1,f2,f3]):p:=h f0 f1 f2 f3
theorem H5(f0:q0)(f1:q1)(f2:q2)(f3:q3)(f4:q4)(h:q0->q1->q2->q3->q4->p:=by intro f0 f1 f2 f3 f4;simp only[hl,am,aI,simprocAttr,f0,f1,f2,f3,f4]):p:=h f0 f1 f2 f3 f4
theorem H6(f0:q0)(f1:q1)(f2:q2)(f3:q3)(f4:q4)(f5:q5)(h:q0->q1->q2->q3->q4->q5->p:=by intro f0 f1 f2 f3 f4 f5;simp only[hl,am,aI,simprocAttr,f0,f1,f2,f3,f4,f5]):p:=h f0 f1 f2 f3 f4 f5
theorem H7(f0:q0)(f1:q1)(f2:q2)(f3:q3)(f4:q4)(f5:q5)(f6:q6)(h:q0->q1->q2->q3->q4->q5->q6->p:=by intro f0 f1 f2 f3 f4 f5 f6;simp only[hl,am,aI,simprocAttr,f0,f1,f2,f3,f4,f5,f6]):p:=h f0 f1 f2 f3 f4 f5 f6
theorem H8(f0:q0)(f1:q1)(f2:q2)(f3:q3)(f4:q4)(f5:q5)(f6:q6)(f7:q7)(h:q0->q1->q2->q3->q4->q5->q6->q7->p:=by intro f0 f1 f2 f3 f4 f5 f6 f7;simp only[hl,am,aI,simprocAttr,f0,f1,f2,f3,f4,f5,f6,f7]):p:=h f0 f1 f2 f3 f4 f5 f6 f7
theorem H10(f0:q0)(f1:q1)(f2:q2)(f3:q3)(f4:q4)(f5:q5)(f6:q6)(f7:q7)(f8:q8)(f9:q9)(h:q0->q1->q2->q3->q4->q5->q6->q7->q8->q9->p:=by intro f0 f1 f2 f3 f4 f5 f6 f7 f8 f9;simp only[hl,am,aI,simprocAttr,f0,f1,f2,f3,f4,f5,f6,f7,f8,f9]):p:=h f0 f1 f2 f3 f4 f5 f6 f7 f8 f9
theorem H12{q10 q11:Prop}(f0:q0)(f1:q1)(f2:q2)(f3:q3)(f4:q4)(f5:q5)(f6:q6)(f7:q7)(f8:q8)(f9:q9)(f10:q10)(f11:q11)(h:q0->q1->q2->q3->q4->q5->q6->q7->q8->q9->q10->q11->p:=by intro f0 f1 f2 f3 f4 f5 f6 f7 f8 f9 f10 f11;simp only[hl,am,aI,simprocAttr,f0,f1,f2,f3,f4,f5,f6,f7,f8,f9,f10,f11]):p:=h f0 f1 f2 f3 f4 f5 f6 f7 f8 f9 f10 f11
theorem Hi0(h:p:=by simp only[hl,am,aI,simprocAttr,bP]):p:=h
theorem Hi1(f0:q0)(h:q0->p:=by intro f0;simp only[hl,am,aI,simprocAttr,bP,f0]):p:=h f0
theorem O1(f0:q0)(h:q0->p:=by intro f0;simp only[cG,dl,am,aI,↓reduceIte,Nat.reduceEqDiff,Int.reduceEq,Nat.reduceAdd,Nat.reduceLeDiff,reduceCtorEq,f0]):p:=h f0
theorem O2(f0:q0)(f1:q1)(h:q0->q1->p:=by intro f0 f1;simp only[cG,dl,am,aI,↓reduceIte,Nat.reduceEqDiff,Int.reduceEq,Nat.reduceAdd,Nat.reduceLeDiff,reduceCtorEq,f0,f1]):p:=h f0 f1
theorem O3(f0:q0)(f1:q1)(f2:q2)(h:q0->q1->q2->p:=by intro f0 f1 f2;simp only[cG,dl,am,aI,↓reduceIte,Nat.reduceEqDiff,Int.reduceEq,Nat.reduceAdd,Nat.reduceLeDiff,reduceCtorEq,f0,f1,f2]):p:=h f0 f1 f2
theorem O4(f0:q0)(f1:q1)(f2:q2)(f3:q3)(h:q0->q1->q2->q3->p:=by intro f0 f1 f2 f3;simp only[cG,dl,am,aI,↓reduceIte,Nat.reduceEqDiff,Int.reduceEq,Nat.reduceAdd,Nat.reduceLeDiff,reduceCtorEq,f0,f1,f2,f3]):p:=h f0 f1 f2 f3
theorem Oi0(h:p:=by simp only[cG,dl,am,aI,↓reduceIte,Nat.reduceEqDiff,Int.reduceEq,Nat.reduceAdd,Nat.reduceLeDiff,reduceCtorEq,bP]):p:=h
theorem Oi1(f0:q0)(h:q0->p:=by intro f0;simp only[cG,dl,am,aI,↓reduceIte,Nat.reduceEqDiff,Int.reduceEq,Nat.reduceAdd,Nat.reduceLeDiff,reduceCtorEq,bP,f0]):p:=h f0
def Nr:=@AH.keep_tyOf
def Ns:=@Kp.refl
end Go.Am
