/- A search in breadth, as a list of who was met from where; th -/
import Derived.Test.YtlolkmcdimgplaaGreatVTAL
set_option linter.all false
namespace Go.Pla
open Go.Blk
variable {A B L:List (Nat×Nat)}{i r x y:Nat}
variable (g:Gr) (Bl:List Nat) (laid thr:Nat->Bool)
abbrev LQ:=List (Nat×Nat)×List Nat
def ks(L:List (Nat×Nat)):List Nat:=L.map (·.1)
def goes(x:Nat)(L:List (Nat×Nat))(i:Nat):Bool:=at_ g i x&&(!((ks L).contains (g.oth i x))&&!(laid i))
def stepE(x:Nat)(s:LQ)(i:Nat):LQ:=if goes g laid x s.1 i=true then(s.1++[(g.oth i x,x)],if thr (g.oth i x)=true then s.2++[g.oth i x]else s.2)else s
def full:Nat->LQ->List (Nat×Nat)
 |0,s=>s.1
 |f+1,s=>match s.2 with
   |[]=>s.1
   |x::Q=>full f (Bl.foldl (stepE g laid thr x) (s.1,Q))
variable {g Bl laid thr}
structure Met(g:Gr)(Bl:List Nat)(laid thr:Nat->Bool)(r:Nat)(L:List (Nat×Nat)):Prop where
 root:∃T,L=(r,r)::T
 nd:(ks L).Nodup
 par:∀A y x C,L=A++(y,x)::C->A≠[]->x∈ks A/\(x=r\/thr x=true)/\∃i∈Bl,jn g i x y=true/\laid i=false
theorem ks_app:ks (A++B)=ks A++ks B:=bR
theorem Met.push(m:Met g Bl laid thr r L)(hB:∀i∈Bl,i<g.m)(hi:i∈Bl)(hx:x∈ks L)(hxr:x=r\/thr x=true)(hg:goes g laid x L i=true):Met g Bl laid thr r (L++[(g.oth i x,x)]):=by
 unfold goes at hg;simp only[aL,dJ,fw,aZ]at hg;obtain⟨h1,h2,h3⟩:=hg;have hinc:=(at_inc (hB i hi)).1 h1;obtain⟨T,hT⟩:=m.root;refine⟨⟨T++[(g.oth i x,x)],by rw[hT];rfl⟩,?_,λA y z C h hA=>?_⟩
 .rw[ks_app,aN];refine⟨m.nd,by simp[ks],λa ha b hb=>?_⟩;have:b=g.oth i x:=by simpa[ks]using hb
  subst this;exact λe=>h2 (e▸ha)
 .rcases cS C with rfl|⟨C,q,rfl⟩
  .obtain⟨e1,e2⟩:=dW h rfl;injection e2 with e2;injection e2 with e2 e3;subst e1 e2 e3;refine⟨hx,hxr,i,hi,?_,h3⟩;rw[jn_iff];unfold Gr.oth;rcases hinc.2 with q|q
   .exact .inl ⟨q,om⟩
   .exact .inr ⟨om,q⟩
  .rw[dC]at h;have h':L++[(g.oth i x,x)]=(A++(y,z)::C)++[q]:=by rw[h];simp
   obtain⟨e1,_⟩:=dW h' rfl;exact m.par A y z C e1 hA
structure Srch(g:Gr)(Bl:List Nat)(laid thr:Nat->Bool)(r:Nat)(s:LQ)(cu:Option (Nat×List Nat)):Prop where
 met:Met g Bl laid thr r s.1
 que:∀z∈s.2,z∈ks s.1/\(z=r\/thr z=true)
 cur:∀x is,cu=some (x,is)->x∈ks s.1/\(x=r\/thr x=true)/\∀i∈Bl,i∉is->at_ g i x=true->laid i=false->g.oth i x∈ks s.1
 done:∀z∈ks s.1,(z=r\/thr z=true)->z∈s.2\/(∃is,cu=some (z,is))\/∀i∈Bl,at_ g i z=true->laid i=false->g.oth i z∈ks s.1
theorem Srch.start:Srch g Bl laid thr r ([(r,r)],[r]) none where
 met:=⟨⟨[],rfl⟩,by simp[ks],λA y x C h hA=>by
  cases A with
  |nil=>exact absurd rfl hA
  |cons a A =>
    have:=congrArg List.length h;simp at this⟩
 que:=λz hz=>by
  have:z=r:=by simpa using hz
  subst this;simp[ks]
 cur:=λx is h=>by cases h
 done:=λz hz _=>.inl (by simpa[ks]using hz)
theorem Srch.pop{Q:List Nat}(s:Srch g Bl laid thr r (L,x::Q) none):Srch g Bl laid thr r (L,Q) (some (x,Bl)) where
 met:=s.met
 que:=λz hz=>s.que z (aQ _ hz)
 cur:=λy is h=>by
  injection h with h;injection h with h1 h2;subst h1 h2;have:=s.que x (by simp);exact⟨this.1,this.2,λi hi hn=>absurd hi hn⟩
 done:=λz hz hr=>by
  rcases s.done z hz hr with h|⟨is,h⟩|h
  .rcases ao.1 h with rfl|h
   .exact .inr (.inl ⟨Bl,rfl⟩)
   .exact .inl h
  .cases h
  .exact .inr (.inr h)
variable {s:LQ}
theorem Srch.step{is:List Nat}(h:Srch g Bl laid thr r s (some (x,i::is)))(hB:∀i∈Bl,i<g.m)(hi:i∈Bl):Srch g Bl laid thr r (stepE g laid thr x s i) (some (x,is)):=by
 obtain⟨c1,c2,c3⟩:=h.cur x _ rfl;by_cases hg:goes g laid x s.1 i=true
 .rw[stepE,if_pos hg];have mp:=h.met.push hB hi c1 c2 hg;have hk:∀z,z∈ks s.1->z∈ks (s.1++[(g.oth i x,x)]):=λz hz=>by rw[ks_app];exact bg _ hz
  have hn:g.oth i x∈ks (s.1++[(g.oth i x,x)]):=by rw[ks_app];simp[ks]
  have hq2:∀z,z∈s.2->z∈(if thr (g.oth i x)=true then s.2++[g.oth i x]else s.2):=λz hz=>by
   split
   .exact bg _ hz
   .exact hz
  refine⟨mp,λz hz=>?_,λy js e=>?_,λz hz hr=>?_⟩
  .dsimp only at hz |-;by_cases ht:thr (g.oth i x)=true
   .rw[if_pos ht]at hz;rcases aw.1 hz with hz|hz
    .exact⟨hk z (h.que z hz).1,(h.que z hz).2⟩
    .have:z=g.oth i x:=by simpa using hz
     subst this;exact⟨hn,.inr ht⟩
   .rw[if_neg ht]at hz;exact⟨hk z (h.que z hz).1,(h.que z hz).2⟩
  .injection e with e;injection e with e1 e2;subst e1 e2;refine⟨hk _ c1,c2,λj hj hjn ha hl=>?_⟩;by_cases hji:j=i
   .subst hji;exact hn
   .exact hk _ (c3 j hj (by simp[hji,hjn]) ha hl)
  .dsimp only at hz |-;rw[ks_app]at hz;rcases aw.1 hz with hz|hz
   .rcases h.done z hz hr with h1|⟨js,h1⟩|h1
    .exact .inl (hq2 z h1)
    .injection h1 with h1;injection h1 with h1 _;subst h1;exact .inr (.inl ⟨is,rfl⟩)
    .exact .inr (.inr λj hj ha hl=>hk _ (h1 j hj ha hl))
   .have:z=g.oth i x:=by simpa[ks]using hz
    subst this;rcases hr with hr|hr
    .obtain⟨T,hT⟩:=h.met.root;unfold goes at hg;simp only[aL,dJ,fw,aZ]at hg;exact absurd (by rw[hr,hT];simp[ks]) hg.2.1
    .exact .inl (by rw[if_pos hr];simp)
 .rw[stepE,if_neg hg];refine⟨h.met,h.que,λy js e=>?_,λz hz hr=>?_⟩
  .injection e with e;injection e with e1 e2;subst e1 e2;refine⟨c1,c2,λj hj hjn ha hl=>?_⟩;by_cases hji:j=i
   .subst hji;unfold goes at hg;rw[ha,hl]at hg;simpa using hg
   .exact c3 j hj (by simp[hji,hjn]) ha hl
  .rcases h.done z hz hr with h1|⟨js,h1⟩|h1
   .exact .inl h1
   .injection h1 with h1;injection h1 with h1 _;subst h1;exact .inr (.inl ⟨is,rfl⟩)
   .exact .inr (.inr h1)
theorem Srch.end(h:Srch g Bl laid thr r s (some (x,[]))):Srch g Bl laid thr r s none where
 met:=h.met
 que:=h.que
 cur:=λ_ _ e=>by cases e
 done:=λz hz hr=>by
  rcases h.done z hz hr with h1|⟨js,h1⟩|h1
  .exact .inl h1
  .injection h1 with h1;injection h1 with h1 h2;subst h1 h2;exact .inr (.inr λi hi=>(h.cur x [] rfl).2.2 i hi (by simp))
  .exact .inr (.inr h1)
def trr:List (Nat×Nat)->Nat->List Nat
 |[],_=>[]
 |(z,x)::A,y=>if z=y then(if A=[]then [y]else trr A x++[y])else trr A y
def tr(L:List (Nat×Nat))(y:Nat):List Nat:=trr L.reverse y
theorem CB{y:Nat}:∀{B A:List (Nat×Nat)},y∉ks B->trr (B++A) y=trr A y
 |[],_,_=>rfl
 |(z,x)::B,A,h=>by
   have h1:z≠y:=λe=>h (by simp[ks,e]);have h2:y∉ks B:=λe=>h (by simp only[ks,aS,ao]at e |-;exact .inr e);rw[aH,trr,if_neg h1,CB h2]
theorem tr_app(nd:(ks (A++B)).Nodup)(h:y∈ks A):tr (A++B) y=tr A y:=by
 unfold tr;rw[List.reverse_append];refine CB λhb=>?_;rw[ks_app,aN]at nd;have:y∈ks B:=by simpa[ks]using hb
 exact nd.2.2 y h y this rfl
theorem Met.pre{C:List (Nat×Nat)}(m:Met g Bl laid thr r (A++C))(hA:A≠[]):Met g Bl laid thr r A:=by
 obtain⟨T,hT⟩:=m.root;refine⟨?_,?_,λX y x Y h hX=>m.par X y x (Y++C) (by rw[h];simp) hX⟩
 .cases A with
  |nil=>exact absurd rfl hA
  |cons a A=>rw[aH]at hT;injection hT with h1 _;exact⟨A,by rw[h1]⟩
 .have:=m.nd;rw[ks_app,aN]at this;exact this.1
theorem tr_root(m:Met g Bl laid thr r L):tr L r=[r]:=by
 obtain⟨T,hT⟩:=m.root;rw[hT,show(r,r)::T=[(r,r)]++T by rfl,tr_app (by rw[<-show(r,r)::T=[(r,r)]++T from rfl,<-hT];exact m.nd) (by simp[ks])];simp[tr,trr]
theorem tr_last(hA:A≠[]):tr (A++[(y,x)]) y=tr A x++[y]:=by
 unfold tr;rw[List.reverse_append];simp[trr,hA]
theorem xp:∀(L:List (Nat×Nat)) (y:Nat),(trr L y).length<=L.length
 |[],_=>by simp[trr]
 |(z,x)::A,y=>by
   have h1:=xp A x;have h2:=xp A y;rw[trr];split
   .split
    .simp
    .simp;omega
   .simp;omega
theorem tr_len(L:List (Nat×Nat))(y:Nat):(tr L y).length<=L.length:=by
 have:=xp L.reverse y;simpa[tr]using this
theorem tr_ok{r:Nat}:∀(n:Nat) {L:List (Nat×Nat)},L.length<=n->Met g Bl laid thr r L->∀y∈ks L,∃t,tr L y=r::t/\lst r t=y/\(r::t).Nodup/\Ch g (Bl.filter λi=>!(laid i)) (r::t)/\∀z∈r::t,z∈ks L/\(z=r\/thr z=true\/z=y)
 |0,L,hn,m=>by
   obtain⟨T,hT⟩:=m.root;rw[hT]at hn;simp at hn
 |n+1,L,hn,m=>by
   intro y hy;rcases cS L with h|⟨A,⟨z,x⟩,h⟩
   .rw[h]at hy;simp[ks]at hy
   rw[dC]at h;subst h;by_cases hA:A=[]
   .subst hA;obtain⟨T,hT⟩:=m.root;have hyr:y=r:=by
     rw[hT]at hy;rw[bt]at hT;injection hT with h1 h2;subst h2;simpa[ks]using hy
    subst hyr;refine⟨[],tr_root m,rfl,by simp,trivial,λz hz=>?_⟩;have:z=y:=by simpa using hz
    subst this;exact⟨hy,.inl rfl⟩
   .have mA:=m.pre hA;by_cases hyA:y∈ks A
    .obtain⟨t,h1,h2,h3,h4,h5⟩:=tr_ok n (by simp at hn;omega) mA y hyA;refine⟨t,(tr_app m.nd hyA).trans h1,h2,h3,h4,λz hz=>?_⟩;exact⟨by rw[ks_app];exact bg _ (h5 z hz).1,(h5 z hz).2⟩
    .have hyz:y=z:=by
      rw[ks_app,aw]at hy;rcases hy with hy|hy
      .exact absurd hy hyA
      .simpa[ks]using hy
     subst hyz;obtain⟨hx,hxr,i,hi,hj,hli⟩:=m.par A y x [] rfl hA;obtain⟨t,h1,h2,h3,h4,h5⟩:=tr_ok n (by simp at hn;omega) mA x hx;have hyt:y∉r::t:=λh=>hyA (h5 y h).1;have key:∀(t:List Nat) (u:Nat),Ch g (Bl.filter λi=>!(laid i)) (u::t)->lst u t=x->Ch g (Bl.filter λi=>!(laid i)) (u::(t++[y]))/\lst u (t++[y])=y:=by
      intro t;induction t with
      |nil =>
        intro u _ hl;have hl':u=x:=hl;subst hl';exact⟨⟨⟨i,by simp[hi,hli],hj⟩,trivial⟩,rfl⟩
      |cons w t iht =>
        intro u hc hl;obtain⟨q1,q2⟩:=iht w hc.2 hl;exact⟨⟨hc.1,q1⟩,q2⟩
     obtain⟨k1,k2⟩:=key t r h4 h2;refine⟨t++[y],by rw[tr_last hA,h1];rfl,k2,?_,k1,λw hw=>?_⟩
     .rw[<-aH,aN];exact⟨h3,by simp,λa ha b hb=>by
       have:b=y:=by simpa using hb
       subst this;exact λe=>hyt (e▸ha)⟩
     .rw[<-aH,aw]at hw;rcases hw with hw|hw
      .obtain⟨q1,q2⟩:=h5 w hw;refine⟨by rw[ks_app];exact bg _ q1,?_⟩;rcases q2 with q|q|q
       .exact .inl q
       .exact .inr (.inl q)
       .subst q;rcases hxr with q|q
        .exact .inl q
        .exact .inr (.inl q)
      .have:w=y:=by simpa using hw
       subst this;exact⟨hy,.inr (.inr rfl)⟩
end Go.Pla
namespace Go.Proofs.YtlolkmcdimgplaaGreat
open Go.Am
variable {E:List (Int×Int)}{H V:Nat->Bool}{bb n pa x:Nat}{edv ev fav:AV}{h:AH}
structure Bu(h:AH)(bb n:Nat)(ev edv:AV)(E:List (Int×Int))(Bl:List Nat)(la pa:Nat)(H V:Nat->Bool)(fav:AV):Prop where
 o:h.get bb=some (.cells [.int .i64 (n:Nat),ev,edv,.sl la 0 E.length E.length,.sl pa 0 n n,fav] 6 false)
 e:SlE h ev E
 b:SlN h edv Bl
 l:h.get la=some (.cells (bl E.length H) 1 false)
 v:h.get pa=some (.cells (bl n V) 1 false)
 d:bb≠la/\bb≠pa/\la≠pa
 oe:Off (λc=>c=la\/c=pa\/c=bb) ev
 ob:Off (λc=>c=la\/c=pa\/c=bb) edv
theorem Bu.ext{h h':AH}{bb n k:Nat}{ev edv:AV}{E:List (Int×Int)}{Bl:List Nat}{la pa:Nat}{H V:Nat->Bool}{fav:AV}(u:Bu h bb n ev edv E Bl la pa H V fav)(x:Ext k h h')(hk:h.next<=k):Bu h' bb n ev edv E Bl la pa H V fav where
 o:=by rw[x.gt _ (cB (AH.lt_of_get u.o) hk)];exact u.o
 e:=u.e.ext x hk
 b:=u.b.ext x hk
 l:=by rw[x.gt _ (cB (AH.lt_of_get u.l) hk)];exact u.l
 v:=by rw[x.gt _ (cB (AH.lt_of_get u.v) hk)];exact u.v
 d:=u.d
 oe:=u.oe
 ob:=u.ob
theorem Bu.kp{h h':AH}{bb n:Nat}{ev edv:AV}{E:List (Int×Int)}{Bl:List Nat}{la pa:Nat}{H V:Nat->Bool}{fav:AV}(u:Bu h bb n ev edv E Bl la pa H V fav){S:Nat->Prop}(k:Kp S h h')(hb:¬S bb)(hl:¬S la)(hp:¬S pa)(he:Off S ev)(hd:Off S edv):Bu h' bb n ev edv E Bl la pa H V fav where
 o:=by rw[k.gt _ (AH.lt_of_get u.o) hb];exact u.o
 e:=u.e.kp k he
 b:=u.b.kp k hd
 l:=by rw[k.gt _ (AH.lt_of_get u.l) hl];exact u.l
 v:=by rw[k.gt _ (AH.lt_of_get u.v) hp];exact u.v
 d:=u.d
 oe:=u.oe
 ob:=u.ob
theorem gH{S T:Nat->Prop}{v:AV}(h:Off S v)(hs:∀c,T c->S c):Off T v:=by
 cases v<;>first|trivial|exact λq=>h (hs _ q)
theorem Bu.putV{Bl:List Nat}{la:Nat}(u:Bu h bb n ev edv E Bl la pa H V fav)(hx:x<n) :
 ∃h',cj h pa x [.bool true]=some h'/\Bu h' bb n ev edv E Bl la pa H (λj=>if j=x then true else V j) fav/\Upd h h' pa (.cells (bl n λj=>if j=x then true else V j) 1 false):=by
 have w:=iP (v:=.bool true) u.v (i:=x) (by rw[pW];exact hx);rw[yw]at w;have uu:=Nv (o:=.cells (bl n λj=>if j=x then true else V j) 1 false) u.v;have k:=uu.kp (S:=λc=>c=pa) rfl;refine⟨_,w,⟨?_,u.e.kp k (gH u.oe λc h=>.inr (.inl h)),u.b.kp k (gH u.ob λc h=>.inr (.inl h)),?_,uu.get,u.d,u.oe,u.ob⟩,uu⟩
 .rw[uu.ne (u.d.2.1)];exact u.o
 .rw[uu.ne (u.d.2.2)];exact u.l
theorem Bu.putH{Bl:List Nat}{la:Nat}(u:Bu h bb n ev edv E Bl la pa H V fav)(hx:x<E.length) :
 ∃h',cj h la x [.bool true]=some h'/\Bu h' bb n ev edv E Bl la pa (λj=>if j=x then true else H j) V fav/\Upd h h' la (.cells (bl E.length λj=>if j=x then true else H j) 1 false):=by
 have w:=iP (v:=.bool true) u.l (i:=x) (by rw[pW];exact hx);rw[yw]at w;have uu:=Nv (o:=.cells (bl E.length λj=>if j=x then true else H j) 1 false) u.l;have k:=uu.kp (S:=λc=>c=la) rfl;refine⟨_,w,⟨?_,u.e.kp k (gH u.oe λc h=>.inl h),u.b.kp k (gH u.ob λc h=>.inl h),uu.get,?_,u.d,u.oe,u.ob⟩,uu⟩
 .rw[uu.ne (u.d.1)];exact u.o
 .rw[uu.ne (Ne.symm u.d.2.2)];exact u.v
def lU(E:List (Int×Int))(i x:Nat):Bool:=decide (tlE E i=x)||decide (hdE E i=x)
def nN(E:List (Int×Int))(i x:Nat):Int:=((tlE E i:Nat):Int)+((hdE E i:Nat):Int)-((x:Nat):Int)
theorem mQ{Bl:List Nat}{la:Nat}(u:Bu h bb n ev edv E Bl la pa H V fav)(hE:InG n E)(hn:n<2^40){i x:Nat}(hi:i<E.length)(hx:x<n) :
 C prg 77 [.ptr bb 0,.int .i64 (i:Nat),.int .i64 (x:Nat)] h λv h'=>v=.tup [.int .i64 (nN E i x),.bool (lU E i x)]/\Ext h.next h h':=by
 refine Ny pf77 ?_;obtain⟨q1,q2,q3⟩:=hE i hi;obtain⟨b,p,a,rr,_,_⟩:=u.e.at (fR (f:=eE) hi);rw[q1]at rr;have rse:aA h bb 1 1=some [ev]:=bJ u.o rfl;have w1:IntKind.i64.wrap (((tlE E i:Nat):Int)+((hdE E i:Nat):Int))=((tlE E i:Nat):Int)+((hdE E i:Nat):Int):=fx om om;have w2:IntKind.i64.wrap (((tlE E i:Nat):Int)+((hdE E i:Nat):Int)-((x:Nat):Int))=nN E i x:=fx om om;obtain⟨h3,w3,x3,g3,n3⟩:=gv (h:=h) (z:=[.int .i64 0,.int .i64 0]) (cs:=[.int .i64 (tlE E i:Nat),.int .i64 (hdE E i:Nat)]) (e:=2) rfl;refine ai (aD (Mi0) ?_);refine ai (aD (by simp only[am,aI,simprocAttr,bP,rse,a,rr,eE,w3]<;>rfl) ?_);have ra:aA h3 h.next 0 1=some [.int .i64 (tlE E i:Nat)]:=bJ g3 rfl;have rb:aA h3 h.next 1 1=some [.int .i64 (hdE E i:Nat)]:=bJ g3 rfl;have d1:decide (((tlE E i:Nat):Int)=((x:Nat):Int))=decide (tlE E i=x):=by rw[decide_eq_decide];omega
 have d2:decide (((hdE E i:Nat):Int)=((x:Nat):Int))=decide (hdE E i=x):=by rw[decide_eq_decide];omega
 have ib:lU E i x=(decide (tlE E i=x)||decide (hdE E i=x)):=rfl;by_cases ht:tlE E i=x
 .rw[bp ht]at d1 ib;refine ai (bW (λts h'=>h'=h3/\aR ts 6=.int .i64 (nN E i x)/\aR ts 7=.bool (lU E i x)) (by simp only[am,aI,simprocAttr,bP,ra,rb,w1,w2,d1,ib,Bool.true_or]) ?_);rintro ts h4 ⟨rfl,e6,e7⟩;exact bU ⟨.tup [.int .i64 (nN E i x),.bool (lU E i x)],(by simp only[rs,rf77,am,aI,simprocAttr,e6,e7]<;>rfl),rfl,x3⟩
 .rw[aX ht]at d1 ib;refine ai (bW (λts h'=>h'=h3/\aR ts 6=.int .i64 (nN E i x)/\aR ts 7=.bool (lU E i x)) (by simp only[am,aI,simprocAttr,bP,ra,rb,w1,w2,d1,d2,ib,ir]) ?_);rintro ts h4 ⟨rfl,e6,e7⟩;exact bU ⟨.tup [.int .i64 (nN E i x),.bool (lU E i x)],(by simp only[rs,rf77,am,aI,simprocAttr,e6,e7]<;>rfl),rfl,x3⟩
open Go.Am
def upG{α:Type}[DecidableEq α]:List (α×AV)->α->AV->List (α×AV)
 |[],k,v=>[(k,v)]
 |p::r,k,v=>if p.1=k then(k,v)::r else p::upG r k v
def lkG{α:Type}[DecidableEq α]:List (α×AV)->α->Option AV
 |[],_=>none
 |p::r,k=>if p.1=k then some p.2 else lkG r k
def KeyE{α:Type}[DecidableEq α](e:RE)(κ:α->AV):Prop:=∀a b,iR e (κ a) (κ b)=some (decide (a=b))
theorem xW:KeyE .ki (λk:Int=>AV.int .i64 k):=λa b=>by
 simp only[iR,if_true,aa];by_cases e:a=b
 .subst e;simp
 .rw[aX e,beq_eq_false_iff_ne];exact e
theorem keyP:KeyE (.flat [.i64,.i64]) (λk:Int×Int=>AV.agg [.int .i64 k.1,.int .i64 k.2]):=λa b=>by
 obtain⟨a1,a2⟩:=a;obtain⟨b1,b2⟩:=b;by_cases e:a1=b1
 .subst e;by_cases e:a2=b2
  .subst e;simp[iR,eqF,fN]
  .have:(a2==b2)=false:=by rw[beq_eq_false_iff_ne];exact e
   simp[iR,eqF,fN,this,e]
 .have:(a1==b1)=false:=by rw[beq_eq_false_iff_ne];exact e
  simp[iR,eqF,fN,this,e]
theorem KeyE.ok{α:Type}[DecidableEq α]{e:RE}{κ:α->AV}(hk:KeyE e κ)(a:α):pA e (κ a)=true:=by
 unfold pA;rw[hk a a];rfl
section
variable {es:List (AV×AV×Nat)}{h:AH}{v:AV}
variable {α:Type} [DecidableEq α] {e:RE}{κ:α->AV}
theorem tw:∀{l:List (α×AV)}{k:α}{v:AV},(upG l k v).map (·.1)=if k∈l.map (·.1)then l.map (·.1)else l.map (·.1)++[k]
 |[],k,v=>by simp[upG]
 |p::r,k,v=>by
   unfold upG;by_cases q:p.1=k
   .rw[if_pos q,aS,aS,if_pos (by simp[q]),q]
   .rw[if_neg q,aS,tw,aS];by_cases m:k∈r.map (·.1)
    .rw[if_pos m,if_pos (aQ _ m)]
    .rw[if_neg m,if_neg (by rw[ao];rintro (h|h);exact q h.symm;exact m h)];rfl
theorem vD{l:List (α×AV)}{k:α}(h:(l.map (·.1)).Nodup):((upG l k v).map (·.1)).Nodup:=by
 rw[tw];split
 .exact h
 .rename_i hk
  rw[aN];refine⟨h,by simp,λa ha b hb=>?_⟩;rw[aP]at hb;subst hb;rintro rfl;exact hk ha
theorem lw:∀{l:List (α×AV)}{k k':α}{v:AV},lkG (upG l k v) k'=if k'=k then some v else lkG l k'
 |[],k,k',v=>by
   simp only[upG,lkG];by_cases q:k=k'
   .rw[if_pos q,if_pos q.symm]
   .rw[if_neg q,if_neg λe=>q e.symm]
 |p::r,k,k',v=>by
   unfold upG;by_cases q:p.1=k
   .rw[if_pos q];simp only[lkG];by_cases m:k'=k
    .rw[if_pos m,if_pos m.symm]
    .rw[if_neg m,if_neg (λe=>m e.symm),if_neg (λe=>m (e.symm.trans q))]
   .rw[if_neg q];simp only[lkG];rw[lw];by_cases m:p.1=k'
    .rw[if_pos m,if_pos m,if_neg (λe=>q (m.trans e))]
    .rw[if_neg m,if_neg m]
theorem HD{l:List (α×AV)}{k:α}:lkG l k=none↔k∉l.map (·.1):=by
 induction l with
 |nil=>simp[lkG]
 |cons p r ih =>
   simp only[lkG,aS,ao];by_cases q:p.1=k
   .rw[if_pos q];simp[q.symm]
   .rw[if_neg q,ih];constructor
    .rintro h (e|e)
     .exact q e.symm
     .exact h e
    .exact λh e=>h (.inr e)
theorem Dc:∀{l:List (α×AV)},(l.map (·.1)).Nodup->∀p∈l,lkG l p.1=some p.2
 |q::r,hn,p,hp=>by
   rw[aS]at hn;obtain⟨h1,h2⟩:=aY.1 hn;simp only[lkG];rcases ao.1 hp with rfl|hp
   .rw[if_pos rfl]
   .rw[if_neg λe=>h1 (by rw[e];exact iE hp)];exact Dc h2 p hp
theorem xM:∀{l:List (α×AV)}{k:α}{v:AV},lkG l k=some v->(k,v)∈l
 |p::r,k,v,h=>by
   simp only[lkG]at h;split at h
   .rename_i q
    cases h;subst q;exact aM ..
   .exact aQ _ (xM h)
def EntG(κ:α->AV)(es:List (AV×AV×Nat))(l:List (α×AV)):Prop:=es.map (λx=>(x.1,x.2.1))=l.map λp=>(κ p.1,p.2)
theorem EntG.len{l:List (α×AV)}(h:EntG κ es l):es.length=l.length:=by
 have:=congrArg List.length h;simpa using this
theorem uh(hk:KeyE e κ):∀{es:List (AV×AV×Nat)}{l:List (α×AV)},EntG κ es l->∀k:α,(lkG l k=none/\gX e (κ k) es=some none/\∀v,upG l k v=l++[(k,v)]) \/
 ∃i v n,gX e (κ k) es=some (some (i,v,n))/\es[i]?=some (κ k,v,n)/\lkG l k=some v/\∀u,upG l k u=l.set i (k,u)
 |[],l,h,k=>by
   have:l=[]:=by
    have:=congrArg List.length h;simp at this;exact bF.1 this.symm
   subst this;exact .inl ⟨rfl,rfl,λ_=>rfl⟩
 |x::r,[],h,k=>by simp[EntG]at h
 |(a,b,n)::r,p::l,h,k=>by
   have h':=h;simp only[EntG,aS,fh,ak]at h';obtain⟨⟨rfl,rfl⟩,h2⟩:=h';have hq:=hk k p.1;by_cases q:p.1=k
   .rw[bp q.symm]at hq;refine .inr ⟨0,p.2,n,?_,by rw[q];rfl,?_,λu=>?_⟩
    .simp only[gX,hq]
    .simp only[lkG,if_pos q]
    .simp only[upG,if_pos q,List.set_cons_zero]
   .rw[aX (λe=>q e.symm)]at hq;rcases uh hk (es:=r) (l:=l) h2 k with⟨h3,h4,h5⟩|⟨i,v,m,h3,h4,h5,h6⟩
    .refine .inl ⟨?_,?_,λv=>?_⟩
     .simp only[lkG,if_neg q,h3]
     .simp only[gX,hq,h4];rfl
     .simp only[upG,if_neg q,h5];rfl
    .refine .inr ⟨i+1,v,m,?_,h4,?_,λu=>?_⟩
     .simp only[gX,hq,h3];rfl
     .simp only[lkG,if_neg q,h5]
     .simp only[upG,if_neg q,h6,Ct]
structure EsG(κ:α->AV)(es:List (AV×AV×Nat))(c:Nat)(l:List (α×AV)):Prop where
 ent:EntG κ es l
 nod:(l.map (·.1)).Nodup
 st1:(es.map (·.2.2)).Pairwise (·<·)
 st2:∀x∈es,x.2.2<c
def MapG(κ:α->AV)(h:AH)(mb:Nat)(l:List (α×AV)):Prop:=∃es c,h.get mb=some (.mapo es c)/\EsG κ es c l
theorem MapG.nil{h:AH}{mb c:Nat}(hg:h.get mb=some (.mapo [] c)):MapG κ h mb []:=⟨[],c,hg,rfl,.nil,.nil,λx hx=>by cases hx⟩
theorem MapG.cong{h':AH}{mb:Nat}{l:List (α×AV)}(m:MapG κ h mb l)(hg:h'.get mb=h.get mb):MapG κ h' mb l:=by
 obtain⟨es,c,h1,h2⟩:=m;exact⟨es,c,by rw[hg];exact h1,h2⟩
theorem MapG.lt{mb:Nat}{l:List (α×AV)}(m:MapG κ h mb l):mb<h.next:=by
 obtain⟨es,c,h1,_⟩:=m;exact AH.lt_of_get h1
theorem MapG.len{h:AH}{mb:Nat}{l:List (α×AV)}(m:MapG κ h mb l):sz h (.mp mb)=some (.int .i64 (l.length:Nat)):=by
 obtain⟨es,c,h1,h2⟩:=m;have:=h2.ent.len;simp only[sz,h1,this]
theorem MapG.nod{h:AH}{mb:Nat}{l:List (α×AV)}(m:MapG κ h mb l):(l.map (·.1)).Nodup:=by
 obtain⟨es,c,h1,h2⟩:=m;exact h2.nod
theorem MapG.look(hk:KeyE e κ){mb:Nat}{l:List (α×AV)}(m:MapG κ h mb l)(z:AV)(k:α):jr h e false z (.mp mb) (κ k)=some ((lkG l k).getD z):=by
 obtain⟨es,c,h1,h2⟩:=m;rcases uh hk h2.ent k with⟨q1,q2,_⟩|⟨i,v,n,q1,q2,q3,_⟩
 .simp only[jr,h1,hk.ok,q2,if_true,q1];rfl
 .simp only[jr,h1,hk.ok,q1,if_true,q3];rfl
theorem MapG.look2(hk:KeyE e κ){mb:Nat}{l:List (α×AV)}(m:MapG κ h mb l)(z:AV)(k:α):jr h e true z (.mp mb) (κ k)=some (.tup [(lkG l k).getD z,.bool (lkG l k).isSome]):=by
 obtain⟨es,c,h1,h2⟩:=m;rcases uh hk h2.ent k with⟨q1,q2,_⟩|⟨i,v,n,q1,q2,q3,_⟩
 .simp only[jr,h1,hk.ok,q2,if_true,q1];rfl
 .simp only[jr,h1,hk.ok,q1,if_true,q3];rfl
theorem EsG.set{es:List (AV×AV×Nat)}{c i n:Nat}{l:List (α×AV)}{k:α}{v u:AV}(h:EsG κ es c l)(hi:es[i]?=some (κ k,v,n))(hu:upG l k u=l.set i (k,u)):EsG κ (es.set i (κ k,u,n)) c (upG l k u):=by
 refine⟨?_,vD h.nod,?_,λx hx=>?_⟩
 .unfold EntG;rw[hu,pq,pq,h.ent]
 .have:(es.set i (κ k,u,n)).map (·.2.2)=es.map (·.2.2):=by
   rw[pq];refine dI λj=>?_;rw[dB];split
   .rename_i e
    subst e;have hl:=(aF.1 hi).1;rw[aG,hi,ah,if_pos hl];rfl
   .rfl
  rw[this];exact h.st1
 .rcases qQ hx with hx|rfl
  .exact h.st2 x hx
  .have:=h.st2 _ (df hi);exact this
theorem EsG.add{c:Nat}{l:List (α×AV)}{k:α}(h:EsG κ es c l)(hu:upG l k v=l++[(k,v)]):EsG κ (es++[(κ k,v,c)]) (c+1) (upG l k v):=by
 refine⟨?_,vD h.nod,?_,λx hx=>?_⟩
 .unfold EntG;rw[hu,bR,bR,h.ent];rfl
 .rw[bR,nR];refine⟨h.st1,by simp,λa ha b hb=>?_⟩;simp only[aS,jf,aP]at hb;subst hb;obtain⟨x,hx,rfl⟩:=bG.1 ha;exact h.st2 x hx
 .rcases aw.1 hx with hx|hx
  .have:=h.st2 x hx;omega
  .rw[aP]at hx;subst hx;show c<c+1;omega
theorem MapG.up(hk:KeyE e κ){mb:Nat}{l:List (α×AV)}(m:MapG κ h mb l)(k:α)(v:AV):∃h',pL h e (.mp mb) (κ k) v=some (.un,h')/\MapG κ h' mb (upG l k v)/\∃o,Upd h h' mb o:=by
 obtain⟨es,c,h1,h2⟩:=m;rcases uh hk h2.ent k with⟨q1,q2,q3⟩|⟨i,w,n,q1,q2,q3,q4⟩
 .have u:=Nv (o:=.mapo (es++[(κ k,v,c)]) (c+1)) h1;exact⟨_,by simp only[pL,h1,hk.ok,q2,if_true],⟨_,_,u.get,h2.add (q3 v)⟩,_,u⟩
 .have u:=Nv (o:=.mapo (es.set i (κ k,v,n)) c) h1;exact⟨_,by simp only[pL,h1,hk.ok,q1,if_true],⟨_,_,u.get,h2.set q2 (q4 v)⟩,_,u⟩
theorem Ba:∀{es:List (AV×AV×Nat)}{i n:Nat}{k v:AV},(es.map (·.2.2)).Pairwise (·<·)->es[i]?=some (k,v,n)->sg ((n:Nat):Int) es=some (i,k,n)
 |(a,b,m)::r,0,n,k,v,hp,hi=>by
   simp only[aW,aa,ak]at hi;obtain⟨rfl,rfl,rfl⟩:=hi;simp only[sg,if_true]
 |(a,b,m)::r,i+1,n,k,v,hp,hi=>by
   rw[cR]at hi;rw[aS,cW]at hp;have:=hp.1 n (bG.2 ⟨_,df hi,rfl⟩);have hne:¬((m:Nat):Int)=((n:Nat):Int):=by have this:m<n:=this;omega
   simp only[sg,if_neg hne,Ba hp.2 hi,aC]
theorem MapG.men(hk:KeyE e κ){mb:Nat}{l:List (α×AV)}(m:MapG κ h mb l)(z:AV)(k:α):∃h1 n,zK h e z (.mp mb) (κ k)=some (.tup [(lkG l k).getD z,.int .i64 ((n:Nat):Int)],h1)/\(∃o,Upd h h1 mb o)/\jr h1 e false z (.mp mb) (κ k)=some ((lkG l k).getD z) /\
 ∀v,∃h2,BE h1 (.mp mb) (.int .i64 ((n:Nat):Int)) v=some (.un,h2)/\MapG κ h2 mb (upG l k v)/\∃o,Upd h1 h2 mb o:=by
 obtain⟨es,c,h1,h2⟩:=m;rcases uh hk h2.ent k with⟨q1,q2,q3⟩|⟨i,w,n,q1,q2,q3,q4⟩
 .have u:=Nv (o:=.mapo (es++[(κ k,z,c)]) (c+1)) h1;have E:=h2.add (q3 z);have m2:MapG κ (h.put mb (.mapo (es++[(κ k,z,c)]) (c+1))) mb (upG l k z):=⟨_,_,u.get,E⟩
  refine⟨_,c,by simp only[zK,h1,hk.ok,q2,if_true,q1];rfl,⟨_,u⟩,by rw[m2.look hk,lw,if_pos rfl,q1];rfl,λv=>?_⟩;have hi:(es++[(κ k,z,c)])[es.length]?=some (κ k,z,c):=by rw[aV (ab _),dP];rfl
  have u2:=Nv (o:=.mapo ((es++[(κ k,z,c)]).set es.length (κ k,v,c)) (c+1)) u.get;refine⟨_,by simp only[BE,u.get,Ba E.st1 hi],⟨_,_,u2.get,?_⟩,_,u2⟩;have hs:=h2.add (q3 v);have:(es++[(κ k,z,c)]).set es.length (κ k,v,c)=es++[(κ k,v,c)]:=by
   rw[List.set_append_right _ _ (ab _),dP];rfl
  rw[this];exact hs
 .have u:=Nv (o:=.mapo (es.set i (κ k,w,n)) c) h1;have E:=h2.set q2 (q4 w);have m2:MapG κ (h.put mb (.mapo (es.set i (κ k,w,n)) c)) mb (upG l k w):=⟨_,_,u.get,E⟩
  refine⟨_,n,by simp only[zK,h1,hk.ok,q1,if_true,q3,er],⟨_,u⟩,by rw[m2.look hk,lw,if_pos rfl,q3],λv=>?_⟩;have hl:=(aF.1 q2).1;have hi:(es.set i (κ k,w,n))[i]?=some (κ k,w,n):=cK hl;have u2:=Nv (o:=.mapo ((es.set i (κ k,w,n)).set i (κ k,v,n)) c) u.get;refine⟨_,by simp only[BE,u.get,Ba E.st1 hi],⟨_,_,u2.get,?_⟩,_,u2⟩;rw[List.set_set];exact h2.set q2 (q4 v)
end
open Go.Am
open Go.Pla (Met ks tr tr_app tr_root tr_last)
theorem xy{h:AH}{v:AV}{xs:List Nat}{lo:Nat}(hv:IsSl h 1 lo v (nC xs))(hl:xs.length<2^40):C prg 72 [v] h λ_ h'=>IsSl h' 1 lo v (nC xs.reverse)/\Ext lo h h'/\h'.next=h.next/\∀c,c<h.next->(∀b n,v=.sl b 0 n n->c≠b)->h'.get c=h.get c:=by
 have hi:∀ys:List Nat,iJ (ys.map λn=>((n:Nat):Int)).toArray=nC ys:=λys=>by rw[nC,Dk];rfl
 have bi:∀{d e:Array Int},d.size=e.size->nu (iJ d) 0 e=.cells (iJ e) 1 false:=fun {d e} he=>by
  unfold nu dD;have:(iJ d).drop (0+(iJ e).length)=[]:=by rw[List.drop_eq_nil_iff,iU,iU];omega
  rw[this,eZ];simp
 rcases hv with⟨rfl,hz⟩|⟨b,n,h1,rfl,h3,h4⟩
 .have hx:xs=[]:=by
   have:=congrArg List.length hz;rw[eJ]at this;exact bF.1 (by simpa using this)
  subst hx;refine(reverse_nil (h:=h)).mono λ_ h' e=>?_;subst e;exact⟨.inl ⟨rfl,rfl⟩,Nu,rfl,λ_ _ _=>rfl⟩
 .rw[eJ]at h4;generalize hd:(xs.map λn=>((n:Nat):Int)).toArray=d;have hs:d.size=xs.length:=by rw[<-hd];simp
  have hn:n=d.size:=om;subst hn;rw[<-hi xs,hd,<-bi (d:=d) (e:=d) rfl]at h3;refine(tL (c:=d.size) h3 (by rw[iU];omega) om).mono λ_ h' u=>⟨.inr ⟨b,d.size,h1,rfl,?_,?_⟩,u.ext h1,u.nx,λc _ hc=>u.ne (hc b _ rfl)⟩
  .have hr:nC xs.reverse=iJ d.reverse:=by rw[<-hi,<-hd];simp
   rw[hr,<-bi (d:=d) (e:=d.reverse) (by simp)];exact u.get
  .rw[eJ];simp;omega
def Lm(L:List (Nat×Nat)):List (Int×AV):=L.map λp=>(((p.1:Nat):Int),AV.int .i64 ((p.2:Nat):Int))
abbrev sH(h:AH)(mb:Nat)(L:List (Nat×Nat)):Prop:=MapG (λk:Int=>AV.int .i64 k) h mb (Lm L)
theorem LZ:∀{L:List (Nat×Nat)}{k:Int},lkG (Lm L) k=none\/∃y x A C,k=((y:Nat):Int)/\lkG (Lm L) k=some (.int .i64 ((x:Nat):Int))/\L=A++(y,x)::C
 |[],k=>.inl rfl
 |(y,x)::L,k=>by
   by_cases h:((y:Nat):Int)=k
   .refine .inr ⟨y,x,[],L,h.symm,?_,rfl⟩;simp only[Lm,aS,lkG,if_pos h]
   .have e:lkG (Lm ((y,x)::L)) k=lkG (Lm L) k:=by simp only[Lm,aS,lkG,if_neg h]
    rcases LZ (L:=L) (k:=k)with h1|⟨y',x',A,C,h1,h2,h3⟩
    .exact .inl (e.trans h1)
    .exact .inr ⟨y',x',(y,x)::A,C,h1,e.trans h2,by rw[h3];rfl⟩
theorem sZ{L:List (Nat×Nat)}{k:Nat}:lkG (Lm L) ((k:Nat):Int)=none↔k∉ks L:=by
 rw[HD];simp only[Lm,ks,gC,bG,not_exists,not_and];constructor
 .intro h p hp e;exact h p hp (by have e':p.1=k:=e;show((p.1:Nat):Int)=_;rw[e'])
 .intro h p hp e;exact h p hp (by have e':((p.1:Nat):Int)=((k:Nat):Int):=e;omega)
section
variable {g:Go.Blk.Gr}{Bl:List Nat}{laid thr:Nat->Bool}
theorem MI{r:Nat}{L:List (Nat×Nat)}(m:Met g Bl laid thr r L)(hB:∀i∈Bl,i<g.m){x:Nat}(hx:x∈ks L):(x=r/\lkG (Lm L) ((x:Nat):Int)=some (.int .i64 ((x:Nat):Int)))\/∃z,z≠x/\z∈ks L/\lkG (Lm L) ((x:Nat):Int)=some (.int .i64 ((z:Nat):Int))/\tr L x=tr L z++[x]:=by
 rcases LZ (L:=L) (k:=((x:Nat):Int))with h|⟨y,z,A,C,h1,h2,h3⟩
 .exact absurd hx (sZ.1 h)
 have hy:x=y:=om;subst hy;by_cases hA:A=[]
 .subst hA;obtain⟨T,hT⟩:=m.root;rw[hT]at h3;simp only[bt]at h3;injection h3 with h4 _;injection h4 with h4 h5;subst h4 h5;exact .inl ⟨rfl,h2⟩
 .obtain⟨p1,p2,i,hi,hj,_⟩:=m.par A x z C h3 hA;have hne:z≠x:=by
   intro e;subst e;have:=(g.ok i (hB i hi)).2.2;rcases Go.Pla.jn_iff.1 hj with⟨a,b⟩|⟨a,b⟩<;>omega
  have nd:=m.nd;refine .inr ⟨z,hne,by rw[h3,Go.Pla.ks_app];exact bg _ p1,h2,?_⟩;have e1:L=(A++[(x,z)])++C:=by rw[h3];simp
  rw[e1]at nd |-;rw[tr_app nd (by simp[ks]),tr_last hA];rw[bO]at nd |-;rw[tr_app nd p1]
theorem Ev{h:AH}{mb r y:Nat}{L:List (Nat×Nat)}(hm:sH h mb L)(m:Met g Bl laid thr r L)(hB:∀i∈Bl,i<g.m)(hy:y∈ks L)(hL:L.length<2^30):C prg 94 [.mp mb,.int .i64 (y:Nat)] h λv h'=>IsSl h' 1 h.next v (nC (tr L y))/\Ext h.next h h':=by
 refine Ny pf94 ?_;have hml:=hm.lt;have x0:Ext h.next h (h.new (.cells [.int .i64 (y:Nat)] 1 false)):=Nt (ab _);have g0:(h.new (.cells [.int .i64 (y:Nat)] 1 false)).get h.next=some (.cells [.int .i64 (y:Nat)] 1 false):=by rw[AH.get_new,if_pos rfl]
 refine ai (aD (Mi0) ?_);refine ai (bW (λts h1=>h1=h.new (.cells [.int .i64 (y:Nat)] 1 false)/\aR ts 0=.mp mb/\aR ts 1=.int .i64 (y:Nat)/\aR ts 5=.sl h.next 0 1 1) (by simp only[am,aI,simprocAttr,bP]) ?_);rintro ts h1 ⟨rfl,e0,e1,e5⟩;generalize h.new (.cells [.int .i64 (y:Nat)] 1 false)=h1 at *
 refine ai (cA (fO (λn ts h2=>∃(x:Nat) (zs:List Nat) (v:AV),n=(tr L x).length/\x∈ks L/\tr L y=tr L x++zs.reverse/\IsSl h2 1 h.next v (nC (zs++[x]))/\Ext h.next h h2/\aR ts 0=.mp mb/\aR ts 1=.int .i64 (x:Nat)/\aR ts 5=v) ?_ (n:=(tr L y).length) ⟨y,[],_,rfl,hy,by simp,.inr ⟨h.next,1,ab _,rfl,g0,rfl⟩,x0,e0,e1,e5⟩));clear e0 e1 e5 g0 x0;rintro n ts h2 ⟨x,zs,v,hn,hx,ht,hv,x2,e0,e1,e5⟩;have hm2:sH h2 mb L:=hm.cong (x2.gt _ hml);have lk:=hm2.look xW (.int .i64 0) ((x:Nat):Int);have hzl:zs.length+(tr L x).length<=L.length:=by
  have h1:=congrArg List.length ht;rw[aB,kB]at h1;have h2:=Go.Pla.tr_len L y;omega
 rcases MI m hB hx with⟨hr,hl⟩|⟨z,hzx,hz,hl,htz⟩
 ·
  rw[hl]at lk;dsimp only[Option.getD]at lk;refine ai (ai (aD (M5 e0 e1 lk @decide_true @cD) ?_));refine dR (Z2 @decide_true @cD) ?_;refine fp ⟨λ_=>?_,λe=>absurd rfl e⟩;have hend:tr L y=(zs++[x]).reverse:=by rw[ht,hr,tr_root m];simp
  refine ai (bS (bE 1 (M2 e0 e5) rfl (Z2 e0 e5) (M2 e0 e5) (xy hv (by rw[aB];simp;omega)) λ_ h3 hq=>?_));obtain⟨i3,x3,_,_⟩:=hq;refine bM (M0) ?_;refine ai (aD (M1 e5) ?_);exact bU ⟨v,(by simp only[rs,rf94,am,aI,simprocAttr,e5]<;>rfl),by rw[hend];exact i3,x2.trans x3⟩
 .rw[hl]at lk;dsimp only[Option.getD]at lk;have dz:decide (((z:Nat):Int)=((x:Nat):Int))=false:=by rw[aZ];omega
  refine ai (ai (aD (by simp only[am,aI,simprocAttr,e0,e1,lk,dz,cr]<;>rfl) ?_));refine dv (by simp only[am,aI,simprocAttr,dz,cr]) (bQ (cA ?_));refine ai (bW (λts h'=>h'=h2/\aR ts 0=.mp mb/\aR ts 1=.int .i64 (z:Nat)/\aR ts 5=v) (by simp only[am,aI,simprocAttr,e0,e1,e5,lk]) ?_);rintro ts h3 ⟨rfl,e0,e1,e5⟩;have hnl:(nC (zs++[x])).length=zs.length+1:=by rw[eJ,aB];rfl
  obtain⟨v',h4,a4,i4,x4,n4⟩:=hv.push (bytes:=8) [.int .i64 (z:Nat)] x2.nx om rfl rfl (by rw[hnl,lG];unfold bq;omega) (by rw[hnl,lG];unfold bq;omega);refine bW (λts h'=>h'=h4/\aR ts 0=.mp mb/\aR ts 1=.int .i64 (z:Nat)/\aR ts 5=v') (by simp only[am,aI,simprocAttr,e0,e1,e5,a4]) ?_;rintro ts h5 ⟨rfl,e0,e1,e5⟩;refine⟨(tr L z).length,?_,z,zs++[x],v',rfl,hz,?_,?_,x2.trans x4,e0,e1,e5⟩
  .rw[hn,htz];simp
  .rw[ht,htz];simp
  .rw[lS];exact i4
end
open Go.Am
variable {h:AH}{lo x:Nat}{v:AV}{xs:List Nat}
def IsQ(h:AH)(lo:Nat)(v:AV)(xs:List Nat):Prop:=SlN h v xs/\∃b o cs,v=.sl b o xs.length xs.length/\lo<=b/\h.get b=some (.cells cs 1 false)
theorem IsQ.ext{h h':AH}{lo k:Nat}{v:AV}{xs:List Nat}(q:IsQ h lo v xs)(x:Ext k h h')(hk:h.next<=k):IsQ h' lo v xs:=by
 obtain⟨h0,b,o,cs,h1,h2,h3⟩:=q;exact⟨h0.ext x hk,b,o,cs,h1,h2,by rw[x.gt _ (cB (AH.lt_of_get h3) hk)];exact h3⟩
theorem IsQ.cong{h h':AH}{lo:Nat}{v:AV}{xs:List Nat}(q:IsQ h lo v xs)(hk:∀c,lo<=c->c<h.next->h'.get c=h.get c):IsQ h' lo v xs:=by
 obtain⟨h0,b,o,cs,h1,h2,h3⟩:=q;exact⟨h0.cong λb' o' n' c' e=>by rw[h1]at e;cases e;exact hk _ h2 (AH.lt_of_get h3),b,o,cs,h1,h2,by rw[hk _ h2 (AH.lt_of_get h3)];exact h3⟩
theorem IsQ.one{b:Nat}(hb:lo<=b)(hg:h.get b=some (.cells [.int .i64 (x:Nat)] 1 false)):IsQ h lo (.sl b 0 1 1) [x] :=
 ⟨Sl.row hg rfl (ab _),b,0,_,rfl,hb,hg⟩
theorem IsQ.len(q:IsQ h lo v xs):ly v=some (.int .i64 (xs.length:Nat)):=by
 obtain⟨_,b,o,cs,rfl,_⟩:=q;rfl
theorem IsQ.head{x:Nat}(q:IsQ h lo v (x::xs)):∃b o,lz 1 v (.int .i64 0)=some (.ptr b o)/\aA h b o 1=some [.int .i64 (x:Nat)]:=by
 obtain⟨b,o,h1,h2,_⟩:=q.1.at1 (i:=0) (y:=.int .i64 (x:Nat)) rfl;exact⟨b,o,h1,h2⟩
theorem IsQ.tail(q:IsQ h lo v (x::xs)):∃v',slV h 1 v (some (.int .i64 1)) none none=some v'/\IsQ h lo v' xs:=by
 obtain⟨h0,b,o,cs,h1,h2,h3⟩:=q;obtain⟨v',e1,e2,_,_⟩:=h0.from (lo:=1) (by simp);refine⟨v',e1,(by
  rw[aS,aS,List.drop_one,qf]at e2;exact e2),b,if xs.length=0 then o else o+1,cs,?_,h2,h3⟩
 have hb1:bnd (.int .i64 ((1:Nat):Int)) (xs.length+1)=some 1:=gJ om;subst h1;simp only[slV,h3,if_true,pV,ar,fS,bC,if_false,hb1,aC,aa]at e1;rw[<-e1];congr 1;by_cases hz:xs.length=0
 .rw[if_pos om,if_pos hz]
 .rw[if_neg om,if_neg hz,bh]
theorem IsQ.push(q:IsQ h lo v xs)(hlo:lo<=h.next)(hl:xs.length<2^34)(x:Nat) :
 ∃v' h',iX (h.new (.cells [.int .i64 (x:Nat)] 1 false)) 1 8 v (.sl h.next 0 1 1)=some (v',h')/\IsQ h' lo v' (xs++[x])/\Ext lo h h'/\h.next<=h'.next/\(∀c,c<h.next->(∀b o n m,v=.sl b o n m->c≠b)->h'.get c=h.get c)/\∀b o n m,v'=.sl b o n m->h.next<=b:=by
 obtain⟨h0,b,o,cs,rfl,h2,h3⟩:=q;have hb:=AH.lt_of_get h3;have x0:Ext h.next h (h.new (.cells [.int .i64 (x:Nat)] 1 false)):=Nt (ab _);have g0:(h.new (.cells [.int .i64 (x:Nat)] 1 false)).get h.next=some (.cells [.int .i64 (x:Nat)] 1 false):=by rw[AH.get_new,if_pos rfl]
 have n0:(h.new (.cells [.int .i64 (x:Nat)] 1 false)).next=h.next+1:=rfl;have gb:(h.new (.cells [.int .i64 (x:Nat)] 1 false)).get b=some (.cells cs 1 false):=by rw[x0.gt _ hb];exact h3
 have s0:=(h0.ext x0 (ab _)).src;have s1:=(Sl.row (h:=h.new (.cells [.int .i64 (x:Nat)] 1 false)) (c:=1) g0 rfl (ab _)).src;generalize h.new (.cells [.int .i64 (x:Nat)] 1 false)=h1 at *
 have u:=Nv (o:=.dead) gb;have x2:Ext (h1.put b .dead).next (h1.put b .dead) ((h1.put b .dead).new (.cells (nC xs++[.int .i64 (x:Nat)]) 1 false)):=Nt (ab _);have g2:((h1.put b .dead).new (.cells (nC xs++[.int .i64 (x:Nat)]) 1 false)).get (h1.put b .dead).next=some (.cells (nC xs++[.int .i64 (x:Nat)]) 1 false):=by rw[AH.get_new,if_pos rfl]
 have hf:((xs.map λn=>((n:Nat):Int)).map eI).flatten=nC xs:=by rw[nC,sS]
 have hsrc:aA h1 b o (xs.length*1)=some (nC xs):=by
  have:=s0.1;simp only[eT,gb,if_true,hf,ah]at this;revert this;cases aA h1 b o (xs.length*1)with
  |none=>intro h;simp at h
  |some w=>intro h;simp at h;rw[h]
 refine⟨.sl (h1.put b .dead).next 0 (xs.length+1) (xs.length+1),(h1.put b .dead).new (.cells (nC xs++[.int .i64 (x:Nat)]) 1 false),?_,⟨?_,(h1.put b .dead).next,0,_,by simp,?_,g2⟩,?_,?_⟩
 .simp only[iX];have s1':eT h1 1 (.sl h.next 0 1 1)=some (1,[.int .i64 (x:Nat)]):=s1.1;rw[s1'];have ho:([AV.int .i64 (x:Nat)].all AV.one)=true:=rfl;simp only[ho,gb,hsrc,if_true];rw[if_neg om,if_neg om,if_pos (by unfold bq;omega),u.nx]
 .refine et (lo:=0) (.inr ⟨_,_,dx _,rfl,?_,?_⟩)
  .rw[lS];exact g2
  .rw[eJ,aB];simp
 .rw[u.nx,n0];omega
 .exact((x0.mono om).trans (u.ext h2)).trans (x2.mono (by rw[u.nx,n0];omega))
 .have:=x2.nx;rw[u.nx,n0]at this;refine⟨om,λc hc hne=>?_,λb' o' n' m' e=>?_⟩
  .rw[x2.gt c (by rw[u.nx,n0];omega),u.ne (hne b o _ _ rfl),x0.gt c hc]
  .cases e;rw[u.nx,n0];omega
end Go.Proofs.YtlolkmcdimgplaaGreat
namespace Go.Pla
open Go.Blk
variable {g:Gr}{Bl:List Nat}{laid thr:Nat->Bool}
theorem nd_lt{n:Nat}{l:List Nat}(nd:l.Nodup)(h:∀x∈l,x<n):l.length<=n:=by
 have h1:((List.range n).filter λe=>decide (e∈l)).Perm l:=(gO (List.nodup_range.filter _) nd).2 λe=>by
  simp only[aJ,aK,aq];exact⟨λh=>h.2,λq=>⟨h e q,q⟩⟩
 have h2:=h1.length_eq;have h3:=cF (λe=>decide (e∈l)) (List.range n);rw[br]at h3;omega
theorem DU{x:Nat}{s:LQ}{i:Nat}:∃C,(stepE g laid thr x s i).1=s.1++C:=by
 unfold stepE;split
 .exact⟨_,rfl⟩
 .exact⟨[],by simp⟩
theorem fold_pre{x:Nat}:∀(is:List Nat) (s:LQ),∃C,(is.foldl (stepE g laid thr x) s).1=s.1++C
 |[],s=>⟨[],by simp⟩
 |i::is,s=>by
   obtain⟨C,h1⟩:=fold_pre is (stepE g laid thr x s i);obtain⟨D,h2⟩:=DU (g:=g) (laid:=laid) (thr:=thr) (x:=x) (s:=s) (i:=i);exact⟨D++C,by rw[gu,h1,h2,bO]⟩
theorem full_pre:∀(f:Nat) (s:LQ),∃C,full g Bl laid thr f s=s.1++C
 |0,s=>⟨[],by simp[full]⟩
 |f+1,(L,[])=>⟨[],by simp[full]⟩
 |f+1,(L,x::Q)=>by
   obtain⟨C,h1⟩:=full_pre f (Bl.foldl (stepE g laid thr x) (L,Q));obtain⟨D,h2⟩:=fold_pre (g:=g) (laid:=laid) (thr:=thr) (x:=x) Bl (L,Q);exact⟨D++C,by
    show full g Bl laid thr f (Bl.foldl (stepE g laid thr x) (L,Q))=_;rw[h1,h2,bO]⟩
theorem Met.lt{r:Nat}{L:List (Nat×Nat)}(m:Met g Bl laid thr r L)(hB:∀i∈Bl,i<g.m)(hr:r<g.n):∀z∈ks L,z<g.n:=by
 intro z hz;obtain⟨p,hp,rfl⟩:=bG.1 hz;obtain⟨A,C,rfl⟩:=cw hp;by_cases hA:A=[]
 .subst hA;obtain⟨T,hT⟩:=m.root;rw[bt]at hT;injection hT with h _;rw[h];exact hr
 .obtain⟨_,_,i,hi,hj,_⟩:=m.par A p.1 p.2 C rfl hA;have:=g.ok i (hB i hi);rcases jn_iff.1 hj with⟨a,b⟩|⟨a,b⟩<;>omega
def todo(n:Nat)(s:LQ):Nat:=n-(ks s.1).length+s.2.length
theorem todo_step{r x i:Nat}{is:List Nat}{s:LQ}(h:Srch g Bl laid thr r s (some (x,i::is)))(hB:∀i∈Bl,i<g.m)(hr:r<g.n)(hi:i∈Bl):todo g.n (stepE g laid thr x s i)<=todo g.n s:=by
 have h2:=h.step hB hi;have hl:=nd_lt h2.met.nd (h2.met.lt hB hr);revert hl;unfold stepE todo;split
 .intro hl;have e1:(ks (s.1++[(g.oth i x,x)])).length=(ks s.1).length+1:=by simp[ks]
  dsimp only at hl |-;rw[e1]at hl |-;split
  .simp;omega
  .omega
 .intro _;exact ab _
theorem Srch.fold{r x:Nat}(hB:∀i∈Bl,i<g.m)(hr:r<g.n):∀{is:List Nat}{s:LQ},(∀i∈is,i∈Bl)->Srch g Bl laid thr r s (some (x,is))->Srch g Bl laid thr r (is.foldl (stepE g laid thr x) s) none/\todo g.n (is.foldl (stepE g laid thr x) s)<=todo g.n s
 |[],s,_,h=>⟨h.end,ab _⟩
 |i::is,s,hi,h=>by
   have h1:=h.step hB (hi i (by simp));have h2:=todo_step h hB hr (hi i (by simp));obtain⟨h3,h4⟩:=Srch.fold hB hr (λj hj=>hi j (by simp[hj])) h1;exact⟨h3,cI h4 h2⟩
theorem full_srch{r:Nat}(hB:∀i∈Bl,i<g.m)(hr:r<g.n):∀(f:Nat) {s:LQ},Srch g Bl laid thr r s none->todo g.n s<=f->Srch g Bl laid thr r (full g Bl laid thr f s,[]) none
 |0,(L,[]),h,_=>h
 |0,(L,x::Q),_,ht=>by simp[todo]at ht
 |f+1,(L,[]),h,_=>h
 |f+1,(L,x::Q),h,ht=>by
   obtain⟨h1,h2⟩:=h.pop.fold hB hr (λ_ h=>h);exact full_srch hB hr f h1 (by simp only[todo,ar]at ht h2 |-;omega)
theorem tail_app{A C:List (Nat×Nat)}(h:A≠[]):ks (A++C).tail=ks A.tail++ks C:=by
 cases A with
 |nil=>exact absurd rfl h
 |cons a A=>simp[ks]
def Hit(F:List (Nat×Nat))(fin:Nat->Bool)(o:Option Nat):Prop :=
 match o with
 |some y=>∃A x C,F=A++(y,x)::C/\A≠[]/\(∀z∈ks A.tail,fin z=false)/\fin y=true
 |none=>∀z∈ks F.tail,fin z=false
end Go.Pla
