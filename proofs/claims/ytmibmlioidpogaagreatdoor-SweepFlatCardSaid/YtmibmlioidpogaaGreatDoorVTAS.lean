/- Two ways from one vertex; what is found in a part. -/
import Derived.Test.YtmibmlioidpogaaGreatDoorVTAR
set_option linter.all false
namespace Go.Pla
open Go.Blk
variable {F L:List (Nat×Nat)}{b c t:List Nat}{e f r v x0 y1 y2 z:Nat}{o:Option Nat}
variable {g:Gr}{Bl:List Nat}{laid thr:Nat->Bool}
theorem za(p:Pln g Bl){X:Nat->Bool}(hX:Even g Bl X)(K:Nat->Bool):par Bl (λe=>X e&&(K (g.tl e)^^K (g.hd e)))=false:=by
 have h1:par (List.range g.n) (λv=>K v&&par Bl (λe=>X e&&at_ g e v))=false:=ft λv _=>by rw[hX v];simp
 rw[bH (q:=λv=>par Bl (λe=>X e&&(K v&&at_ g e v))) (λv _=>by
  rw[<-iu];exact bH λe _=>by cases X e<;>cases K v<;>rfl),kA]at h1
 rw[<-h1];refine bH λe he=>?_;rw[iu];congr 1;have hok:=g.ok e (p.lt e he);rw[bH (q:=λv=>((v==g.tl e)&&K v)^^((v==g.hd e)&&K v)) (λv _=>by
  unfold at_;rw[gX (a:=g.tl e),gX (a:=g.hd e)];cases v==g.tl e<;>cases v==g.hd e<;>cases K v<;>rfl),eQ,dU bX (by simpa using hok.1),dU bX (by simpa using hok.2.1)]
theorem xA(m:Met g Bl laid thr r L){y:Nat}(hy:y∈ks L)(hz:z∈tr L y):z∈ks L:=by
 obtain⟨t,h1,_,_,_,h5⟩:=tr_ok L.length (ab _) m y hy;rw[h1]at hz;exact(h5 z hz).1
theorem vz{r:Nat}:∀(n:Nat) {L:List (Nat×Nat)},L.length<=n->Met g Bl laid thr r L->∀(y z:Nat),y∈ks L->z∈tr L y->∃s,tr L y=tr L z++s
 |0,L,hn,m=>by
   obtain⟨T,hT⟩:=m.root;rw[hT]at hn;simp at hn
 |n+1,L,hn,m=>by
   intro y z hy hz;rcases cU L with h|⟨A,⟨w,x⟩,h⟩
   .rw[h]at hy;simp[ks]at hy
   rw[dl]at h;subst h;by_cases hA:A=[]
   .subst hA;obtain⟨T,hT⟩:=m.root;rw[aW]at hT hy hz |-;injection hT with h1 h2;injection h1 with h1 h3;subst h1 h3;have hyw:=hy;simp only[ks,bI,List.map_nil,cV]at hyw;subst hyw;have hzy:=hz;simp[tr,trr]at hzy;subst hzy;exact⟨[],by simp⟩
   .have mA:=m.pre hA;by_cases hyA:y∈ks A
    .rw[tr_app m.nd hyA]at hz |-;have hzA:=xA mA hyA hz;obtain⟨s,hs⟩:=vz n (by simp at hn;omega) mA y z hyA hz;exact⟨s,by rw[tr_app m.nd hzA];exact hs⟩
    .have hyw:y=w:=by
      rw[ks_app,aw]at hy;rcases hy with hy|hy
      .exact absurd hy hyA
      .simpa[ks]using hy
     subst hyw;obtain⟨hx,_⟩:=m.par A y x [] rfl hA;by_cases hzy:z=y
     .subst hzy;exact⟨[],by simp⟩
     .rw[tr_last hA]at hz |-;have hz:z∈tr A x:=by
       rcases aw.1 hz with h|h
       .exact h
       .exact absurd (by simpa using h) hzy
      have hzA:=xA mA hx hz;obtain⟨s,hs⟩:=vz n (by simp at hn;omega) mA x z hx hz;exact⟨s++[y],by rw[tr_app m.nd hzA,hs,bD]⟩
theorem sq{z:Nat}:∀{a b c d:List Nat},(a++z::b).Nodup->a++z::b=c++z::d->a=c
 |[],b,[],d,_,_=>rfl
 |[],b,e::c,d,nd,h=>by
   rw[aW,aB]at h;injection h with h1 h2;rw[aW,aS]at nd;exact absurd (by rw[h2];simp) nd.1
 |e::a,b,[],d,nd,h=>by
   rw[aW,aB]at h;injection h with h1 h2;subst h1;rw[aB,aS]at nd;exact absurd (by simp) nd.1
 |e::a,b,e'::c,d,nd,h=>by
   rw[aB,aB]at h;injection h with h1 h2;subst h1;rw[aB,aS]at nd;rw[sq nd.2 h2]
theorem lst_cat{r:Nat}:∀{t:List Nat},∃s,r::t=s++[lst r t]
 |[]=>⟨[],rfl⟩
 |y::t=>by
   obtain⟨s,h⟩:=lst_cat (r:=y) (t:=t);exact⟨r::s,by rw[lst,aB,<-h]⟩
theorem fork(m:Met g Bl laid thr r L)(h1:y1∈ks L)(h2:y2∈ks L){a:List Nat}(e1:tr L y1=c++v::a)(e2:tr L y2=c++v::b)(hd:∀z a' b',a=z::a'->b=z::b'->False):∀z∈a,z∉b:=by
 intro z hza hzb;obtain⟨s1,q1⟩:=vz L.length (ab _) m y1 z h1 (by rw[e1];simp[hza]);obtain⟨s2,q2⟩:=vz L.length (ab _) m y2 z h2 (by rw[e2];simp[hzb]);have hz:z∈ks L:=xA m h1 (by rw[e1];simp[hza]);obtain⟨t,t1,t2,_⟩:=tr_ok L.length (ab _) m z hz;obtain⟨s,hs⟩:=lst_cat (r:=r) (t:=t);rw[<-t1,t2]at hs;obtain⟨a1,a2,rfl⟩:=bZ hza;obtain⟨b1,b2,rfl⟩:=bZ hzb;have n1:(c++v::(a1++z::a2)).Nodup:=by
  obtain⟨t',u1,_,u3,_⟩:=tr_ok L.length (ab _) m y1 h1;rw[<-e1,u1];exact u3
 have n2:(c++v::(b1++z::b2)).Nodup:=by
  obtain⟨t',u1,_,u3,_⟩:=tr_ok L.length (ab _) m y2 h2;rw[<-e2,u1];exact u3
 rw[e1,hs]at q1;rw[e2,hs]at q2;have r1:c++v::a1=s:=sq (z:=z) (b:=a2) (d:=s1) (by simpa using n1) (by simpa using q1);have r2:c++v::b1=s:=sq (z:=z) (b:=b2) (d:=s2) (by simpa using n2) (by simpa using q2);have r3:a1=b1:=by
  have:=r1.trans r2.symm;have:=List.append_cancel_left this;injection this
 subst r3;cases a1 with
 |nil=>exact hd z a2 b2 rfl rfl
 |cons w a1=>exact hd w (a1++z::a2) (a1++z::b2) rfl rfl
theorem back_ex(p:Pln g Bl)(hb:Bond g Bl)(hl:Link g Bl){e0 k0:Nat}(he0:e0∈Bl)(hk0:k0∈Bl)(hne:k0≠e0)(hf:g.n<=f)(h:Hit (full g Bl (λe=>decide (e=e0)) (λ_=>true) f ([(g.tl e0,g.tl e0)],[g.tl e0])) (λy=>decide (y=g.hd e0)) o) :
 o=some (g.hd e0)/\∃t,tr (full g Bl (λe=>decide (e=e0)) (λ_=>true) f ([(g.tl e0,g.tl e0)],[g.tl e0])) (g.hd e0)=t/\Cc g Bl t/\∃t',t=g.tl e0::t'/\lst (g.tl e0) t'=g.hd e0:=by
 have hlt:=p.lt e0 he0;have hok:=g.ok e0 hlt;have hs:=full_srch (g:=g) (Bl:=Bl) (laid:=λe=>decide (e=e0)) (thr:=λ_=>true) (r:=g.tl e0) p.lt hok.1 f Srch.start (by show g.n-1+1<=f;omega);generalize full g Bl (λe=>decide (e=e0)) (λ_=>true) f ([(g.tl e0,g.tl e0)],[g.tl e0])=F at h hs |-;have hm:Met g Bl (λe=>decide (e=e0)) (λ_=>true) (g.tl e0) F:=hs.met;have hcl:∀z∈ks F,∀i∈Bl,at_ g i z=true->i≠e0->g.oth i z∈ks F:=λz hz i hi ha hie=>by
  rcases hs.done z hz (.inr rfl)with h1|⟨_,h1⟩|h1
  .simp at h1
  .cases h1
  .exact h1 i hi ha (by simpa using hie)
 obtain⟨T,hT⟩:=hm.root;have hroot:g.tl e0∈ks F:=by rw[hT];simp[ks]
 have hmet:g.hd e0∈ks F:=by
  refine Classical.byContradiction λhno=>?_;have:∃v k,k∈Bl/\k≠e0/\at_ g e0 v=true/\at_ g k v=true:=by
   refine Classical.byContradiction λhnx=>?_;have:=hl (λe=>e==e0) (λv e k he hk hev hkv=>by
    by_cases q1:e=e0
    .by_cases q2:k=e0
     .rw[q1,q2]
     .exact absurd ⟨v,k,hk,q2,q1▸hev,hkv⟩ hnx
    .by_cases q2:k=e0
     .exact absurd ⟨v,e,he,q1,q2▸hkv,hev⟩ hnx
     .rw[beq_eq_false_iff_ne.2 q1,beq_eq_false_iff_ne.2 q2]) e0 he0 k0 hk0
   simp[hne]at this
  obtain⟨v,k,hk,hke,hev,hkv⟩:=this;obtain⟨X,hX,hXj⟩:=hb v e0 k he0 hk hev hkv (Ne.symm hke);have hx0:X e0=true:=by rw[hXj e0 he0 hev];simp
  have h1:=za p hX (λz=>decide (z∈ks F));rw[bH (q:=λe=>(e==e0)&&X e) (λe he=>by
   by_cases q:e=e0
   .subst q;rw[bj hroot,aN hno,beq_self_eq_true];cases X e<;>rfl
   .rw[beq_eq_false_iff_ne.2 q];have hie:=p.lt e he;have it:g.inc e (g.tl e):=⟨hie,.inl rfl⟩
    have ih:g.inc e (g.hd e):=⟨hie,.inr rfl⟩
    have ot:g.oth e (g.tl e)=g.hd e:=by unfold Gr.oth;omega
    have oh:g.oth e (g.hd e)=g.tl e:=by unfold Gr.oth;omega
    have:(g.tl e∈ks F)↔(g.hd e∈ks F):=by
     constructor
     .intro hz;have:=hcl _ hz e he ((at_inc hie).2 it) q;rwa [ot]at this
     .intro hz;have:=hcl _ hz e he ((at_inc hie).2 ih) q;rwa [oh]at this
    have this:decide (g.tl e∈ks F)=decide (g.hd e∈ks F):=by rw[decide_eq_decide];exact this
    rw[this];simp),dU p.nd he0,hx0]at h1
  cases h1
 obtain⟨t,t1,t2,t3,t4,t5⟩:=tr_ok F.length (ab _) hm (g.hd e0) hmet;constructor
 .cases o with
  |none =>
    exfalso;have h:∀z∈ks F.tail,decide (z=g.hd e0)=false:=h;have:g.hd e0∈ks F.tail:=by
     rw[hT]at hmet |-;simp only[ks,bI,au,oW]at hmet |-;rcases hmet with h1|h1
     .exact absurd h1.symm hok.2.2
     .exact h1
    have:=h _ this;simp at this
  |some y =>
    obtain⟨A,x,C,_,_,_,hy⟩:=h;have:y=g.hd e0:=by simpa using hy
    rw[this]
 .refine⟨_,t1,?_⟩;have hmono:∀(s:List Nat),Ch g (Bl.filter λi=>!(decide (i=e0))) s->Ch g Bl s:=by
   intro s;induction s with
   |nil=>exact λh=>h
   |cons a s ih =>
     cases s with
     |nil=>exact λh=>h
     |cons b s =>
       rintro⟨⟨e,he,hj⟩,h2⟩;exact⟨⟨e,(bq.1 he).1,hj⟩,ih h2⟩
  refine⟨⟨?_,t3,?_⟩,t,rfl,t2⟩
  .have key:∀(t:List Nat) (u:Nat),Ch g Bl (u::t)->lst u t=g.hd e0->Ch g Bl (u::t++[g.tl e0]):=by
    intro t;induction t with
    |nil =>
      intro u _ hu;have hu:u=g.hd e0:=hu;subst hu;exact⟨⟨e0,he0,by rw[jn_iff];exact .inr ⟨rfl,rfl⟩⟩,trivial⟩
    |cons w t ih =>
      intro u hc hu;exact⟨hc.1,ih w hc.2 hu⟩
   exact key t _ (hmono _ t4) t2
  .cases t with
   |nil=>exact absurd t2 hok.2.2
   |cons a t =>
     cases t with
     |nil =>
       have:a=g.hd e0:=t2;subst this;obtain⟨⟨e,he,hj⟩,_⟩:=t4;obtain⟨he1,he2⟩:=bq.1 he;have:=p.one e he1 e0 he0 _ _ hj (by rw[jn_iff];exact .inl ⟨rfl,rfl⟩);simp[this]at he2
     |cons b t=>simp
open Go.Blk
variable {g:Gr}{Bl:List Nat}{H V:Nat->Bool}{pt:Nat->Nat}
def Plc(g:Gr)(Bl:List Nat)(H V:Nat->Bool):Prop:=∀v,V v=true↔∃e∈Bl,at_ g e v=true/\H e=true
theorem Plc.fresh(h:Plc g Bl H V)(hv:V v=false):∀e∈Bl,at_ g e v=true->H e=false:=λe he ha=>by
 cases hH:H e
 .rfl
 .rw[(h v).2 ⟨e,he,ha,hH⟩]at hv;cases hv
theorem oth_at(he:e<g.m)(h:at_ g e v=true):at_ g e (g.oth e v)=true/\g.oth e (g.oth e v)=v:=by
 have:=inc_oth ((at_inc he).1 h);exact⟨(at_inc he).2 this.1,this.2.2⟩
theorem FQ(p:Pln g Bl)(hV:Plc g Bl H V)(P:Part g Bl H pt){x0 e0:Nat}(h0:V x0=false)(he0:e0∈Bl)(ha0:at_ g e0 x0=true):∀(n:Nat) {L:List (Nat×Nat)},L.length<=n->Met g Bl H (λv=>!(V v)) x0 L->∀z∈ks L,V z=false->∀e∈Bl,at_ g e z=true->pt e=pt e0
 |0,L,hn,m=>by
   obtain⟨T,hT⟩:=m.root;rw[hT]at hn;simp at hn
 |n+1,L,hn,m=>by
   intro z hz hvz e he ha;rcases cU L with h|⟨A,⟨y,x⟩,h⟩
   .rw[h]at hz;simp[ks]at hz
   rw[dl]at h;subst h;by_cases hA:A=[]
   .subst hA;obtain⟨T,hT⟩:=m.root;rw[aW]at hT hz;injection hT with h1 _;injection h1 with h1 _;subst h1;have:z=y:=by simpa[ks]using hz
    subst this;exact P.same z (hV.fresh hvz) e he e0 he0 ha ha0
   .have mA:=m.pre hA;have ih:=FQ p hV P h0 he0 ha0 n (by simp at hn;omega) mA;by_cases hzA:z∈ks A
    .exact ih z hzA hvz e he ha
    .have hzy:z=y:=by
      rw[ks_app,aw]at hz;rcases hz with h|h
      .exact absurd h hzA
      .simpa[ks]using h
     subst hzy;obtain⟨hx,hxr,i,hi,hj,_⟩:=m.par A z x [] rfl hA;have hvx:V x=false:=by
      rcases hxr with h|h
      .rw[h];exact h0
      .simpa using h
     have aix:at_ g i x=true:=by rw[p.jat hi hj];simp[Ne.symm (p.jne hi hj)]
     have aiz:at_ g i z=true:=by rw[p.jat hi hj];simp[p.jne hi hj]
     rw[<-ih x hx hvx i hi aix];exact P.same z (hV.fresh hvz) e he i hi ha aiz
structure Deep(g:Gr)(Bl:List Nat)(H V:Nat->Bool)(x0:Nat)(F:List (Nat×Nat)):Prop where
 met:Met g Bl H (λv=>!(V v)) x0 F
 shut:∀z∈ks F,V z=false->∀i∈Bl,at_ g i z=true->g.oth i z∈ks F
theorem deep_full(p:Pln g Bl)(hV:Plc g Bl H V)(h0:V x0=false)(hx:x0<g.n)(hf:g.n<=f):Deep g Bl H V x0 (full g Bl H (λv=>!(V v)) f ([(x0,x0)],[x0])):=by
 have hs:=full_srch (g:=g) (Bl:=Bl) (laid:=H) (thr:=λv=>!(V v)) (r:=x0) p.lt hx f Srch.start (by show g.n-1+1<=f;omega);refine⟨hs.met,λz hz hv i hi ha=>?_⟩;rcases hs.done z hz (.inr (by simp[hv]))with h1|⟨_,h1⟩|h1
 .simp at h1
 .cases h1
 .exact h1 i hi ha (hV.fresh hv i hi ha)
theorem yV(d:Deep g Bl H V x0 F)(h0:V x0=false)(hz:z∈ks F)(hv:V z=true):z∈ks F.tail:=by
 obtain⟨T,hT⟩:=d.met.root;rw[hT]at hz |-;simp only[ks,bI,au,oW]at hz |-;rcases hz with h|h
 .rw[h,h0]at hv;cases hv
 .exact h
theorem first_end(p:Pln g Bl)(hl:Link g Bl)(hV:Plc g Bl H V)(d:Deep g Bl H V x0 F)(h0:V x0=false){e0:Nat}(he0:e0∈Bl)(ha0:at_ g e0 x0=true)(hex:∃j∈Bl,H j=true)(h:Hit F V o):∃y,o=some y/\y∈ks F/\V y=true:=by
 cases o with
 |some y =>
   obtain⟨A,x,C,h1,_,_,h2⟩:=h;exact⟨y,rfl,by rw[h1];simp[ks],h2⟩
 |none =>
   exfalso;have h:∀z∈ks F.tail,V z=false:=h;have hall:∀z∈ks F,V z=false:=λz hz=>by
    cases hv:V z
    .rfl
    .rw[<-hv];exact h z (yV d h0 hz hv)
   obtain⟨j,hj,hjH⟩:=hex;have key:=hl (λe=>decide (g.tl e∈ks F)) (λv e k he hk hev hkv=>by
    have one:∀e∈Bl,at_ g e v=true->(g.tl e∈ks F↔v∈ks F):=λe he ha=>by
     have hinc:=(at_inc (p.lt e he)).1 ha;rcases hinc.2 with h1|h1
     .rw[h1]
     .have ot:g.oth e (g.tl e)=v:=by unfold Gr.oth;omega
      have oh:g.oth e v=g.tl e:=by unfold Gr.oth;omega
      constructor
      .intro hz;have:=d.shut _ hz (hall _ hz) e he ((at_inc (p.lt e he)).2 ⟨p.lt e he,.inl rfl⟩);rwa [ot]at this
      .intro hz;have:=d.shut _ hz (hall _ hz) e he ha;rwa [oh]at this
    rw[decide_eq_decide,one e he hev,one k hk hkv]) e0 he0 j hj
   obtain⟨T,hT⟩:=d.met.root;have hr:x0∈ks F:=by rw[hT];simp[ks]
   have h1:g.tl e0∈ks F:=by
    have hinc:=(at_inc (p.lt e0 he0)).1 ha0;rcases hinc.2 with h1|h1
    .rw[h1];exact hr
    .have oh:g.oth e0 x0=g.tl e0:=by unfold Gr.oth;omega
     have:=d.shut _ hr h0 e0 he0 ha0;rwa [oh]at this
   have h2:g.tl j∈ks F:=by
    have:decide (g.tl e0∈ks F)=decide (g.tl j∈ks F):=key;rw[bj h1]at this;exact bN this.symm
   have:=hall _ h2;rw[(hV _).2 ⟨j,hj,(at_inc (p.lt j hj)).2 ⟨p.lt j hj,.inl rfl⟩,hjH⟩]at this;cases this
theorem second_end(p:Pln g Bl)(hb:Bond g Bl)(hV:Plc g Bl H V)(d:Deep g Bl H V x0 F)(h0:V x0=false)(hy1:y1∈ks F)(hvy:V y1=true)(h:Hit F (λy=>V y&&!(decide (y=y1))) o):∃y,o=some y/\y∈ks F/\V y=true/\y≠y1:=by
 cases o with
 |some y =>
   obtain⟨A,x,C,h1,_,_,h2⟩:=h;simp only[aL,cZ,aO]at h2;exact⟨y,rfl,by rw[h1];simp[ks],h2.1,h2.2⟩
 |none =>
   exfalso;have h:∀z∈ks F.tail,(V z&&!(decide (z=y1)))=false:=h;have hall:∀z∈ks F,V z=true->z=y1:=λz hz hv=>by
    have:=h z (yV d h0 hz hv);rw[hv]at this;simpa using this
   obtain⟨K,hK⟩:∃K:Nat->Bool,∀z,K z=true↔z∈ks F/\V z=false:=⟨λz=>decide (z∈ks F/\V z=false),λz=>by simp⟩
   have hcut:∀e∈Bl,(K (g.tl e)^^K (g.hd e))=((K (g.tl e)||K (g.hd e))&&at_ g e y1):=by
    intro e he;have hok:=g.ok e (p.lt e he);have ky:K y1=false:=by
     cases hk:K y1
     .rfl
     .rw[((hK _).1 hk).2]at hvy;cases hvy
    have it:=(at_inc (p.lt e he)).2 (⟨p.lt e he,.inl rfl⟩:g.inc e (g.tl e));have ih:=(at_inc (p.lt e he)).2 (⟨p.lt e he,.inr rfl⟩:g.inc e (g.hd e));have ot:g.oth e (g.tl e)=g.hd e:=by unfold Gr.oth;omega
    have oh:g.oth e (g.hd e)=g.tl e:=by unfold Gr.oth;omega
    have next:∀a b,K a=true->at_ g e a=true->g.oth e a=b->K b=true\/b=y1:=λa b ha hat hab=>by
     have:=d.shut a ((hK _).1 ha).1 ((hK _).1 ha).2 e he hat;rw[hab]at this;cases hvb:V b
     .exact .inl ((hK _).2 ⟨this,hvb⟩)
     .exact .inr (hall b this hvb)
    have hat:at_ g e y1=((g.tl e==y1)^^(g.hd e==y1)):=rfl;cases h1:K (g.tl e)
    .cases h2:K (g.hd e)
     .rfl
     .rcases next _ _ h2 ih oh with h3|h3
      .rw[h1]at h3;cases h3
      .have:g.hd e≠y1:=λq=>by rw[q,ky]at h2;cases h2
       rw[hat,beq_iff_eq.2 h3,beq_eq_false_iff_ne.2 this];rfl
    .have t1:g.tl e≠y1:=λq=>by rw[q,ky]at h1;cases h1
     cases h2:K (g.hd e)
     .rcases next _ _ h1 it ot with h3|h3
      .rw[h2]at h3;cases h3
      .rw[hat,beq_iff_eq.2 h3,beq_eq_false_iff_ne.2 t1];rfl
     .have t2:g.hd e≠y1:=λq=>by rw[q,ky]at h2;cases h2
      rw[hat,beq_eq_false_iff_ne.2 t1,beq_eq_false_iff_ne.2 t2];rfl
   obtain⟨q,hq,hqy⟩:=bA.1 hy1;obtain⟨A,C,hF⟩:=bZ hq;have hA:A≠[]:=by
    intro hA;subst hA;obtain⟨T,hT⟩:=d.met.root;rw[hT,aW]at hF;injection hF with h1 _;rw[<-h1]at hqy;have:x0=y1:=hqy;rw[this,hvy]at h0;cases h0
   have hq':q=(y1,q.2):=by rw[<-hqy]
   rw[hq']at hF;obtain⟨hx,hxr,i,hi,hj,_⟩:=d.met.par A y1 q.2 C hF hA;have hvx:V q.2=false:=by
    rcases hxr with h|h
    .rw[h];exact h0
    .simpa using h
   have kx:K q.2=true:=(hK _).2 ⟨by rw[hF,ks_app];exact bp _ hx,hvx⟩;have iy:at_ g i y1=true:=by rw[p.jat hi hj];simp[p.jne hi hj]
   have Yi:(K (g.tl i)||K (g.hd i))=true:=by
    rcases jn_iff.1 hj with⟨a,b⟩|⟨a,b⟩
    .rw[a,kx];rfl
    .rw[b,kx];simp
   obtain⟨j,hj',hja,hjH⟩:=(hV y1).1 hvy;have Yj:(K (g.tl j)||K (g.hd j))=false:=by
    have t1:K (g.tl j)=false:=by
     cases hk:K (g.tl j)
     .rfl
     .have:=hV.fresh ((hK _).1 hk).2 j hj' ((at_inc (p.lt j hj')).2 ⟨p.lt j hj',.inl rfl⟩);rw[hjH]at this;cases this
    have t2:K (g.hd j)=false:=by
     cases hk:K (g.hd j)
     .rfl
     .have:=hV.fresh ((hK _).1 hk).2 j hj' ((at_inc (p.lt j hj')).2 ⟨p.lt j hj',.inr rfl⟩);rw[hjH]at this;cases this
    rw[t1,t2];rfl
   have:=py p.nd hb (Y:=λe=>K (g.tl e)||K (g.hd e)) (v:=y1) (λX hX=>by
    rw[<-za p hX K];exact bH λe he=>by rw[hcut e he]) hi hj' iy hja
   rw[Yi,Yj]at this;cases this
theorem mid_way(p:Pln g Bl)(hV:Plc g Bl H V)(d:Deep g Bl H V x0 F)(h0:V x0=false){y1:Nat}(h1:y1∈ks F)(h2:y2∈ks F)(v1:V y1=true)(v2:V y2=true)(hne:y2≠y1){a:List Nat}(e1:tr F y1=c++v::a)(e2:tr F y2=c++v::b)(hd:∀z a' b',a=z::a'->b=z::b'->False) :
 ∃i,a.reverse++v::b=y1::i++[y2]/\(y1::i++[y2]).Nodup/\Ch g Bl (y1::i++[y2])/\i≠[]/\∀z∈i,z∈ks F/\V z=false:=by
 obtain⟨t1,q1,q2,q3,q4,q5⟩:=tr_ok F.length (ab _) d.met y1 h1;obtain⟨t2,r1,r2,r3,r4,r5⟩:=tr_ok F.length (ab _) d.met y2 h2;have in1:∀z∈tr F y1,V z=true->z=y1:=λz hz hv=>by
  rw[q1]at hz;rcases(q5 z hz).2 with h|h|h
  .rw[h,h0]at hv;cases hv
  .rw[hv]at h;cases h
  .exact h
 have in2:∀z∈tr F y2,V z=true->z=y2:=λz hz hv=>by
  rw[r1]at hz;rcases(r5 z hz).2 with h|h|h
  .rw[h,h0]at hv;cases hv
  .rw[hv]at h;cases h
  .exact h
 have hfork:=fork d.met h1 h2 e1 e2 hd;have vv:V v=false:=by
  cases h:V v
  .rfl
  .have a1:=in1 v (by rw[e1];simp) h;have a2:=in2 v (by rw[e2];simp) h;exact absurd (a2.symm.trans a1) hne
 obtain⟨s1,l1⟩:=lst_cat (r:=x0) (t:=t1);obtain⟨s2,l2⟩:=lst_cat (r:=x0) (t:=t2);rw[<-q1,q2,e1]at l1;rw[<-r1,r2,e2]at l2;have last:∀{a:List Nat}{y:Nat}{s:List Nat},c++v::a=s++[y]->V y=true->∃a',a=a'++[y]:=fun {a y s} h hv=>by
  rcases cU a with rfl|⟨a',w,rfl⟩
  .have h':c++[v]=s++[y]:=h;obtain⟨_,h3⟩:=di h' rfl;injection h3 with h3;rw[h3,hv]at vv;cases vv
  .rw[dl]at h |-;have h':(c++v::a')++[w]=s++[y]:=by rw[<-h];simp
   obtain⟨_,h3⟩:=di h' rfl;injection h3 with h3;exact⟨a',by rw[h3]⟩
 obtain⟨a',rfl⟩:=last l1 v1;obtain⟨b',rfl⟩:=last l2 v2;have n1:(c++v::(a'++[y1])).Nodup:=by rw[<-e1,q1];exact q3
 have n2:(c++v::(b'++[y2])).Nodup:=by rw[<-e2,r1];exact r3
 have hmono:∀(s:List Nat),Ch g (Bl.filter λi=>!(H i)) s->Ch g Bl s:=by
  intro s;induction s with
  |nil=>exact λh=>h
  |cons a s ih =>
    cases s with
    |nil=>exact λh=>h
    |cons b s =>
      rintro⟨⟨e,he,hj⟩,h2⟩;exact⟨⟨e,(bq.1 he).1,hj⟩,ih h2⟩
 have c1:Ch g Bl (v::(a'++[y1])):=by
  have:Ch g Bl (c++v::(a'++[y1])):=by rw[<-e1,q1];exact hmono _ q4
  exact(im.1 this).2
 have c2:Ch g Bl (v::(b'++[y2])):=by
  have:Ch g Bl (c++v::(b'++[y2])):=by rw[<-e2,r1];exact hmono _ r4
  exact(im.1 this).2
 rw[aJ]at n1 n2;refine⟨a'.reverse++v::b',by simp,?_,?_,by simp,λz hz=>?_⟩
 .rw[show y1::(a'.reverse++v::b')++[y2]=(a'++[y1]).reverse++v::(b'++[y2]) by simp];rw[aJ];refine⟨(pE _).nodup_iff.2 (aS.1 n1.2.1).2,n2.2.1,λz hz w hw=>?_⟩;intro h;subst h;have hz:z∈a'++[y1]:=List.mem_reverse.1 hz;rcases au.1 hw with rfl|hw
  .exact(aS.1 n1.2.1).1 hz
  .exact hfork z hz hw
 .rw[show y1::(a'.reverse++v::b')++[y2]=(a'++[y1]).reverse++v::(b'++[y2]) by simp,im];refine⟨?_,c2⟩;rw[show(a'++[y1]).reverse++[v]=(v::(a'++[y1])).reverse by simp,wO];exact c1
 .have key:z∈tr F y1/\z≠y1\/z∈tr F y2/\z≠y2:=by
   rcases aw.1 hz with h|h
   .refine .inl ⟨by rw[e1];simp;right;right;left;simpa using h,λe=>?_⟩;have:=(aS.1 n1.2.1).2;rw[aJ]at this;exact this.2.2 z (by simpa using h) y1 (by simp) e
   .rcases au.1 h with rfl|h
    .exact .inl ⟨by rw[e1];simp,λe=>by rw[e,v1]at vv;cases vv⟩
    .refine .inr ⟨by rw[e2];simp;right;right;left;exact h,λe=>?_⟩;have:=(aS.1 n2.2.1).2;rw[aJ]at this;exact this.2.2 z h y2 (by simp) e
  rcases key with⟨k1,k2⟩|⟨k1,k2⟩
  .refine⟨xA d.met h1 k1,?_⟩;cases hv:V z
   .rfl
   .exact absurd (in1 z k1 hv) k2
  .refine⟨xA d.met h2 k1,?_⟩;cases hv:V z
   .rfl
   .exact absurd (in2 z k1 hv) k2
open Go.Blk
variable {g:Gr}{B:List Nat}{H H' V:Nat->Bool}{nf:Nat}{fc:Nat->List Nat}
theorem Lay.congrH(L:Lay g B H nf fc)(h:∀e∈B,H e=H' e):Lay g B H' nf fc where
 circ:=L.circ
 two:=λe he hH=>L.two e he (by rw[h e he];exact hH)
 none:=λe he hH=>L.none e he (by rw[h e he];exact hH)
 span:=λX hX hs=>L.span X hX λe he hx=>by rw[h e he];exact hs e he hx
 bond:=λv e k he hk hH hK hev hkv hne=>by
  obtain⟨X,a,b,c⟩:=L.bond v e k he hk (by rw[h e he];exact hH) (by rw[h k hk];exact hK) hev hkv hne;exact⟨X,a,λj hj hx=>by rw[<-h j hj];exact b j hj hx,λj hj hH=>c j hj (by rw[h j hj];exact hH)⟩
theorem Ori.congrH(o:Ori g B H nf fc)(h:∀e∈B,H e=H' e):Ori g B H' nf fc:=λe he hH=>o e he (by rw[h e he];exact hH)
theorem Ext.congrH{Φ:Type}{l r:Nat->Φ}{pf:Φ->Nat}{Z:Nat->Nat->Bool}(x:Ext g B l r H nf Z pf)(h:∀e∈B,H e=H' e):Ext g B l r H' nf Z pf where
 side:=x.side
 lt:=x.lt
 lay:=λe he=>by rw[<-h e he];exact x.lay e he
def Can(g:Gr)(B:List Nat)(H:Nat->Bool)(nf:Nat)(fc:Nat->List Nat):Prop:=(∃(Φ:Type) (l r:Nat->Φ),Dual g B l r)->∃(Φ:Type) (l r:Nat->Φ) (pf:Φ->Nat),Dual g B l r/\Ext g B l r H nf (λk=>cy g (fc k)) pf
abbrev fcs(F:List (List Nat)):Nat->List Nat:=λf=>F.getD f []
structure Bld(g:Gr)(B:List Nat)(H V:Nat->Bool)(F:List (List Nat)):Prop where
 lay:Lay g B H F.length (fcs F)
 ori:Ori g B H F.length (fcs F)
 can:Can g B H F.length (fcs F)
 plc:Plc g B H V
 ex:∃e∈B,H e=true
theorem DF(p:Pln g B){z:Nat}{s:List Nat}(hc:Cc g B (z::s))(he:e∈B):cy g (z::s) e=true↔On g (z::s++[z]) e:=by
 constructor
 .exact oa
 .rintro⟨a,x,y,b,h1,h2⟩;obtain⟨t,hr⟩:=(oC (z:=z) (s:=s) (x:=x) (y:=y) rfl).2 ⟨a,b,h1,by have:=hc.2.2;omega⟩;rw[<-hr.cy];exact iT p (hr.cc hc) he h2
theorem Jm{w y:Nat}{s:List Nat}:On g (s++[w,y]) e↔On g (s++[w]) e\/jn g e w y=true:=by
 constructor
 .rintro⟨a,u,v,b,h1,h2⟩;rcases cU b with rfl|⟨b,q,rfl⟩
  .have h3:(s++[w])++[y]=(a++[u])++[v]:=by rw[show(s++[w])++[y]=s++[w,y] by simp,h1];simp
   obtain⟨h4,h5⟩:=di h3 rfl;obtain⟨_,h6⟩:=di h4 rfl;injection h5 with h5;injection h6 with h6;subst h5 h6;exact .inr h2
  .rw[dl]at h1;have h3:(s++[w])++[y]=(a++u::v::b)++[q]:=by rw[show(s++[w])++[y]=s++[w,y] by simp,h1];simp
   obtain⟨h4,_⟩:=di h3 rfl;exact .inl ⟨a,u,v,b,h4,h2⟩
 .rintro (⟨a,u,v,b,h1,h2⟩|h)
  .exact⟨a,u,v,b++[y],by rw[show s++[w,y]=(s++[w])++[y] by simp,h1];simp,h2⟩
  .exact⟨s,w,y,[],rfl,h⟩
theorem base_on(p:Pln g B){z l e0:Nat}(hc:Cc g B (z::t))(hl:lst z t=l)(he0:e0∈B)(hj:jn g e0 l z=true)(he:e∈B):cy g (z::t) e=true↔e=e0\/On g (z::t) e:=by
 rw[DF p hc he];obtain⟨s,hs⟩:=lst_cat (r:=z) (t:=t);rw[hl]at hs;rw[hs,bD];show On g (s++[l,z]) e↔_;rw[Jm,or_comm];constructor
 .rintro (h|h)
  .exact .inl (p.one e he e0 he0 _ _ h hj)
  .exact .inr h
 .rintro (rfl|h)
  .exact .inl hj
  .exact .inr h
theorem inv_base(p:Pln g B){w:List Nat}(hc:Cc g B w)(hH:∀e∈B,H e=cy g w e)(hV:∀v,V v=true↔v∈w):Bld g B H V [w,w.reverse]:=by
 obtain⟨h1,h2,h3⟩:=Gc p hc;have e:∀f,f<2->fcs [w,w.reverse] f=if f=0 then w else w.reverse:=λf hf=>by
  have:f=0\/f=1:=om;rcases this with rfl|rfl<;>rfl
 have ec:∀f,f<2->Cc g B (fcs [w,w.reverse] f)/\∀k,cy g (fcs [w,w.reverse] f) k=cy g (if f=0 then w else w.reverse) k:=λf hf=>by
  rw[e f hf];refine⟨?_,λ_=>rfl⟩;split
  .exact hc
  .exact wP hc
 refine⟨(h1.change ec).congrH λe he=>(hH e he).symm,?_,λ⟨Φ,l,r,d⟩=>?_,λv=>?_,?_⟩
 .refine Ori.congrH (H:=cy g w) ?_ λe he=>(hH e he).symm;intro k hk hc x y hj;obtain⟨f,hf,hn⟩:=h2 k hk hc x y hj;exact⟨f,hf,by rw[e f hf];exact hn⟩
 .obtain⟨pf,x⟩:=h3 d;exact⟨Φ,l,r,pf,d,(x.congr λf hf k _=>((ec f hf).2 k).symm).congrH λe he=>(hH e he).symm⟩
 .rw[hV];constructor
  .intro hv;obtain⟨k,hk,hkv,hkc⟩:=cy_at p hc hv;exact⟨k,hk,hkv,by rw[hH k hk];exact hkc⟩
  .rintro⟨k,hk,hkv,hkH⟩;rw[hH k hk]at hkH;exact yX p hk hkH hkv
 .cases w with
  |nil=>exact hc.elim
  |cons z s =>
    obtain⟨k,hk,_,hkc⟩:=cy_at p hc (x:=z) (by simp);exact⟨k,hk,by rw[hH k hk];exact hkc⟩
theorem inv_cut(p:Pln g B)(hb:Bond g B)(hl:Link g B){F:List (List Nat)}(I:Bld g B H V F){pt:Nat->Nat}(P:Part g B H pt){x y:Nat}{s i:List Nat}(hf:f<F.length)(hr:Rot (fcs F f) (x::s++y::t))(ch:Ch g B (x::i++[y]))(nd:(x::i++[y]).Nodup)(fr:∀v∈i,V v=false)(new:i=[]->∀e∈B,jn g e x y=true->H e=false)
 (hin:∀e∈B,On g (x::i++[y]) e->∀v,Hg g B H pt (pt e) v->v∈fcs F f)
 (hor:(∀e∈B,On g (x::i++[y]) e->∀h,h<F.length->(∀v,Hg g B H pt (pt e) v->v∈fcs F h)->h=f)\/(∀e∈B,H e=false->∃h1 h2,h1<F.length/\h2<F.length/\h1≠h2/\∀v,Hg g B H pt (pt e) v->v∈fcs F h1/\v∈fcs F h2))
 {V':Nat->Bool} (hH':∀e∈B,H' e=true↔H e=true\/On g (x::i++[y]) e) (hV':∀v,V' v=true↔V v=true\/v∈x::i++[y]) :
 Bld g B H' V' ((F.set f (x::s++y::i.reverse))++[y::t++x::i]):=by
 obtain⟨fc,hfc⟩:∃fc:Nat->List Nat,∀k,fc k=if k=f then x::s++y::t else fcs F k:=⟨_,λ_=>rfl⟩
 have hcr:∀k,k<F.length->Rot (fcs F k) (fc k):=λk _=>by
  rw[hfc];split
  .rename_i h;subst h;exact hr
  .exact Rot.rfl'
 have hm:∀k v,k<F.length->(v∈fc k↔v∈fcs F k):=λk v hk=>(hcr k hk).mem;have L:Lay g B H F.length fc:=I.lay.change λk hk=>⟨(hcr k hk).cc (I.lay.circ k hk),λe=>(hcr k hk).cy e⟩
 have onw:∀e∈B,wk g (x::i++[y]) e=true↔On g (x::i++[y]) e:=λe he=>⟨oa,λ⟨a,u,v,b,h1,h2⟩=>by
  rw[h1]at nd |-;exact zt p nd he h2⟩
 have fresh:∀v∈i,∀e∈B,at_ g e v=true->H e=false:=λv hv=>I.plc.fresh (fr v hv);have w:Way g B H fc f x y s i t:=⟨by rw[hfc];simp,ch,nd,fresh,λe he h=>by
  obtain⟨a,u,v,b,h1,h2⟩:=lR h;by_cases hi:i=[]
  .subst hi;have hl:=congrArg List.length h1;cases a with
   |nil =>
     simp only[aW,aB]at h1;injection h1 with h3 h4;injection h4 with h4 _;subst h3 h4;exact new rfl e he h2
   |cons c a=>simp at hl;omega
  ·
   have:u∈i\/v∈i:=by
    have hne:u≠v:=p.jne he h2;have hu:u∈x::i++[y]:=by rw[h1];simp
    have hv:v∈x::i++[y]:=by rw[h1];simp
    simp only[aB,au,aw,aR,or_false]at hu hv;refine Classical.byContradiction λhno=>?_;obtain⟨q,i',rfl⟩:=eO hi;cases a with
    |nil =>
      simp only[aW,aB]at h1;injection h1 with h3 h4;injection h4 with h4 _;subst h4;exact hno (.inr (by simp))
    |cons c a =>
      simp only[aB]at h1;injection h1 with h3 h4;subst h3;have:u∈q::i':=by
       have h5:(q::i'++[y]).dropLast=q::i':=xm;rw[<-h5,show q::i'++[y]=(a++[u])++(v::b) by rw[aB,h4];simp,eV (by simp)];simp
      exact hno (.inl this)
   rcases this with h3|h3
   .exact fresh u h3 e he (by rw[p.jat he h2];simp[Ne.symm (p.jne he h2)])
   .exact fresh v h3 e he (by rw[p.jat he h2];simp[p.jne he h2])⟩
 have hHe:∀e∈B,(H e||wk g (x::i++[y]) e)=H' e:=λe he=>by
  rw[eu,df,hH' e he,onw e he]
 have hlen:((F.set f (x::s++y::i.reverse))++[y::t++x::i]).length=F.length+1:=by simp
 have hfc2:∀k,k<F.length+1->fcs ((F.set f (x::s++y::i.reverse))++[y::t++x::i]) k=cut fc f F.length x y s i t k:=λk hk=>by
  unfold cut;by_cases h1:k=f
  .subst h1;rw[if_pos rfl];simp only[fcs,aH];rw[bC (by rw[cn];exact hf),cL hf];rfl
  .rw[if_neg h1];by_cases h2:k=F.length
   .subst h2;rw[if_pos rfl];simp[fcs,List.getD]
   .rw[if_neg h2,hfc,if_neg h1];simp only[fcs,aH];rw[bC (by rw[cn];omega),cG (Ne.symm h1)]
 have toF:∀k,k<F.length+1->Cc g B (cut fc f F.length x y s i t k)->Cc g B (fcs ((F.set f (x::s++y::i.reverse))++[y::t++x::i]) k)/\∀e,cy g (fcs ((F.set f (x::s++y::i.reverse))++[y::t++x::i]) k) e=cy g (cut fc f F.length x y s i t k) e:=λk hk h=>by
  rw[hfc2 k hk];exact⟨h,λ_=>rfl⟩
 have L2:=Jy p L hf w;refine⟨?_,?_,?_,λv=>?_,?_⟩
 .rw[hlen];exact(L2.change λk hk=>toF k hk (L2.circ k hk)).congrH hHe
 .rw[hlen];refine Ori.congrH (H:=λe=>H e||wk g (x::i++[y]) e) ?_ hHe;intro e he h a b hj;obtain⟨k,hk,hn⟩:=Jg L hf w (I.ori.change hcr) e he h a b hj;exact⟨k,hk,by rw[hfc2 k hk];exact hn⟩
 .rw[hlen];intro hd;obtain⟨Φ,l,r,pf,d,xt⟩:=I.can hd;obtain⟨Φ',l',r',pf',d',x'⟩:=Ho p hb hl L P hf w (λe he h v hv=>(hm f v hf).2 (hin e he ((onw e he).1 h) v hv)) (by
   rcases hor with h|h
   .exact .inl λe he hw k hk hv=>h e he ((onw e he).1 hw) k hk λv hg=>(hm k v hk).1 (hv v hg)
   .refine .inr λe he hH=>?_;obtain⟨a,b,ha,hb',hab,hv⟩:=h e he hH;exact⟨a,b,ha,hb',hab,λv hg=>⟨(hm a v ha).2 (hv v hg).1,(hm b v hb').2 (hv v hg).2⟩⟩) ⟨Φ,l,r,pf,d,xt.congr λk hk e _=>((hcr k hk).cy e).symm⟩
  exact⟨Φ',l',r',pf',d',(x'.congr λk hk e _=>by rw[hfc2 k hk]).congrH hHe⟩
 .rw[hV'];constructor
  .rintro (h|h)
   .obtain⟨e,he,ha,hH⟩:=(I.plc v).1 h;exact⟨e,he,ha,(hH' e he).2 (.inl hH)⟩
   ·
    have hne:x::i++[y]≠[]:=by simp
    obtain⟨a,b,hab⟩:=bZ h;rcases cU a with rfl|⟨a,u,rfl⟩
    .cases b with
     |nil =>
       have:=congrArg List.length hab;simp at this
     |cons u b =>
       rw[hab]at ch;obtain⟨⟨e,he,hj⟩,_⟩:=ch;exact⟨e,he,by rw[p.jat he hj];simp[Ne.symm (p.jne he hj)],(hH' e he).2 (.inr ⟨[],v,u,b,hab,hj⟩)⟩
    .rw[dl]at hab;have hab':x::i++[y]=a++u::(v::b):=by rw[hab];simp
     rw[hab']at ch;obtain⟨⟨e,he,hj⟩,_⟩:=(im.1 ch).2;exact⟨e,he,by rw[p.jat he hj];simp[p.jne he hj],(hH' e he).2 (.inr ⟨a,u,v,b,hab',hj⟩)⟩
  .rintro⟨e,he,ha,hH⟩;rcases(hH' e he).1 hH with h|h
   .exact .inl ((I.plc v).2 ⟨e,he,ha,h⟩)
   .exact .inr (xr p he ((onw e he).2 h) ha)
 .obtain⟨e,he,hH⟩:=I.ex;exact⟨e,he,(hH' e he).2 (.inl hH)⟩
end Go.Pla
namespace Go.Proofs.YtmibmlioidpogaaGreatDoor
open Go.Am
open Go.Pla (at_ jn On Bld Pln Bond Link tr full cy Cc)
variable {E:List (Int×Int)}{bb n pa:Nat}{edv ev:AV}{h:AH}
theorem Bu.putF{Bl:List Nat}{la:Nat}{H V:Nat->Bool}{fav:AV}(u:Bu h bb n ev edv E Bl la pa H V fav)(v:AV) :
 ∃h',bV h bb 5 [v]=some h'/\Bu h' bb n ev edv E Bl la pa H V v/\∃o,Upd h h' bb o:=by
 have w:=hG (v:=v) u.o (i:=5) (by simp);have uu:=Md (o:=.cells ([AV.int .i64 (n:Nat),ev,edv,.sl la 0 E.length E.length,.sl pa 0 n n,fav].set 5 v) 6 false) u.o;have k:=uu.kp (S:=λc=>c=bb) rfl;refine⟨_,w,⟨uu.get,u.e.kp k (gm u.oe λc h=>.inr (.inr h)),u.b.kp k (gm u.ob λc h=>.inr (.inr h)),?_,?_,u.d,u.oe,u.ob⟩,_,uu⟩
 .rw[uu.ne (Ne.symm u.d.1)];exact u.l
 .rw[uu.ne (Ne.symm u.d.2.1)];exact u.v
theorem yf{y:AV}:C prg 93 [y] h λv h'=>v=.bool true/\Ext h.next h h':=by
 refine Me pf93 ?_;refine ae (ar (Mi0) ?_);refine ae (ar (M0) ?_);exact bG ⟨.bool true,(by simp only[rs,rf93,am,aD,simprocAttr]<;>rfl),rfl,Mc⟩
theorem ye{y a b lb:Nat}(hg:h.get lb=some (.cells [.int .i64 (a:Nat),.int .i64 (b:Nat)] 2 false)):C prg 95 [.int .i64 (y:Nat),.ptr lb 0] h λv h'=>v=.bool (decide (y=b))/\Ext h.next h h':=by
 refine Me pf95 ?_;have r1:ak h lb 1 1=some [.int .i64 (b:Nat)]:=br hg rfl;have d1:decide (((y:Nat):Int)=((b:Nat):Int))=decide (y=b):=by rw[decide_eq_decide];omega
 refine ae (ar (Mi0) ?_);refine ae (cr (λts h'=>h'=h/\bz ts 3=.bool (decide (y=b))) (by simp only[am,aD,simprocAttr,bE,r1,d1]) ?_);rintro ts h' ⟨rfl,e3⟩;exact bG ⟨.bool (decide (y=b)),(by simp only[rs,rf95,am,aD,simprocAttr,e3]<;>rfl),rfl,Mc⟩
theorem IsSl.off{lo:Nat}{v:AV}{cs:List AV}{S:Nat->Prop}(hv:IsSl h 1 lo v cs)(hs:∀c,S c->c<lo):Off S v:=by
 rcases hv with⟨rfl,_⟩|⟨b,n,h1,rfl,_⟩
 .trivial
 .intro q;have:=hs b q;omega
set_option maxHeartbeats 2000000 in
theorem zX{e0 k0:Nat}{Bl':List Nat}{la:Nat}(u:Bu h bb n ev edv E (e0::Bl') la pa (λ_=>false) (λ_=>false) .nils)(hE:InG n E)(hL:∀i,i<E.length->tlE E i≠hdE E i)(hn:n<2^30)(hm:E.length<2^30)(hB:∀i∈e0::Bl',i<E.length)(hBn:(e0::Bl').length<2^30)(hp:Pln (grE n E hE hL) (e0::Bl'))(hbo:Bond (grE n E hE hL) (e0::Bl'))(hli:Link (grE n E hE hL) (e0::Bl'))(hk0:k0∈e0::Bl')(hke:k0≠e0) :
 C prg 64 [.ptr bb 0] h λ_ h'=>∃H V fav F,Bu h' bb n ev edv E (e0::Bl') la pa H V fav/\Kp (λc=>c=la\/c=pa\/c=bb) h h'/\LL h' h.next fav F/\F.length=2/\Bld (grE n E hE hL) (e0::Bl') H V F:=by
 have lt_bb:=AH.lt_of_get u.o;have lt_la:=AH.lt_of_get u.l;have lt_pa:=AH.lt_of_get u.v;have he0:=hB e0 (by simp);obtain⟨q1,q2,q3⟩:=hE e0 he0;refine Me pf64 ?_;have r1:ak h bb 1 1=some [ev]:=br u.o rfl;have r2:ak h bb 2 1=some [edv]:=br u.o rfl;obtain⟨b1,o1,a1,s1,_⟩:=u.b.at1 (i:=0) (y:=.int .i64 (e0:Nat)) rfl;rw[dj]at a1;obtain⟨b2,o2,a2,s2,_,_⟩:=u.e.at (eJ (f:=eE) he0);rw[q1]at s2;have s2:ak h b2 o2 2=some [.int .i64 (tlE E e0:Nat),.int .i64 (hdE E e0:Nat)]:=s2;obtain⟨h1,w1,x1,g1,n1⟩:=iB (h:=h) (z:=[.int .i64 0,.int .i64 0]) (cs:=[.int .i64 (tlE E e0:Nat),.int .i64 (hdE E e0:Nat)]) (e:=2) rfl;refine ae (cr (λts h'=>h'=h1/\bz ts 0=.ptr bb 0/\bz ts 2=.ptr h.next 0) (by simp only[am,aD,simprocAttr,bE,r1,r2,a1,s1,a2,s2,w1]) ?_);rintro ts h1' ⟨rfl,e_0,e_2⟩;have u1:=u.ext x1 (ab _);have r3:ak h1' bb 3 1=some [.sl la 0 E.length E.length]:=br u1.o rfl;have r2:ak h1' bb 2 1=some [edv]:=br u1.o rfl;obtain⟨b1,o1,a1,s1,_⟩:=u1.b.at1 (i:=0) (y:=.int .i64 (e0:Nat)) rfl;rw[dj]at a1;have ie:gh ((e0:Nat):Int) E.length=some e0:=dL he0;obtain⟨h2,w2,u2,up2⟩:=u1.putH he0;refine ae (cr (λts h'=>h'=h2/\bz ts 0=.ptr bb 0/\bz ts 2=.ptr h.next 0) (by simp only[am,aD,simprocAttr,e_0,e_2,r3,r2,a1,s1,ie,aM,w2]) ?_);rintro ts h2' ⟨rfl,e_0,e_2⟩;have hfun:(λj=>if j=e0 then true else(λ_:Nat=>false) j)=λe=>decide (e=e0):=by
  funext j;by_cases q:j=e0<;>simp[q]
 rw[hfun]at u2;have k2:Kp (λc=>c=la\/c=pa\/c=bb) h h2':=(x1.kp (S:=λc=>c=la\/c=pa\/c=bb) (ab _)).trans (up2.kp (S:=λc=>c=la\/c=pa\/c=bb) (.inl rfl)) (λ_ _ q=>q);have g2:h2'.get h.next=some (.cells [.int .i64 (tlE E e0:Nat),.int .i64 (hdE E e0:Nat)] 2 false):=by rw[up2.ne om];exact g1
 have n2:h2'.next=h.next+1:=by rw[up2.nx];exact n1
 refine ae (ar (M1 @iP) ?_);have rt:ak h2' h.next 0 1=some [.int .i64 (tlE E e0:Nat)]:=br g2 rfl;have hway:=rW u2 hE hL hn hm hB hBn q2 (ke:=95) (kt:=93) (ce:=[.ptr h.next 0]) (ct:=[]) (fin:=λy=>decide (y=hdE E e0)) (thr:=λ_=>true) (λy _ h' x'=>ye (by rw[x'.gt _ (AH.lt_of_get g2)];exact g2)) (λy _ h' _=>yf);refine ae (bM (aV 5 (by simp only[am,aD,simprocAttr,e_0,e_2,rt,iP]<;>rfl) rfl (by simp only[am,aD,simprocAttr,e_0,e_2,rt,iP]) (by simp only[am,aD,simprocAttr,e_0,e_2,rt,iP]<;>rfl) (hway) λwv h3 hq=>?_));obtain⟨x3,o,hit,hres⟩:=hq;refine bF (M0) ?_;obtain⟨ho,w,hw,hcc,t',hwt,hlst⟩:=Go.Pla.back_ex hp hbo hli (e0:=e0) (k0:=k0) (by simp) hk0 hke (f:=n+1) (Nat.le_succ _) hit;subst ho;have hres:IsSl h3 1 h2'.next wv (nC w):=by rw[<-hw];exact hres
 have k3:=k2.trans (x3.kp (S:=λc=>c=la\/c=pa\/c=bb) (ab _)) (λ_ _ q=>q);have u3:=u2.ext x3 (ab _);have hwn:∀v∈w,v<n:=λv hv=>by
  obtain⟨j,hj,ha,_⟩:=Go.Pla.cy_at hp hcc hv;exact Go.Pla.at_lt (hp.lt j hj) ha
 have hwl:w.length<2^30:=by have:=Go.Pla.nd_lt hcc.nodup hwn;omega
 refine ae (bM (aV 2 (by simp only[am,aD,simprocAttr,e_0]<;>rfl) rfl (by simp only[am,aD,simprocAttr,e_0]) (by simp only[am,aD,simprocAttr,e_0]<;>rfl) (yc u3 hE hL hn hm hB hBn (eP hres) hwn hwl (IsSl.off hres λc hc=>by rcases hc with rfl|rfl<;>omega)) λv4 h4 hq=>?_));obtain⟨H4,V4,u4,k4,hH4,hV4⟩:=hq;refine bF (M0) ?_;have k4':=k3.trans k4 (λc _ q=>by rcases q with q|q;exact .inl q;exact .inr (.inl q));have hres4:IsSl h4 1 h2'.next wv (nC w):=hres.cong λb m hv hlo=>k4.gt b (by
  rcases hres with⟨rfl,_⟩|⟨b',n',_,rfl,hg,_⟩
  .cases hv
  .cases hv;exact AH.lt_of_get hg) (by rintro (rfl|rfl)<;>omega)
 refine ae (bM (aV 1 (M0) rfl (Z0) (M0) (qe (eP hres4) (by rw[ah];omega)) λbv h5 hq=>?_));obtain⟨i5,x5,_⟩:=hq;refine bF (M0) ?_;have i5:IsSl h5 1 h4.next bv (nC w):=i5;refine ae (bM (aV 1 (M0) rfl (Z0) (M0) (vG i5 om) λv6 h6 hq=>?_));obtain⟨i6,x6,n6,_⟩:=hq;refine bF (M0) ?_;have lt_wv:∀b m,wv=.sl b 0 m m->b<h4.next:=λb m e=>hres4.lt e;have lt_bv:∀b m,bv=.sl b 0 m m->b<h6.next:=λb m e=>i6.lt e;have x46:Ext h4.next h4 h6:=x5.trans x6;have n46:=x46.nx;have n34:=k4.nx;have n23:=x3.nx;have u6:=u4.ext x46 (ab _);have hres6:=hres4.ext x46 (ab _);have x7:Ext h6.next h6 (h6.new (.cells [wv,bv] 1 false)):=Mb (ab _);have g7:(h6.new (.cells [wv,bv] 1 false)).get h6.next=some (.cells [wv,bv] 1 false):=by rw[AH.get_new,if_pos rfl]
 obtain⟨h8,w8,u8,o8,up8⟩:=(u6.ext x7 (ab _)).putF (.sl h6.next 0 2 2);have rp2:cA [AV.nils] 2=[.nils,.nils]:=rfl;refine cr (λts h'=>h'=h8) (by simp only[am,aD,simprocAttr,e_0,hres6.cells.1,i6.cells.1,hres6.cells.2,i6.cells.2,rp2,aq,aK,cQ,bQ,Nat.reduceAdd,Nat.reduceLeDiff,if_true,w8]) ?_;rintro ts h8' rfl;have xk:Ext h6.next h6 (h6.new (.cells [wv,bv] 1 false)):=x7;generalize h6.new (.cells [wv,bv] 1 false)=h7 at *
 have nb:h6.next≠bb:=om;have g8:h8'.get h6.next=some (.cells [wv,bv] 1 false):=by rw[up8.ne nb];exact g7
 have keep:∀c,c≠bb->c<h6.next->h8'.get c=h6.get c:=λc h1 h2=>by rw[up8.ne h1,xk.gt _ h2]
 refine⟨.tup [],rfl,H4,V4,_,[w,w.reverse],u8,?_,?_,rfl,?_⟩
 .exact((k4'.trans ((x46.kp (S:=λc=>c=la\/c=pa\/c=bb) (ab _)).trans (xk.kp (S:=λc=>c=la\/c=pa\/c=bb) (ab _)) (λ_ _ q=>q)) (λ_ _ q=>q)).trans (up8.kp (S:=λc=>c=la\/c=pa\/c=bb) (.inr (.inr rfl))) (λ_ _ q=>q))
 .refine⟨[wv,bv],.inr ⟨h6.next,2,om,rfl,g8,rfl⟩,rfl,λi v xs e1 e2=>?_⟩;have hi:i=0\/i=1:=by
   have:=(aG.1 e1).1;simp at this;omega
  rcases hi with rfl|rfl
  .simp only[aP,aa]at e1 e2;subst e1 e2;refine⟨(hres6.mono om).cong λb m e hb=>keep b ?_ (hres6.lt e),λb m b' m' e e'=>?_⟩
   .rintro rfl;rcases hres6 with⟨h1,_⟩|⟨b',m',h1,h2,_⟩
    .rw[h1]at e;cases e
    .rw[h2]at e;cases e;omega
   .cases e';have:=hres6.lt e;omega
  .simp only[bP,aP,aa]at e1 e2;subst e1 e2;refine⟨(i6.mono om).cong λb m e hb=>keep b ?_ (i6.lt e),λb m b' m' e e'=>?_⟩
   .rintro rfl;rcases i6 with⟨h1,_⟩|⟨b',m',h1,h2,_⟩
    .rw[h1]at e;cases e
    .rw[h2]at e;cases e;omega
   .cases e';have:=i6.lt e;omega
 .refine Go.Pla.inv_base hp hcc (λe he=>?_) λv=>?_
  .rw[eu,hH4,hwt,Go.Pla.base_on hp (hwt▸hcc) hlst (e0:=e0) (by simp) (by rw[Go.Pla.jn_iff];exact .inr ⟨rfl,rfl⟩) he,aI];constructor
   .rintro (h|⟨_,h⟩)
    .exact .inl h
    .exact .inr h
   .rintro (h|h)
    .exact .inl h
    .exact .inr ⟨he,h⟩
  .rw[hV4];simp
end Go.Proofs.YtmibmlioidpogaaGreatDoor
namespace Go.Pla
open Go.Blk
variable {At':List Nat}{Dn':Nat->Bool}{z:Nat}
variable {g:Gr}{Bl:List Nat}{H V D:Nat->Bool}{pt:Nat->Nat}{x e0:Nat}
def Kn(V Dn:Nat->Bool)(At:List Nat)(w:Nat):Prop:=if V w=true then w∈At else Dn w=true
structure Bfs(g:Gr)(Bl:List Nat)(H V:Nat->Bool)(pt:Nat->Nat)(D:Nat->Bool)(x e0:Nat)(Dn:Nat->Bool)(Q At:List Nat)(cu:Option (Nat×List Nat)):Prop where
 sub:∀z,D z=true->Dn z=true
 x:Dn x=true
 que:∀z∈Q,Dn z=true/\D z=false
 ins:∀z,Dn z=true->D z=false->V z=false/\∀e∈Bl,at_ g e z=true->pt e=pt e0
 shut:∀z,Dn z=true->D z=false->z∈Q\/(∃is,cu=some (z,is))\/∀i∈Bl,at_ g i z=true->Kn V Dn At (g.oth i z)
 cur:∀z is,cu=some (z,is)->Dn z=true/\D z=false/\∀i∈Bl,i∉is->at_ g i z=true->Kn V Dn At (g.oth i z)
 hgs:∀z∈At,Hg g Bl H pt (pt e0) z
 nd:At.Nodup
variable {Dn:Nat->Bool}{Q At:List Nat}
theorem Kn.mono{w:Nat}(h:Kn V Dn At w)(hd:∀z,Dn z=true->Dn' z=true)(ha:∀z∈At,z∈At'):Kn V Dn' At' w:=by
 unfold Kn at h |-;split
 .rename_i hv;rw[if_pos hv]at h;exact ha w h
 .rename_i hv;rw[if_neg hv]at h;exact hd w h
theorem Bfs.start(hV:Plc g Bl H V)(P:Part g Bl H pt)(hx:V x=false)(hD:D x=false)(he0:e0∈Bl)(ha0:at_ g e0 x=true):Bfs g Bl H V pt D x e0 (λz=>if z=x then true else D z) [x] [] none where
 sub:=λz h=>by
  split
  .rfl
  .exact h
 x:=by simp
 que:=λz h=>by
  have:z=x:=by simpa using h
  subst this;simp[hD]
 ins:=λz h1 h2=>by
  have:z=x:=by
   refine Classical.byContradiction λhne=>?_;rw[if_neg hne,h2]at h1;cases h1
  subst this;exact⟨hx,λe he ha=>P.same z (hV.fresh hx) e he e0 he0 ha ha0⟩
 shut:=λz h1 h2=>by
  have:z=x:=by
   refine Classical.byContradiction λhne=>?_;rw[if_neg hne,h2]at h1;cases h1
  subst this;exact .inl (by simp)
 cur:=λ_ _ h=>by cases h
 hgs:=λz h=>by simp at h
 nd:=by simp
theorem Bfs.pop(b:Bfs g Bl H V pt D x e0 Dn (z::Q) At none):Bfs g Bl H V pt D x e0 Dn Q At (some (z,Bl)) where
 sub:=b.sub
 x:=b.x
 que:=λy h=>b.que y (aQ _ h)
 ins:=b.ins
 shut:=λy h1 h2=>by
  rcases b.shut y h1 h2 with h|⟨_,h⟩|h
  .rcases au.1 h with rfl|h
   .exact .inr (.inl ⟨Bl,rfl⟩)
   .exact .inl h
  .cases h
  .exact .inr (.inr h)
 cur:=λy is h=>by
  injection h with h;injection h with h1 h2;subst h1 h2;have:=b.que z (by simp);exact⟨this.1,this.2,λi hi hn=>absurd hi hn⟩
 hgs:=b.hgs
 nd:=b.nd
theorem Bfs.end(b:Bfs g Bl H V pt D x e0 Dn Q At (some (z,[]))):Bfs g Bl H V pt D x e0 Dn Q At none where
 sub:=b.sub
 x:=b.x
 que:=b.que
 ins:=b.ins
 shut:=λy h1 h2=>by
  rcases b.shut y h1 h2 with h|⟨is,h⟩|h
  .exact .inl h
  .injection h with h;injection h with h3 h4;subst h3 h4;exact .inr (.inr λi hi=>(b.cur z [] rfl).2.2 i hi (by simp))
  .exact .inr (.inr h)
 cur:=λ_ _ h=>by cases h
 hgs:=b.hgs
 nd:=b.nd
theorem Bfs.next{i:Nat}{is:List Nat}(b:Bfs g Bl H V pt D x e0 Dn Q At (some (z,i::is))){Q':List Nat}(hd:∀y,Dn y=true->Dn' y=true)(ha:∀y∈At,y∈At')(hq:∀y∈Q,y∈Q')
 (hk:at_ g i z=true->Kn V Dn' At' (g.oth i z)) (hq2:∀y∈Q',y∈Q\/Dn' y=true/\D y=false) (hd2:∀y,Dn' y=true->Dn y=true\/(y∈Q'/\(D y=false->V y=false/\∀e∈Bl,at_ g e y=true->pt e=pt e0))) (ha2:∀y∈At',y∈At\/Hg g Bl H pt (pt e0) y) (hn:At'.Nodup) :
 Bfs g Bl H V pt D x e0 Dn' Q' At' (some (z,is)) where
 sub:=λy h=>hd y (b.sub y h)
 x:=hd x b.x
 que:=λy h=>by
  rcases hq2 y h with h1|h1
  .exact⟨hd y (b.que y h1).1,(b.que y h1).2⟩
  .exact h1
 ins:=λy h1 h2=>by
  rcases hd2 y h1 with h|h
  .exact b.ins y h h2
  .exact h.2 h2
 shut:=λy h1 h2=>by
  rcases hd2 y h1 with h|h
  .rcases b.shut y h h2 with h3|⟨js,h3⟩|h3
   .exact .inl (hq y h3)
   .injection h3 with h3;injection h3 with h3 _;subst h3;exact .inr (.inl ⟨is,rfl⟩)
   .exact .inr (.inr λj hj haj=>(h3 j hj haj).mono hd ha)
  .exact .inl h.1
 cur:=λy js h=>by
  injection h with h;injection h with h1 h2;subst h1 h2;obtain⟨c1,c2,c3⟩:=b.cur z _ rfl;refine⟨hd z c1,c2,λj hj hjn haj=>?_⟩;by_cases hji:j=i
  .subst hji;exact hk haj
  .exact(c3 j hj (by simp[hji,hjn]) haj).mono hd ha
 hgs:=λy h=>by
  rcases ha2 y h with h1|h1
  .exact b.hgs y h1
  .exact h1
 nd:=hn
def Shut(g:Gr)(Bl:List Nat)(V D:Nat->Bool):Prop:=∀z,D z=true->V z=false/\∀i∈Bl,at_ g i z=true->V (g.oth i z)=false->D (g.oth i z)=true
theorem Bfs.fin(p:Pln g Bl)(hV:Plc g Bl H V)(P:Part g Bl H pt)(hS:Shut g Bl V D)(hx:D x=false)(he0:e0∈Bl)(ha0:at_ g e0 x=true)(b:Bfs g Bl H V pt D x e0 Dn [] At none):(∀z,z∈At↔Hg g Bl H pt (pt e0) z)/\Shut g Bl V Dn:=by
 have shut:∀z,Dn z=true->D z=false->∀i∈Bl,at_ g i z=true->Kn V Dn At (g.oth i z):=λz h1 h2=>by
  rcases b.shut z h1 h2 with h|⟨_,h⟩|h
  .simp at h
  .cases h
  .exact h
 have inK:∀z,Dn z=true->D z=false->∀i∈Bl,at_ g i z=true->V (g.oth i z)=false->Dn (g.oth i z)=true/\D (g.oth i z)=false:=λz h1 h2 i hi ha hv=>by
  have h3:=shut z h1 h2 i hi ha;unfold Kn at h3;rw[if_neg (by rw[hv];simp)]at h3;refine⟨h3,?_⟩;cases hd:D (g.oth i z)
  .rfl
  .obtain⟨a1,a2⟩:=oth_at (p.lt i hi) ha;have:=(hS _ hd).2 i hi a1 (by rw[a2];exact(b.ins z h1 h2).1);rw[a2,h2]at this;cases this
 refine⟨λz=>⟨b.hgs z,?_⟩,λz hz=>?_⟩
 .rintro⟨e,he,hH,hp,ha,j,hj,hja,hjH⟩;obtain⟨S,hSd⟩:∃S:Nat->Bool,∀e,S e=true↔∃k,at_ g e k=true/\Dn k=true/\D k=false:=by
   classical
   exact⟨λe=>decide (∃k,at_ g e k=true/\Dn k=true/\D k=false),λe=>by simp⟩
  have hu:=P.univ S (λv hv e he k hk hev hkv=>by
   have one:∀e∈Bl,at_ g e v=true->(S e=true↔Dn v=true/\D v=false):=λe he ha=>by
    rw[hSd];constructor
    .rintro⟨k,hk1,hk2,hk3⟩;by_cases q:v=k
     .subst q;exact⟨hk2,hk3⟩
     .have hvf:V v=false:=by
       cases h:V v
       .rfl
       .obtain⟨m,hm,hma,hmH⟩:=(hV v).1 h;rw[hv m hm hma]at hmH;cases hmH
      have hinc:=(at_inc (p.lt e he)).1 hk1;have:v=g.oth e k:=fP hinc ((at_inc (p.lt e he)).1 ha) q;rw[this]at hvf |-;exact inK k hk2 hk3 e he hk1 hvf
    .rintro⟨h1,h2⟩;exact⟨v,ha,h1,h2⟩
   rw[eu,one e he hev,one k hk hkv])
  have h1:S e=true:=by
   rw[<-hu e,hp,hu e0,hSd];exact⟨x,ha0,b.x,hx⟩
  obtain⟨k,hk1,hk2,hk3⟩:=(hSd e).1 h1;have hzv:V z=true:=(hV z).2 ⟨j,hj,hja,hjH⟩;have hzk:z≠k:=λq=>by rw[q,(b.ins k hk2 hk3).1]at hzv;cases hzv
  have hz:z=g.oth e k:=fP ((at_inc (p.lt e he)).1 hk1) ((at_inc (p.lt e he)).1 ha) hzk;have:=shut k hk2 hk3 e he hk1;unfold Kn at this;rw[<-hz,if_pos hzv]at this;exact this
 .cases hd:D z
  .refine⟨(b.ins z hz hd).1,λi hi ha hv=>(inK z hz hd i hi ha hv).1⟩
  .exact⟨(hS z hd).1,λi hi ha hv=>b.sub _ ((hS z hd).2 i hi ha hv)⟩
def left(n:Nat)(Dn:Nat->Bool):Nat:=((List.range n).filter λz=>!(Dn z)).length
theorem left_step{n:Nat}(hz:z<n)(h:Dn z=false):left n (λy=>if y=z then true else Dn y)+1<=left n Dn:=by
 have h1:((List.range n).filter λy=>!(if y=z then true else Dn y)).length+1<=((List.range n).filter λy=>!(Dn y)).length:=by
  rw[<-ny,<-ny];have:∀(l:List Nat),l.Nodup->z∈l->l.countP (λy=>!(if y=z then true else Dn y))+1<=l.countP (λy=>!(Dn y)):=by
   intro l;induction l with
   |nil=>intro _ h;simp at h
   |cons a l ih =>
     intro nd hm;rw[aS]at nd;rw[fp,fp];by_cases q:a=z
     .subst q;have h2:l.countP (λy=>!(if y=a then true else Dn y))<=l.countP (λy=>!(Dn y)):=by
       refine jU λy _ hy=>?_;split at hy
       .cases hy
       .exact hy
      simp[h];simpa using h2
     .have h2:=ih nd.2 (by simpa[Ne.symm q]using hm);simp only[q,if_false];omega
  exact this _ bX (by simpa using hz)
 exact h1
end Go.Pla
