/- A way through a part, between two vertices at which it hangs -/
import Derived.Test.YtlolkmcdimgplaaGreatVTAQ
set_option linter.all false
namespace Go.Pla
open Go.Blk
variable {F:List (Nat×Nat)}{e f v x0:Nat}{o:Option Nat}{t:List Nat}
variable {g:Gr}{Bl:List Nat}{H V:Nat->Bool}{pt:Nat->Nat}
def Plc(g:Gr)(Bl:List Nat)(H V:Nat->Bool):Prop:=∀v,V v=true↔∃e∈Bl,at_ g e v=true/\H e=true
theorem Plc.fresh(h:Plc g Bl H V)(hv:V v=false):∀e∈Bl,at_ g e v=true->H e=false:=λe he ha=>by
 cases hH:H e
 .rfl
 .rw[(h v).2 ⟨e,he,ha,hH⟩]at hv;cases hv
theorem oth_at(he:e<g.m)(h:at_ g e v=true):at_ g e (g.oth e v)=true/\g.oth e (g.oth e v)=v:=by
 have:=inc_oth ((at_inc he).1 h);exact⟨(at_inc he).2 this.1,this.2.2⟩
theorem Hy(p:Pln g Bl)(hV:Plc g Bl H V)(P:Part g Bl H pt){x0 e0:Nat}(h0:V x0=false)(he0:e0∈Bl)(ha0:at_ g e0 x0=true):∀(n:Nat) {L:List (Nat×Nat)},L.length<=n->Met g Bl H (λv=>!(V v)) x0 L->∀z∈ks L,V z=false->∀e∈Bl,at_ g e z=true->pt e=pt e0
 |0,L,hn,m=>by
   obtain⟨T,hT⟩:=m.root;rw[hT]at hn;simp at hn
 |n+1,L,hn,m=>by
   intro z hz hvz e he ha;rcases cS L with h|⟨A,⟨y,x⟩,h⟩
   .rw[h]at hz;simp[ks]at hz
   rw[dC]at h;subst h;by_cases hA:A=[]
   .subst hA;obtain⟨T,hT⟩:=m.root;rw[bt]at hT hz;injection hT with h1 _;injection h1 with h1 _;subst h1;have:z=y:=by simpa[ks]using hz
    subst this;exact P.same z (hV.fresh hvz) e he e0 he0 ha ha0
   .have mA:=m.pre hA;have ih:=Hy p hV P h0 he0 ha0 n (by simp at hn;omega) mA;by_cases hzA:z∈ks A
    .exact ih z hzA hvz e he ha
    .have hzy:z=y:=by
      rw[ks_app,aw]at hz;rcases hz with h|h
      .exact absurd h hzA
      .simpa[ks]using h
     subst hzy;obtain⟨hx,hxr,i,hi,hj,_⟩:=m.par A z x [] rfl hA;have hvx:V x=false:=by
      rcases hxr with h|h
      .rw[h];exact h0
      .simpa using h
     have aix:at_ g i x=true:=by rw[p.jat hi hj];simp[Ne.symm (p.jne hi hj)]
     have aiz:at_ g i z=true:=by rw[p.jat hi hj];simp[p.jne hi hj]
     rw[<-ih x hx hvx i hi aix];exact P.same z (hV.fresh hvz) e he i hi ha aiz
structure Deep(g:Gr)(Bl:List Nat)(H V:Nat->Bool)(x0:Nat)(F:List (Nat×Nat)):Prop where
 met:Met g Bl H (λv=>!(V v)) x0 F
 shut:∀z∈ks F,V z=false->∀i∈Bl,at_ g i z=true->g.oth i z∈ks F
theorem deep_full(p:Pln g Bl)(hV:Plc g Bl H V)(h0:V x0=false)(hx:x0<g.n)(hf:g.n<=f):Deep g Bl H V x0 (full g Bl H (λv=>!(V v)) f ([(x0,x0)],[x0])):=by
 have hs:=full_srch (g:=g) (Bl:=Bl) (laid:=H) (thr:=λv=>!(V v)) (r:=x0) p.lt hx f Srch.start (by show g.n-1+1<=f;omega);refine⟨hs.met,λz hz hv i hi ha=>?_⟩;rcases hs.done z hz (.inr (by simp[hv]))with h1|⟨_,h1⟩|h1
 .simp at h1
 .cases h1
 .exact h1 i hi ha (hV.fresh hv i hi ha)
theorem Av(d:Deep g Bl H V x0 F)(h0:V x0=false){z:Nat}(hz:z∈ks F)(hv:V z=true):z∈ks F.tail:=by
 obtain⟨T,hT⟩:=d.met.root;rw[hT]at hz |-;simp only[ks,aS,ao,qf]at hz |-;rcases hz with h|h
 .rw[h,h0]at hv;cases hv
 .exact h
theorem first_end(p:Pln g Bl)(hl:Link g Bl)(hV:Plc g Bl H V)(d:Deep g Bl H V x0 F)(h0:V x0=false){e0:Nat}(he0:e0∈Bl)(ha0:at_ g e0 x0=true)(hex:∃j∈Bl,H j=true)(h:Hit F V o):∃y,o=some y/\y∈ks F/\V y=true:=by
 cases o with
 |some y =>
   obtain⟨A,x,C,h1,_,_,h2⟩:=h;exact⟨y,rfl,by rw[h1];simp[ks],h2⟩
 |none =>
   exfalso;have h:∀z∈ks F.tail,V z=false:=h;have hall:∀z∈ks F,V z=false:=λz hz=>by
    cases hv:V z
    .rfl
    .rw[<-hv];exact h z (Av d h0 hz hv)
   obtain⟨j,hj,hjH⟩:=hex;have key:=hl (λe=>decide (g.tl e∈ks F)) (λv e k he hk hev hkv=>by
    have one:∀e∈Bl,at_ g e v=true->(g.tl e∈ks F↔v∈ks F):=λe he ha=>by
     have hinc:=(at_inc (p.lt e he)).1 ha;rcases hinc.2 with h1|h1
     .rw[h1]
     .have ot:g.oth e (g.tl e)=v:=by unfold Gr.oth;omega
      have oh:g.oth e v=g.tl e:=by unfold Gr.oth;omega
      constructor
      .intro hz;have:=d.shut _ hz (hall _ hz) e he ((at_inc (p.lt e he)).2 ⟨p.lt e he,.inl rfl⟩);rwa [ot]at this
      .intro hz;have:=d.shut _ hz (hall _ hz) e he ha;rwa [oh]at this
    rw[decide_eq_decide,one e he hev,one k hk hkv]) e0 he0 j hj
   obtain⟨T,hT⟩:=d.met.root;have hr:x0∈ks F:=by rw[hT];simp[ks]
   have h1:g.tl e0∈ks F:=by
    have hinc:=(at_inc (p.lt e0 he0)).1 ha0;rcases hinc.2 with h1|h1
    .rw[h1];exact hr
    .have oh:g.oth e0 x0=g.tl e0:=by unfold Gr.oth;omega
     have:=d.shut _ hr h0 e0 he0 ha0;rwa [oh]at this
   have h2:g.tl j∈ks F:=by
    have:decide (g.tl e0∈ks F)=decide (g.tl j∈ks F):=key;rw[bp h1]at this;exact cE this.symm
   have:=hall _ h2;rw[(hV _).2 ⟨j,hj,(at_inc (p.lt j hj)).2 ⟨p.lt j hj,.inl rfl⟩,hjH⟩]at this;cases this
theorem second_end(p:Pln g Bl)(hb:Bond g Bl)(hV:Plc g Bl H V)(d:Deep g Bl H V x0 F)(h0:V x0=false){y1:Nat}(hy1:y1∈ks F)(hvy:V y1=true)(h:Hit F (λy=>V y&&!(decide (y=y1))) o):∃y,o=some y/\y∈ks F/\V y=true/\y≠y1:=by
 cases o with
 |some y =>
   obtain⟨A,x,C,h1,_,_,h2⟩:=h;simp only[aL,dJ,aZ]at h2;exact⟨y,rfl,by rw[h1];simp[ks],h2.1,h2.2⟩
 |none =>
   exfalso;have h:∀z∈ks F.tail,(V z&&!(decide (z=y1)))=false:=h;have hall:∀z∈ks F,V z=true->z=y1:=λz hz hv=>by
    have:=h z (Av d h0 hz hv);rw[hv]at this;simpa using this
   obtain⟨K,hK⟩:∃K:Nat->Bool,∀z,K z=true↔z∈ks F/\V z=false:=⟨λz=>decide (z∈ks F/\V z=false),λz=>by simp⟩
   have hcut:∀e∈Bl,(K (g.tl e)^^K (g.hd e))=((K (g.tl e)||K (g.hd e))&&at_ g e y1):=by
    intro e he;have hok:=g.ok e (p.lt e he);have ky:K y1=false:=by
     cases hk:K y1
     .rfl
     .rw[((hK _).1 hk).2]at hvy;cases hvy
    have it:=(at_inc (p.lt e he)).2 (⟨p.lt e he,.inl rfl⟩:g.inc e (g.tl e));have ih:=(at_inc (p.lt e he)).2 (⟨p.lt e he,.inr rfl⟩:g.inc e (g.hd e));have ot:g.oth e (g.tl e)=g.hd e:=by unfold Gr.oth;omega
    have oh:g.oth e (g.hd e)=g.tl e:=by unfold Gr.oth;omega
    have next:∀a b,K a=true->at_ g e a=true->g.oth e a=b->K b=true\/b=y1:=λa b ha hat hab=>by
     have:=d.shut a ((hK _).1 ha).1 ((hK _).1 ha).2 e he hat;rw[hab]at this;cases hvb:V b
     .exact .inl ((hK _).2 ⟨this,hvb⟩)
     .exact .inr (hall b this hvb)
    have hat:at_ g e y1=((g.tl e==y1)^^(g.hd e==y1)):=rfl;cases h1:K (g.tl e)
    .cases h2:K (g.hd e)
     .rfl
     .rcases next _ _ h2 ih oh with h3|h3
      .rw[h1]at h3;cases h3
      .have:g.hd e≠y1:=λq=>by rw[q,ky]at h2;cases h2
       rw[hat,beq_iff_eq.2 h3,beq_eq_false_iff_ne.2 this];rfl
    .have t1:g.tl e≠y1:=λq=>by rw[q,ky]at h1;cases h1
     cases h2:K (g.hd e)
     .rcases next _ _ h1 it ot with h3|h3
      .rw[h2]at h3;cases h3
      .rw[hat,beq_iff_eq.2 h3,beq_eq_false_iff_ne.2 t1];rfl
     .have t2:g.hd e≠y1:=λq=>by rw[q,ky]at h2;cases h2
      rw[hat,beq_eq_false_iff_ne.2 t1,beq_eq_false_iff_ne.2 t2];rfl
   obtain⟨q,hq,hqy⟩:=bG.1 hy1;obtain⟨A,C,hF⟩:=cw hq;have hA:A≠[]:=by
    intro hA;subst hA;obtain⟨T,hT⟩:=d.met.root;rw[hT,bt]at hF;injection hF with h1 _;rw[<-h1]at hqy;have:x0=y1:=hqy;rw[this,hvy]at h0;cases h0
   have hq':q=(y1,q.2):=by rw[<-hqy]
   rw[hq']at hF;obtain⟨hx,hxr,i,hi,hj,_⟩:=d.met.par A y1 q.2 C hF hA;have hvx:V q.2=false:=by
    rcases hxr with h|h
    .rw[h];exact h0
    .simpa using h
   have kx:K q.2=true:=(hK _).2 ⟨by rw[hF,ks_app];exact bg _ hx,hvx⟩;have iy:at_ g i y1=true:=by rw[p.jat hi hj];simp[p.jne hi hj]
   have Yi:(K (g.tl i)||K (g.hd i))=true:=by
    rcases jn_iff.1 hj with⟨a,b⟩|⟨a,b⟩
    .rw[a,kx];rfl
    .rw[b,kx];simp
   obtain⟨j,hj',hja,hjH⟩:=(hV y1).1 hvy;have Yj:(K (g.tl j)||K (g.hd j))=false:=by
    have t1:K (g.tl j)=false:=by
     cases hk:K (g.tl j)
     .rfl
     .have:=hV.fresh ((hK _).1 hk).2 j hj' ((at_inc (p.lt j hj')).2 ⟨p.lt j hj',.inl rfl⟩);rw[hjH]at this;cases this
    have t2:K (g.hd j)=false:=by
     cases hk:K (g.hd j)
     .rfl
     .have:=hV.fresh ((hK _).1 hk).2 j hj' ((at_inc (p.lt j hj')).2 ⟨p.lt j hj',.inr rfl⟩);rw[hjH]at this;cases this
    rw[t1,t2];rfl
   have:=qL p.nd hb (Y:=λe=>K (g.tl e)||K (g.hd e)) (v:=y1) (λX hX=>by
    rw[<-Ax p hX K];exact bD λe he=>by rw[hcut e he]) hi hj' iy hja
   rw[Yi,Yj]at this;cases this
theorem mid_way(p:Pln g Bl)(hV:Plc g Bl H V)(d:Deep g Bl H V x0 F)(h0:V x0=false){y1 y2:Nat}(h1:y1∈ks F)(h2:y2∈ks F)(v1:V y1=true)(v2:V y2=true)(hne:y2≠y1){c a b:List Nat}(e1:tr F y1=c++v::a)(e2:tr F y2=c++v::b)(hd:∀z a' b',a=z::a'->b=z::b'->False) :
 ∃i,a.reverse++v::b=y1::i++[y2]/\(y1::i++[y2]).Nodup/\Ch g Bl (y1::i++[y2])/\i≠[]/\∀z∈i,z∈ks F/\V z=false:=by
 obtain⟨t1,q1,q2,q3,q4,q5⟩:=tr_ok F.length (ab _) d.met y1 h1;obtain⟨t2,r1,r2,r3,r4,r5⟩:=tr_ok F.length (ab _) d.met y2 h2;have in1:∀z∈tr F y1,V z=true->z=y1:=λz hz hv=>by
  rw[q1]at hz;rcases(q5 z hz).2 with h|h|h
  .rw[h,h0]at hv;cases hv
  .rw[hv]at h;cases h
  .exact h
 have in2:∀z∈tr F y2,V z=true->z=y2:=λz hz hv=>by
  rw[r1]at hz;rcases(r5 z hz).2 with h|h|h
  .rw[h,h0]at hv;cases hv
  .rw[hv]at h;cases h
  .exact h
 have hfork:=fork d.met h1 h2 e1 e2 hd;have vv:V v=false:=by
  cases h:V v
  .rfl
  .have a1:=in1 v (by rw[e1];simp) h;have a2:=in2 v (by rw[e2];simp) h;exact absurd (a2.symm.trans a1) hne
 obtain⟨s1,l1⟩:=lst_cat (r:=x0) (t:=t1);obtain⟨s2,l2⟩:=lst_cat (r:=x0) (t:=t2);rw[<-q1,q2,e1]at l1;rw[<-r1,r2,e2]at l2;have last:∀{a:List Nat}{y:Nat}{s:List Nat},c++v::a=s++[y]->V y=true->∃a',a=a'++[y]:=fun {a y s} h hv=>by
  rcases cS a with rfl|⟨a',w,rfl⟩
  .have h':c++[v]=s++[y]:=h;obtain⟨_,h3⟩:=dW h' rfl;injection h3 with h3;rw[h3,hv]at vv;cases vv
  .rw[dC]at h |-;have h':(c++v::a')++[w]=s++[y]:=by rw[<-h];simp
   obtain⟨_,h3⟩:=dW h' rfl;injection h3 with h3;exact⟨a',by rw[h3]⟩
 obtain⟨a',rfl⟩:=last l1 v1;obtain⟨b',rfl⟩:=last l2 v2;have n1:(c++v::(a'++[y1])).Nodup:=by rw[<-e1,q1];exact q3
 have n2:(c++v::(b'++[y2])).Nodup:=by rw[<-e2,r1];exact r3
 have hmono:∀(s:List Nat),Ch g (Bl.filter λi=>!(H i)) s->Ch g Bl s:=by
  intro s;induction s with
  |nil=>exact λh=>h
  |cons a s ih =>
    cases s with
    |nil=>exact λh=>h
    |cons b s =>
      rintro⟨⟨e,he,hj⟩,h2⟩;exact⟨⟨e,(aJ.1 he).1,hj⟩,ih h2⟩
 have c1:Ch g Bl (v::(a'++[y1])):=by
  have:Ch g Bl (c++v::(a'++[y1])):=by rw[<-e1,q1];exact hmono _ q4
  exact(iK.1 this).2
 have c2:Ch g Bl (v::(b'++[y2])):=by
  have:Ch g Bl (c++v::(b'++[y2])):=by rw[<-e2,r1];exact hmono _ r4
  exact(iK.1 this).2
 rw[aN]at n1 n2;refine⟨a'.reverse++v::b',by simp,?_,?_,by simp,λz hz=>?_⟩
 .rw[show y1::(a'.reverse++v::b')++[y2]=(a'++[y1]).reverse++v::(b'++[y2]) by simp];rw[aN];refine⟨(gf _).nodup_iff.2 (aY.1 n1.2.1).2,n2.2.1,λz hz w hw=>?_⟩;intro h;subst h;have hz:z∈a'++[y1]:=Jn.1 hz;rcases ao.1 hw with rfl|hw
  .exact(aY.1 n1.2.1).1 hz
  .exact hfork z hz hw
 .rw[show y1::(a'.reverse++v::b')++[y2]=(a'++[y1]).reverse++v::(b'++[y2]) by simp,iK];refine⟨?_,c2⟩;rw[show(a'++[y1]).reverse++[v]=(v::(a'++[y1])).reverse by simp,yp];exact c1
 .have key:z∈tr F y1/\z≠y1\/z∈tr F y2/\z≠y2:=by
   rcases aw.1 hz with h|h
   .refine .inl ⟨by rw[e1];simp;right;right;left;simpa using h,λe=>?_⟩;have:=(aY.1 n1.2.1).2;rw[aN]at this;exact this.2.2 z (by simpa using h) y1 (by simp) e
   .rcases ao.1 h with rfl|h
    .exact .inl ⟨by rw[e1];simp,λe=>by rw[e,v1]at vv;cases vv⟩
    .refine .inr ⟨by rw[e2];simp;right;right;left;exact h,λe=>?_⟩;have:=(aY.1 n2.2.1).2;rw[aN]at this;exact this.2.2 z h y2 (by simp) e
  rcases key with⟨k1,k2⟩|⟨k1,k2⟩
  .refine⟨yT d.met h1 k1,?_⟩;cases hv:V z
   .rfl
   .exact absurd (in1 z k1 hv) k2
  .refine⟨yT d.met h2 k1,?_⟩;cases hv:V z
   .rfl
   .exact absurd (in2 z k1 hv) k2
open Go.Blk
variable {g:Gr}{B:List Nat}{H H' V:Nat->Bool}{nf:Nat}{fc:Nat->List Nat}
theorem Lay.congrH(L:Lay g B H nf fc)(h:∀e∈B,H e=H' e):Lay g B H' nf fc where
 circ:=L.circ
 two:=λe he hH=>L.two e he (by rw[h e he];exact hH)
 none:=λe he hH=>L.none e he (by rw[h e he];exact hH)
 span:=λX hX hs=>L.span X hX λe he hx=>by rw[h e he];exact hs e he hx
 bond:=λv e k he hk hH hK hev hkv hne=>by
  obtain⟨X,a,b,c⟩:=L.bond v e k he hk (by rw[h e he];exact hH) (by rw[h k hk];exact hK) hev hkv hne;exact⟨X,a,λj hj hx=>by rw[<-h j hj];exact b j hj hx,λj hj hH=>c j hj (by rw[h j hj];exact hH)⟩
theorem Ori.congrH(o:Ori g B H nf fc)(h:∀e∈B,H e=H' e):Ori g B H' nf fc:=λe he hH=>o e he (by rw[h e he];exact hH)
theorem Ext.congrH{Φ:Type}{l r:Nat->Φ}{pf:Φ->Nat}{Z:Nat->Nat->Bool}(x:Ext g B l r H nf Z pf)(h:∀e∈B,H e=H' e):Ext g B l r H' nf Z pf where
 side:=x.side
 lt:=x.lt
 lay:=λe he=>by rw[<-h e he];exact x.lay e he
def Can(g:Gr)(B:List Nat)(H:Nat->Bool)(nf:Nat)(fc:Nat->List Nat):Prop:=(∃(Φ:Type) (l r:Nat->Φ),Dual g B l r)->∃(Φ:Type) (l r:Nat->Φ) (pf:Φ->Nat),Dual g B l r/\Ext g B l r H nf (λk=>cy g (fc k)) pf
abbrev fcs(F:List (List Nat)):Nat->List Nat:=λf=>F.getD f []
structure Bld(g:Gr)(B:List Nat)(H V:Nat->Bool)(F:List (List Nat)):Prop where
 lay:Lay g B H F.length (fcs F)
 ori:Ori g B H F.length (fcs F)
 can:Can g B H F.length (fcs F)
 plc:Plc g B H V
 ex:∃e∈B,H e=true
theorem Fx(p:Pln g B){z:Nat}{s:List Nat}(hc:Cc g B (z::s))(he:e∈B):cy g (z::s) e=true↔On g (z::s++[z]) e:=by
 constructor
 .exact pF
 .rintro⟨a,x,y,b,h1,h2⟩;obtain⟨t,hr⟩:=(pK (z:=z) (s:=s) (x:=x) (y:=y) rfl).2 ⟨a,b,h1,by have:=hc.2.2;omega⟩;rw[<-hr.cy];exact jv p (hr.cc hc) he h2
theorem KD{w y:Nat}{s:List Nat}:On g (s++[w,y]) e↔On g (s++[w]) e\/jn g e w y=true:=by
 constructor
 .rintro⟨a,u,v,b,h1,h2⟩;rcases cS b with rfl|⟨b,q,rfl⟩
  .have h3:(s++[w])++[y]=(a++[u])++[v]:=by rw[show(s++[w])++[y]=s++[w,y] by simp,h1];simp
   obtain⟨h4,h5⟩:=dW h3 rfl;obtain⟨_,h6⟩:=dW h4 rfl;injection h5 with h5;injection h6 with h6;subst h5 h6;exact .inr h2
  .rw[dC]at h1;have h3:(s++[w])++[y]=(a++u::v::b)++[q]:=by rw[show(s++[w])++[y]=s++[w,y] by simp,h1];simp
   obtain⟨h4,_⟩:=dW h3 rfl;exact .inl ⟨a,u,v,b,h4,h2⟩
 .rintro (⟨a,u,v,b,h1,h2⟩|h)
  .exact⟨a,u,v,b++[y],by rw[show s++[w,y]=(s++[w])++[y] by simp,h1];simp,h2⟩
  .exact⟨s,w,y,[],rfl,h⟩
theorem base_on(p:Pln g B){z l e0:Nat}(hc:Cc g B (z::t))(hl:lst z t=l)(he0:e0∈B)(hj:jn g e0 l z=true)(he:e∈B):cy g (z::t) e=true↔e=e0\/On g (z::t) e:=by
 rw[Fx p hc he];obtain⟨s,hs⟩:=lst_cat (r:=z) (t:=t);rw[hl]at hs;rw[hs,bO];show On g (s++[l,z]) e↔_;rw[KD,or_comm];constructor
 .rintro (h|h)
  .exact .inl (p.one e he e0 he0 _ _ h hj)
  .exact .inr h
 .rintro (rfl|h)
  .exact .inl hj
  .exact .inr h
theorem inv_base(p:Pln g B){w:List Nat}(hc:Cc g B w)(hH:∀e∈B,H e=cy g w e)(hV:∀v,V v=true↔v∈w):Bld g B H V [w,w.reverse]:=by
 obtain⟨h1,h2,h3⟩:=HH p hc;have e:∀f,f<2->fcs [w,w.reverse] f=if f=0 then w else w.reverse:=λf hf=>by
  have:f=0\/f=1:=om;rcases this with rfl|rfl<;>rfl
 have ec:∀f,f<2->Cc g B (fcs [w,w.reverse] f)/\∀k,cy g (fcs [w,w.reverse] f) k=cy g (if f=0 then w else w.reverse) k:=λf hf=>by
  rw[e f hf];refine⟨?_,λ_=>rfl⟩;split
  .exact hc
  .exact yr hc
 refine⟨(h1.change ec).congrH λe he=>(hH e he).symm,?_,λ⟨Φ,l,r,d⟩=>?_,λv=>?_,?_⟩
 .refine Ori.congrH (H:=cy g w) ?_ λe he=>(hH e he).symm;intro k hk hc x y hj;obtain⟨f,hf,hn⟩:=h2 k hk hc x y hj;exact⟨f,hf,by rw[e f hf];exact hn⟩
 .obtain⟨pf,x⟩:=h3 d;exact⟨Φ,l,r,pf,d,(x.congr λf hf k _=>((ec f hf).2 k).symm).congrH λe he=>(hH e he).symm⟩
 .rw[hV];constructor
  .intro hv;obtain⟨k,hk,hkv,hkc⟩:=cy_at p hc hv;exact⟨k,hk,hkv,by rw[hH k hk];exact hkc⟩
  .rintro⟨k,hk,hkv,hkH⟩;rw[hH k hk]at hkH;exact Aw p hk hkH hkv
 .cases w with
  |nil=>exact hc.elim
  |cons z s =>
    obtain⟨k,hk,_,hkc⟩:=cy_at p hc (x:=z) (by simp);exact⟨k,hk,by rw[hH k hk];exact hkc⟩
theorem inv_cut(p:Pln g B)(hb:Bond g B)(hl:Link g B){F:List (List Nat)}(I:Bld g B H V F){pt:Nat->Nat}(P:Part g B H pt){x y:Nat}{s i:List Nat}(hf:f<F.length)(hr:Rot (fcs F f) (x::s++y::t))(ch:Ch g B (x::i++[y]))(nd:(x::i++[y]).Nodup)(fr:∀v∈i,V v=false)(new:i=[]->∀e∈B,jn g e x y=true->H e=false)
 (hin:∀e∈B,On g (x::i++[y]) e->∀v,Hg g B H pt (pt e) v->v∈fcs F f)
 (hor:(∀e∈B,On g (x::i++[y]) e->∀h,h<F.length->(∀v,Hg g B H pt (pt e) v->v∈fcs F h)->h=f)\/(∀e∈B,H e=false->∃h1 h2,h1<F.length/\h2<F.length/\h1≠h2/\∀v,Hg g B H pt (pt e) v->v∈fcs F h1/\v∈fcs F h2))
 {V':Nat->Bool} (hH':∀e∈B,H' e=true↔H e=true\/On g (x::i++[y]) e) (hV':∀v,V' v=true↔V v=true\/v∈x::i++[y]) :
 Bld g B H' V' ((F.set f (x::s++y::i.reverse))++[y::t++x::i]):=by
 obtain⟨fc,hfc⟩:∃fc:Nat->List Nat,∀k,fc k=if k=f then x::s++y::t else fcs F k:=⟨_,λ_=>rfl⟩
 have hcr:∀k,k<F.length->Rot (fcs F k) (fc k):=λk _=>by
  rw[hfc];split
  .rename_i h;subst h;exact hr
  .exact Rot.rfl'
 have hm:∀k v,k<F.length->(v∈fc k↔v∈fcs F k):=λk v hk=>(hcr k hk).mem;have L:Lay g B H F.length fc:=I.lay.change λk hk=>⟨(hcr k hk).cc (I.lay.circ k hk),λe=>(hcr k hk).cy e⟩
 have onw:∀e∈B,wk g (x::i++[y]) e=true↔On g (x::i++[y]) e:=λe he=>⟨pF,λ⟨a,u,v,b,h1,h2⟩=>by
  rw[h1]at nd |-;exact AP p nd he h2⟩
 have fresh:∀v∈i,∀e∈B,at_ g e v=true->H e=false:=λv hv=>I.plc.fresh (fr v hv);have w:Way g B H fc f x y s i t:=⟨by rw[hfc];simp,ch,nd,fresh,λe he h=>by
  obtain⟨a,u,v,b,h1,h2⟩:=mM h;by_cases hi:i=[]
  .subst hi;have hl:=congrArg List.length h1;cases a with
   |nil =>
     simp only[bt,aH]at h1;injection h1 with h3 h4;injection h4 with h4 _;subst h3 h4;exact new rfl e he h2
   |cons c a=>simp at hl;omega
  ·
   have:u∈i\/v∈i:=by
    have hne:u≠v:=p.jne he h2;have hu:u∈x::i++[y]:=by rw[h1];simp
    have hv:v∈x::i++[y]:=by rw[h1];simp
    simp only[aH,ao,aw,bd,or_false]at hu hv;refine Classical.byContradiction λhno=>?_;obtain⟨q,i',rfl⟩:=dL hi;cases a with
    |nil =>
      simp only[bt,aH]at h1;injection h1 with h3 h4;injection h4 with h4 _;subst h4;exact hno (.inr (by simp))
    |cons c a =>
      simp only[aH]at h1;injection h1 with h3 h4;subst h3;have:u∈q::i':=by
       have h5:(q::i'++[y]).dropLast=q::i':=yM;rw[<-h5,show q::i'++[y]=(a++[u])++(v::b) by rw[aH,h4];simp,eR (by simp)];simp
      exact hno (.inl this)
   rcases this with h3|h3
   .exact fresh u h3 e he (by rw[p.jat he h2];simp[Ne.symm (p.jne he h2)])
   .exact fresh v h3 e he (by rw[p.jat he h2];simp[p.jne he h2])⟩
 have hHe:∀e∈B,(H e||wk g (x::i++[y]) e)=H' e:=λe he=>by
  rw[eq,du,hH' e he,onw e he]
 have hlen:((F.set f (x::s++y::i.reverse))++[y::t++x::i]).length=F.length+1:=by simp
 have hfc2:∀k,k<F.length+1->fcs ((F.set f (x::s++y::i.reverse))++[y::t++x::i]) k=cut fc f F.length x y s i t k:=λk hk=>by
  unfold cut;by_cases h1:k=f
  .subst h1;rw[if_pos rfl];simp only[fcs,aj];rw[bA (by rw[dh];exact hf),cK hf];rfl
  .rw[if_neg h1];by_cases h2:k=F.length
   .subst h2;rw[if_pos rfl];simp[fcs,List.getD]
   .rw[if_neg h2,hfc,if_neg h1];simp only[fcs,aj];rw[bA (by rw[dh];omega),cQ (Ne.symm h1)]
 have toF:∀k,k<F.length+1->Cc g B (cut fc f F.length x y s i t k)->Cc g B (fcs ((F.set f (x::s++y::i.reverse))++[y::t++x::i]) k)/\∀e,cy g (fcs ((F.set f (x::s++y::i.reverse))++[y::t++x::i]) k) e=cy g (cut fc f F.length x y s i t k) e:=λk hk h=>by
  rw[hfc2 k hk];exact⟨h,λ_=>rfl⟩
 have L2:=KR p L hf w;refine⟨?_,?_,?_,λv=>?_,?_⟩
 .rw[hlen];exact(L2.change λk hk=>toF k hk (L2.circ k hk)).congrH hHe
 .rw[hlen];refine Ori.congrH (H:=λe=>H e||wk g (x::i++[y]) e) ?_ hHe;intro e he h a b hj;obtain⟨k,hk,hn⟩:=Ky L hf w (I.ori.change hcr) e he h a b hj;exact⟨k,hk,by rw[hfc2 k hk];exact hn⟩
 .rw[hlen];intro hd;obtain⟨Φ,l,r,pf,d,xt⟩:=I.can hd;obtain⟨Φ',l',r',pf',d',x'⟩:=IQ p hb hl L P hf w (λe he h v hv=>(hm f v hf).2 (hin e he ((onw e he).1 h) v hv)) (by
   rcases hor with h|h
   .exact .inl λe he hw k hk hv=>h e he ((onw e he).1 hw) k hk λv hg=>(hm k v hk).1 (hv v hg)
   .refine .inr λe he hH=>?_;obtain⟨a,b,ha,hb',hab,hv⟩:=h e he hH;exact⟨a,b,ha,hb',hab,λv hg=>⟨(hm a v ha).2 (hv v hg).1,(hm b v hb').2 (hv v hg).2⟩⟩) ⟨Φ,l,r,pf,d,xt.congr λk hk e _=>((hcr k hk).cy e).symm⟩
  exact⟨Φ',l',r',pf',d',(x'.congr λk hk e _=>by rw[hfc2 k hk]).congrH hHe⟩
 .rw[hV'];constructor
  .rintro (h|h)
   .obtain⟨e,he,ha,hH⟩:=(I.plc v).1 h;exact⟨e,he,ha,(hH' e he).2 (.inl hH)⟩
   ·
    have hne:x::i++[y]≠[]:=by simp
    obtain⟨a,b,hab⟩:=cw h;rcases cS a with rfl|⟨a,u,rfl⟩
    .cases b with
     |nil =>
       have:=congrArg List.length hab;simp at this
     |cons u b =>
       rw[hab]at ch;obtain⟨⟨e,he,hj⟩,_⟩:=ch;exact⟨e,he,by rw[p.jat he hj];simp[Ne.symm (p.jne he hj)],(hH' e he).2 (.inr ⟨[],v,u,b,hab,hj⟩)⟩
    .rw[dC]at hab;have hab':x::i++[y]=a++u::(v::b):=by rw[hab];simp
     rw[hab']at ch;obtain⟨⟨e,he,hj⟩,_⟩:=(iK.1 ch).2;exact⟨e,he,by rw[p.jat he hj];simp[p.jne he hj],(hH' e he).2 (.inr ⟨a,u,v,b,hab',hj⟩)⟩
  .rintro⟨e,he,ha,hH⟩;rcases(hH' e he).1 hH with h|h
   .exact .inl ((I.plc v).2 ⟨e,he,ha,h⟩)
   .exact .inr (yP p he ((onw e he).2 h) ha)
 .obtain⟨e,he,hH⟩:=I.ex;exact⟨e,he,(hH' e he).2 (.inl hH)⟩
end Go.Pla
namespace Go.Proofs.YtlolkmcdimgplaaGreat
open Go.Am
open Go.Pla (at_ jn On Bld Pln Bond Link tr full cy Cc)
variable {E:List (Int×Int)}{bb n pa:Nat}{edv ev:AV}{h:AH}
theorem Bu.putF{Bl:List Nat}{la:Nat}{H V:Nat->Bool}{fav:AV}(u:Bu h bb n ev edv E Bl la pa H V fav)(v:AV) :
 ∃h',cj h bb 5 [v]=some h'/\Bu h' bb n ev edv E Bl la pa H V v/\∃o,Upd h h' bb o:=by
 have w:=iP (v:=v) u.o (i:=5) (by simp);have uu:=Nv (o:=.cells ([AV.int .i64 (n:Nat),ev,edv,.sl la 0 E.length E.length,.sl pa 0 n n,fav].set 5 v) 6 false) u.o;have k:=uu.kp (S:=λc=>c=bb) rfl;refine⟨_,w,⟨uu.get,u.e.kp k (gH u.oe λc h=>.inr (.inr h)),u.b.kp k (gH u.ob λc h=>.inr (.inr h)),?_,?_,u.d,u.oe,u.ob⟩,_,uu⟩
 .rw[uu.ne (Ne.symm u.d.1)];exact u.l
 .rw[uu.ne (Ne.symm u.d.2.1)];exact u.v
theorem zw{y:AV}:C prg 68 [y] h λv h'=>v=.bool true/\Ext h.next h h':=by
 refine Ny pf68 ?_;refine ai (aD (Mi0) ?_);refine ai (aD (M0) ?_);exact bU ⟨.bool true,(by simp only[rs,rf68,am,aI,simprocAttr]<;>rfl),rfl,Nu⟩
theorem zu{y a b lb:Nat}(hg:h.get lb=some (.cells [.int .i64 (a:Nat),.int .i64 (b:Nat)] 2 false)):C prg 70 [.int .i64 (y:Nat),.ptr lb 0] h λv h'=>v=.bool (decide (y=b))/\Ext h.next h h':=by
 refine Ny pf70 ?_;have r1:aA h lb 1 1=some [.int .i64 (b:Nat)]:=bJ hg rfl;have d1:decide (((y:Nat):Int)=((b:Nat):Int))=decide (y=b):=by rw[decide_eq_decide];omega
 refine ai (aD (Mi0) ?_);refine ai (bW (λts h'=>h'=h/\aR ts 3=.bool (decide (y=b))) (by simp only[am,aI,simprocAttr,bP,r1,d1]) ?_);rintro ts h' ⟨rfl,e3⟩;exact bU ⟨.bool (decide (y=b)),(by simp only[rs,rf70,am,aI,simprocAttr,e3]<;>rfl),rfl,Nu⟩
theorem IsSl.off{lo:Nat}{v:AV}{cs:List AV}{S:Nat->Prop}(hv:IsSl h 1 lo v cs)(hs:∀c,S c->c<lo):Off S v:=by
 rcases hv with⟨rfl,_⟩|⟨b,n,h1,rfl,_⟩
 .trivial
 .intro q;have:=hs b q;omega
set_option maxHeartbeats 2000000 in
theorem Br{e0 k0:Nat}{Bl':List Nat}{la:Nat}(u:Bu h bb n ev edv E (e0::Bl') la pa (λ_=>false) (λ_=>false) .nils)(hE:InG n E)(hL:∀i,i<E.length->tlE E i≠hdE E i)(hn:n<2^30)(hm:E.length<2^30)(hB:∀i∈e0::Bl',i<E.length)(hBn:(e0::Bl').length<2^30)(hp:Pln (grE n E hE hL) (e0::Bl'))(hbo:Bond (grE n E hE hL) (e0::Bl'))(hli:Link (grE n E hE hL) (e0::Bl'))(hk0:k0∈e0::Bl')(hke:k0≠e0) :
 C prg 49 [.ptr bb 0] h λ_ h'=>∃H V fav F,Bu h' bb n ev edv E (e0::Bl') la pa H V fav/\Kp (λc=>c=la\/c=pa\/c=bb) h h'/\LL h' h.next fav F/\F.length=2/\Bld (grE n E hE hL) (e0::Bl') H V F:=by
 have lt_bb:=AH.lt_of_get u.o;have lt_la:=AH.lt_of_get u.l;have lt_pa:=AH.lt_of_get u.v;have he0:=hB e0 (by simp);obtain⟨q1,q2,q3⟩:=hE e0 he0;refine Ny pf49 ?_;have r1:aA h bb 1 1=some [ev]:=bJ u.o rfl;have r2:aA h bb 2 1=some [edv]:=bJ u.o rfl;obtain⟨b1,o1,a1,s1,_⟩:=u.b.at1 (i:=0) (y:=.int .i64 (e0:Nat)) rfl;rw[de]at a1;obtain⟨b2,o2,a2,s2,_,_⟩:=u.e.at (fR (f:=eE) he0);rw[q1]at s2;have s2:aA h b2 o2 2=some [.int .i64 (tlE E e0:Nat),.int .i64 (hdE E e0:Nat)]:=s2;obtain⟨h1,w1,x1,g1,n1⟩:=gv (h:=h) (z:=[.int .i64 0,.int .i64 0]) (cs:=[.int .i64 (tlE E e0:Nat),.int .i64 (hdE E e0:Nat)]) (e:=2) rfl;refine ai (bW (λts h'=>h'=h1/\aR ts 0=.ptr bb 0/\aR ts 2=.ptr h.next 0) (by simp only[am,aI,simprocAttr,bP,r1,r2,a1,s1,a2,s2,w1]) ?_);rintro ts h1' ⟨rfl,e_0,e_2⟩;have u1:=u.ext x1 (ab _);have r3:aA h1' bb 3 1=some [.sl la 0 E.length E.length]:=bJ u1.o rfl;have r2:aA h1' bb 2 1=some [edv]:=bJ u1.o rfl;obtain⟨b1,o1,a1,s1,_⟩:=u1.b.at1 (i:=0) (y:=.int .i64 (e0:Nat)) rfl;rw[de]at a1;have ie:iV ((e0:Nat):Int) E.length=some e0:=eU he0;obtain⟨h2,w2,u2,up2⟩:=u1.putH he0;refine ai (bW (λts h'=>h'=h2/\aR ts 0=.ptr bb 0/\aR ts 2=.ptr h.next 0) (by simp only[am,aI,simprocAttr,e_0,e_2,r3,r2,a1,s1,ie,bh,w2]) ?_);rintro ts h2' ⟨rfl,e_0,e_2⟩;have hfun:(λj=>if j=e0 then true else(λ_:Nat=>false) j)=λe=>decide (e=e0):=by
  funext j;by_cases q:j=e0<;>simp[q]
 rw[hfun]at u2;have k2:Kp (λc=>c=la\/c=pa\/c=bb) h h2':=(x1.kp (S:=λc=>c=la\/c=pa\/c=bb) (ab _)).trans (up2.kp (S:=λc=>c=la\/c=pa\/c=bb) (.inl rfl)) (λ_ _ q=>q);have g2:h2'.get h.next=some (.cells [.int .i64 (tlE E e0:Nat),.int .i64 (hdE E e0:Nat)] 2 false):=by rw[up2.ne om];exact g1
 have n2:h2'.next=h.next+1:=by rw[up2.nx];exact n1
 refine ai (aD (M1 @kD) ?_);have rt:aA h2' h.next 0 1=some [.int .i64 (tlE E e0:Nat)]:=bJ g2 rfl;have hway:=tO u2 hE hL hn hm hB hBn q2 (ke:=70) (kt:=68) (ce:=[.ptr h.next 0]) (ct:=[]) (fin:=λy=>decide (y=hdE E e0)) (thr:=λ_=>true) (λy _ h' x'=>zu (by rw[x'.gt _ (AH.lt_of_get g2)];exact g2)) (λy _ h' _=>zw);refine ai (bS (bE 5 (by simp only[am,aI,simprocAttr,e_0,e_2,rt,kD]<;>rfl) rfl (by simp only[am,aI,simprocAttr,e_0,e_2,rt,kD]) (by simp only[am,aI,simprocAttr,e_0,e_2,rt,kD]<;>rfl) (hway) λwv h3 hq=>?_));obtain⟨x3,o,hit,hres⟩:=hq;refine bM (M0) ?_;obtain⟨ho,w,hw,hcc,t',hwt,hlst⟩:=Go.Pla.back_ex hp hbo hli (e0:=e0) (k0:=k0) (by simp) hk0 hke (f:=n+1) (Nat.le_succ _) hit;subst ho;have hres:IsSl h3 1 h2'.next wv (nC w):=by rw[<-hw];exact hres
 have k3:=k2.trans (x3.kp (S:=λc=>c=la\/c=pa\/c=bb) (ab _)) (λ_ _ q=>q);have u3:=u2.ext x3 (ab _);have hwn:∀v∈w,v<n:=λv hv=>by
  obtain⟨j,hj,ha,_⟩:=Go.Pla.cy_at hp hcc hv;exact Go.Pla.at_lt (hp.lt j hj) ha
 have hwl:w.length<2^30:=by have:=Go.Pla.nd_lt hcc.nodup hwn;omega
 refine ai (bS (bE 2 (by simp only[am,aI,simprocAttr,e_0]<;>rfl) rfl (by simp only[am,aI,simprocAttr,e_0]) (by simp only[am,aI,simprocAttr,e_0]<;>rfl) (zt u3 hE hL hn hm hB hBn (et hres) hwn hwl (IsSl.off hres λc hc=>by rcases hc with rfl|rfl<;>omega)) λv4 h4 hq=>?_));obtain⟨H4,V4,u4,k4,hH4,hV4⟩:=hq;refine bM (M0) ?_;have k4':=k3.trans k4 (λc _ q=>by rcases q with q|q;exact .inl q;exact .inr (.inl q));have hres4:IsSl h4 1 h2'.next wv (nC w):=hres.cong λb m hv hlo=>k4.gt b (by
  rcases hres with⟨rfl,_⟩|⟨b',n',_,rfl,hg,_⟩
  .cases hv
  .cases hv;exact AH.lt_of_get hg) (by rintro (rfl|rfl)<;>omega)
 refine ai (bS (bE 1 (M0) rfl (Z0) (M0) (oW (et hres4) (by rw[ah];omega)) λbv h5 hq=>?_));obtain⟨i5,x5,_⟩:=hq;refine bM (M0) ?_;have i5:IsSl h5 1 h4.next bv (nC w):=i5;refine ai (bS (bE 1 (M0) rfl (Z0) (M0) (xy i5 om) λv6 h6 hq=>?_));obtain⟨i6,x6,n6,_⟩:=hq;refine bM (M0) ?_;have lt_wv:∀b m,wv=.sl b 0 m m->b<h4.next:=λb m e=>hres4.lt e;have lt_bv:∀b m,bv=.sl b 0 m m->b<h6.next:=λb m e=>i6.lt e;have x46:Ext h4.next h4 h6:=x5.trans x6;have n46:=x46.nx;have n34:=k4.nx;have n23:=x3.nx;have u6:=u4.ext x46 (ab _);have hres6:=hres4.ext x46 (ab _);have x7:Ext h6.next h6 (h6.new (.cells [wv,bv] 1 false)):=Nt (ab _);have g7:(h6.new (.cells [wv,bv] 1 false)).get h6.next=some (.cells [wv,bv] 1 false):=by rw[AH.get_new,if_pos rfl]
 obtain⟨h8,w8,u8,o8,up8⟩:=(u6.ext x7 (ab _)).putF (.sl h6.next 0 2 2);have rp2:dA [AV.nils] 2=[.nils,.nils]:=rfl;refine bW (λts h'=>h'=h8) (by simp only[am,aI,simprocAttr,e_0,hres6.cells.1,i6.cells.1,hres6.cells.2,i6.cells.2,rp2,ar,aU,cN,bT,Nat.reduceAdd,Nat.reduceLeDiff,if_true,w8]) ?_;rintro ts h8' rfl;have xk:Ext h6.next h6 (h6.new (.cells [wv,bv] 1 false)):=x7;generalize h6.new (.cells [wv,bv] 1 false)=h7 at *
 have nb:h6.next≠bb:=om;have g8:h8'.get h6.next=some (.cells [wv,bv] 1 false):=by rw[up8.ne nb];exact g7
 have keep:∀c,c≠bb->c<h6.next->h8'.get c=h6.get c:=λc h1 h2=>by rw[up8.ne h1,xk.gt _ h2]
 refine⟨.tup [],rfl,H4,V4,_,[w,w.reverse],u8,?_,?_,rfl,?_⟩
 .exact((k4'.trans ((x46.kp (S:=λc=>c=la\/c=pa\/c=bb) (ab _)).trans (xk.kp (S:=λc=>c=la\/c=pa\/c=bb) (ab _)) (λ_ _ q=>q)) (λ_ _ q=>q)).trans (up8.kp (S:=λc=>c=la\/c=pa\/c=bb) (.inr (.inr rfl))) (λ_ _ q=>q))
 .refine⟨[wv,bv],.inr ⟨h6.next,2,om,rfl,g8,rfl⟩,rfl,λi v xs e1 e2=>?_⟩;have hi:i=0\/i=1:=by
   have:=(aF.1 e1).1;simp at this;omega
  rcases hi with rfl|rfl
  .simp only[aW,aa]at e1 e2;subst e1 e2;refine⟨(hres6.mono om).cong λb m e hb=>keep b ?_ (hres6.lt e),λb m b' m' e e'=>?_⟩
   .rintro rfl;rcases hres6 with⟨h1,_⟩|⟨b',m',h1,h2,_⟩
    .rw[h1]at e;cases e
    .rw[h2]at e;cases e;omega
   .cases e';have:=hres6.lt e;omega
  .simp only[cR,aW,aa]at e1 e2;subst e1 e2;refine⟨(i6.mono om).cong λb m e hb=>keep b ?_ (i6.lt e),λb m b' m' e e'=>?_⟩
   .rintro rfl;rcases i6 with⟨h1,_⟩|⟨b',m',h1,h2,_⟩
    .rw[h1]at e;cases e
    .rw[h2]at e;cases e;omega
   .cases e';have:=i6.lt e;omega
 .refine Go.Pla.inv_base hp hcc (λe he=>?_) λv=>?_
  .rw[eq,hH4,hwt,Go.Pla.base_on hp (hwt▸hcc) hlst (e0:=e0) (by simp) (by rw[Go.Pla.jn_iff];exact .inr ⟨rfl,rfl⟩) he,aK];constructor
   .rintro (h|⟨_,h⟩)
    .exact .inl h
    .exact .inr h
   .rintro (h|h)
    .exact .inl h
    .exact .inr ⟨he,h⟩
  .rw[hV4];simp
end Go.Proofs.YtlolkmcdimgplaaGreat
namespace Go.Pla
open Go.Blk
variable {At':List Nat}{Dn':Nat->Bool}{z:Nat}
variable {g:Gr}{Bl:List Nat}{H V D:Nat->Bool}{pt:Nat->Nat}{x e0:Nat}
def Kn(V Dn:Nat->Bool)(At:List Nat)(w:Nat):Prop:=if V w=true then w∈At else Dn w=true
structure Bfs(g:Gr)(Bl:List Nat)(H V:Nat->Bool)(pt:Nat->Nat)(D:Nat->Bool)(x e0:Nat)(Dn:Nat->Bool)(Q At:List Nat)(cu:Option (Nat×List Nat)):Prop where
 sub:∀z,D z=true->Dn z=true
 x:Dn x=true
 que:∀z∈Q,Dn z=true/\D z=false
 ins:∀z,Dn z=true->D z=false->V z=false/\∀e∈Bl,at_ g e z=true->pt e=pt e0
 shut:∀z,Dn z=true->D z=false->z∈Q\/(∃is,cu=some (z,is))\/∀i∈Bl,at_ g i z=true->Kn V Dn At (g.oth i z)
 cur:∀z is,cu=some (z,is)->Dn z=true/\D z=false/\∀i∈Bl,i∉is->at_ g i z=true->Kn V Dn At (g.oth i z)
 hgs:∀z∈At,Hg g Bl H pt (pt e0) z
 nd:At.Nodup
variable {Dn:Nat->Bool}{Q At:List Nat}
theorem Kn.mono{w:Nat}(h:Kn V Dn At w)(hd:∀z,Dn z=true->Dn' z=true)(ha:∀z∈At,z∈At'):Kn V Dn' At' w:=by
 unfold Kn at h |-;split
 .rename_i hv;rw[if_pos hv]at h;exact ha w h
 .rename_i hv;rw[if_neg hv]at h;exact hd w h
theorem Bfs.start(hV:Plc g Bl H V)(P:Part g Bl H pt)(hx:V x=false)(hD:D x=false)(he0:e0∈Bl)(ha0:at_ g e0 x=true):Bfs g Bl H V pt D x e0 (λz=>if z=x then true else D z) [x] [] none where
 sub:=λz h=>by
  split
  .rfl
  .exact h
 x:=by simp
 que:=λz h=>by
  have:z=x:=by simpa using h
  subst this;simp[hD]
 ins:=λz h1 h2=>by
  have:z=x:=by
   refine Classical.byContradiction λhne=>?_;rw[if_neg hne,h2]at h1;cases h1
  subst this;exact⟨hx,λe he ha=>P.same z (hV.fresh hx) e he e0 he0 ha ha0⟩
 shut:=λz h1 h2=>by
  have:z=x:=by
   refine Classical.byContradiction λhne=>?_;rw[if_neg hne,h2]at h1;cases h1
  subst this;exact .inl (by simp)
 cur:=λ_ _ h=>by cases h
 hgs:=λz h=>by simp at h
 nd:=by simp
theorem Bfs.pop(b:Bfs g Bl H V pt D x e0 Dn (z::Q) At none):Bfs g Bl H V pt D x e0 Dn Q At (some (z,Bl)) where
 sub:=b.sub
 x:=b.x
 que:=λy h=>b.que y (aQ _ h)
 ins:=b.ins
 shut:=λy h1 h2=>by
  rcases b.shut y h1 h2 with h|⟨_,h⟩|h
  .rcases ao.1 h with rfl|h
   .exact .inr (.inl ⟨Bl,rfl⟩)
   .exact .inl h
  .cases h
  .exact .inr (.inr h)
 cur:=λy is h=>by
  injection h with h;injection h with h1 h2;subst h1 h2;have:=b.que z (by simp);exact⟨this.1,this.2,λi hi hn=>absurd hi hn⟩
 hgs:=b.hgs
 nd:=b.nd
theorem Bfs.end(b:Bfs g Bl H V pt D x e0 Dn Q At (some (z,[]))):Bfs g Bl H V pt D x e0 Dn Q At none where
 sub:=b.sub
 x:=b.x
 que:=b.que
 ins:=b.ins
 shut:=λy h1 h2=>by
  rcases b.shut y h1 h2 with h|⟨is,h⟩|h
  .exact .inl h
  .injection h with h;injection h with h3 h4;subst h3 h4;exact .inr (.inr λi hi=>(b.cur z [] rfl).2.2 i hi (by simp))
  .exact .inr (.inr h)
 cur:=λ_ _ h=>by cases h
 hgs:=b.hgs
 nd:=b.nd
theorem Bfs.next{i:Nat}{is:List Nat}(b:Bfs g Bl H V pt D x e0 Dn Q At (some (z,i::is))){Q':List Nat}(hd:∀y,Dn y=true->Dn' y=true)(ha:∀y∈At,y∈At')(hq:∀y∈Q,y∈Q')
 (hk:at_ g i z=true->Kn V Dn' At' (g.oth i z)) (hq2:∀y∈Q',y∈Q\/Dn' y=true/\D y=false) (hd2:∀y,Dn' y=true->Dn y=true\/(y∈Q'/\(D y=false->V y=false/\∀e∈Bl,at_ g e y=true->pt e=pt e0))) (ha2:∀y∈At',y∈At\/Hg g Bl H pt (pt e0) y) (hn:At'.Nodup) :
 Bfs g Bl H V pt D x e0 Dn' Q' At' (some (z,is)) where
 sub:=λy h=>hd y (b.sub y h)
 x:=hd x b.x
 que:=λy h=>by
  rcases hq2 y h with h1|h1
  .exact⟨hd y (b.que y h1).1,(b.que y h1).2⟩
  .exact h1
 ins:=λy h1 h2=>by
  rcases hd2 y h1 with h|h
  .exact b.ins y h h2
  .exact h.2 h2
 shut:=λy h1 h2=>by
  rcases hd2 y h1 with h|h
  .rcases b.shut y h h2 with h3|⟨js,h3⟩|h3
   .exact .inl (hq y h3)
   .injection h3 with h3;injection h3 with h3 _;subst h3;exact .inr (.inl ⟨is,rfl⟩)
   .exact .inr (.inr λj hj haj=>(h3 j hj haj).mono hd ha)
  .exact .inl h.1
 cur:=λy js h=>by
  injection h with h;injection h with h1 h2;subst h1 h2;obtain⟨c1,c2,c3⟩:=b.cur z _ rfl;refine⟨hd z c1,c2,λj hj hjn haj=>?_⟩;by_cases hji:j=i
  .subst hji;exact hk haj
  .exact(c3 j hj (by simp[hji,hjn]) haj).mono hd ha
 hgs:=λy h=>by
  rcases ha2 y h with h1|h1
  .exact b.hgs y h1
  .exact h1
 nd:=hn
def Shut(g:Gr)(Bl:List Nat)(V D:Nat->Bool):Prop:=∀z,D z=true->V z=false/\∀i∈Bl,at_ g i z=true->V (g.oth i z)=false->D (g.oth i z)=true
theorem Bfs.fin(p:Pln g Bl)(hV:Plc g Bl H V)(P:Part g Bl H pt)(hS:Shut g Bl V D)(hx:D x=false)(he0:e0∈Bl)(ha0:at_ g e0 x=true)(b:Bfs g Bl H V pt D x e0 Dn [] At none):(∀z,z∈At↔Hg g Bl H pt (pt e0) z)/\Shut g Bl V Dn:=by
 have shut:∀z,Dn z=true->D z=false->∀i∈Bl,at_ g i z=true->Kn V Dn At (g.oth i z):=λz h1 h2=>by
  rcases b.shut z h1 h2 with h|⟨_,h⟩|h
  .simp at h
  .cases h
  .exact h
 have inK:∀z,Dn z=true->D z=false->∀i∈Bl,at_ g i z=true->V (g.oth i z)=false->Dn (g.oth i z)=true/\D (g.oth i z)=false:=λz h1 h2 i hi ha hv=>by
  have h3:=shut z h1 h2 i hi ha;unfold Kn at h3;rw[if_neg (by rw[hv];simp)]at h3;refine⟨h3,?_⟩;cases hd:D (g.oth i z)
  .rfl
  .obtain⟨a1,a2⟩:=oth_at (p.lt i hi) ha;have:=(hS _ hd).2 i hi a1 (by rw[a2];exact(b.ins z h1 h2).1);rw[a2,h2]at this;cases this
 refine⟨λz=>⟨b.hgs z,?_⟩,λz hz=>?_⟩
 .rintro⟨e,he,hH,hp,ha,j,hj,hja,hjH⟩;obtain⟨S,hSd⟩:∃S:Nat->Bool,∀e,S e=true↔∃k,at_ g e k=true/\Dn k=true/\D k=false:=by
   classical
   exact⟨λe=>decide (∃k,at_ g e k=true/\Dn k=true/\D k=false),λe=>by simp⟩
  have hu:=P.univ S (λv hv e he k hk hev hkv=>by
   have one:∀e∈Bl,at_ g e v=true->(S e=true↔Dn v=true/\D v=false):=λe he ha=>by
    rw[hSd];constructor
    .rintro⟨k,hk1,hk2,hk3⟩;by_cases q:v=k
     .subst q;exact⟨hk2,hk3⟩
     .have hvf:V v=false:=by
       cases h:V v
       .rfl
       .obtain⟨m,hm,hma,hmH⟩:=(hV v).1 h;rw[hv m hm hma]at hmH;cases hmH
      have hinc:=(at_inc (p.lt e he)).1 hk1;have:v=g.oth e k:=ga hinc ((at_inc (p.lt e he)).1 ha) q;rw[this]at hvf |-;exact inK k hk2 hk3 e he hk1 hvf
    .rintro⟨h1,h2⟩;exact⟨v,ha,h1,h2⟩
   rw[eq,one e he hev,one k hk hkv])
  have h1:S e=true:=by
   rw[<-hu e,hp,hu e0,hSd];exact⟨x,ha0,b.x,hx⟩
  obtain⟨k,hk1,hk2,hk3⟩:=(hSd e).1 h1;have hzv:V z=true:=(hV z).2 ⟨j,hj,hja,hjH⟩;have hzk:z≠k:=λq=>by rw[q,(b.ins k hk2 hk3).1]at hzv;cases hzv
  have hz:z=g.oth e k:=ga ((at_inc (p.lt e he)).1 hk1) ((at_inc (p.lt e he)).1 ha) hzk;have:=shut k hk2 hk3 e he hk1;unfold Kn at this;rw[<-hz,if_pos hzv]at this;exact this
 .cases hd:D z
  .refine⟨(b.ins z hz hd).1,λi hi ha hv=>(inK z hz hd i hi ha hv).1⟩
  .exact⟨(hS z hd).1,λi hi ha hv=>b.sub _ ((hS z hd).2 i hi ha hv)⟩
def left(n:Nat)(Dn:Nat->Bool):Nat:=((List.range n).filter λz=>!(Dn z)).length
theorem left_step{n:Nat}(hz:z<n)(h:Dn z=false):left n (λy=>if y=z then true else Dn y)+1<=left n Dn:=by
 have h1:((List.range n).filter λy=>!(if y=z then true else Dn y)).length+1<=((List.range n).filter λy=>!(Dn y)).length:=by
  rw[<-di,<-di];have:∀(l:List Nat),l.Nodup->z∈l->l.countP (λy=>!(if y=z then true else Dn y))+1<=l.countP (λy=>!(Dn y)):=by
   intro l;induction l with
   |nil=>intro _ h;simp at h
   |cons a l ih =>
     intro nd hm;rw[aY]at nd;rw[dV,dV];by_cases q:a=z
     .subst q;have h2:l.countP (λy=>!(if y=a then true else Dn y))<=l.countP (λy=>!(Dn y)):=by
       refine kI λy _ hy=>?_;split at hy
       .cases hy
       .exact hy
      simp[h];simpa using h2
     .have h2:=ih nd.2 (by simpa[Ne.symm q]using hm);simp only[q,if_false];omega
  exact this _ be (by simpa using hz)
 exact h1
end Go.Pla
