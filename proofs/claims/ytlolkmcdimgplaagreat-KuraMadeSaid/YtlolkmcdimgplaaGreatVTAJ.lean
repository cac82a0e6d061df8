/- Where a part lies, by a dual; ways and circles as sets of ed -/
import Derived.Test.YtlolkmcdimgplaaGreatVTAI
set_option linter.all false
namespace Go.Pla
open Go.Blk
variable {A D K Q X:Nat->Bool}{a b c d s s1 s2 s3 s4 t t1 t2:List Nat}{e f f' k o u v w x y:Nat}
variable {g:Gr}{B:List Nat}{Φ:Type}{l r:Nat->Φ}{H:Nat->Bool}{nf:Nat}{Z:Nat->Nat->Bool}{pf:Φ->Nat}
theorem Ext.same(nd:B.Nodup)(d:Dual g B l r)(hb:Bond g B)(x:Ext g B l r H nf Z pf)(hv:∀e∈B,at_ g e v=true->H e=false)(he:e∈B)(hk:k∈B)(hev:at_ g e v=true)(hkv:at_ g k v=true):pf (l e)=pf (l k):=by
 have:=qL nd hb (Y:=λj=>pf (l j)==pf (l e)) (v:=v) (λX hX=>?_) he hk hev hkv
 .simp only[beq_self_eq_true]at this;exact(beq_iff_eq.1 this.symm).symm
 obtain⟨S,hS⟩:=d.one X hX;have h1:=d.two (λa=>S a&&pf a==pf (l e)) v;rw[<-h1];refine bD λj hj=>?_;dsimp only;by_cases hjv:at_ g j v=true
 .have hl:=x.lay j hj;rw[hv j hj hjv]at hl;have hl':pf (l j)=pf (r j):=by simpa using hl.symm
  rw[hS j hj,<-hl'];cases S (l j)<;>cases S (r j)<;>cases pf (l j)==pf (l e)<;>cases at_ g j v<;>rfl
 .have:at_ g j v=false:=by simpa using hjv
  rw[this];simp
theorem Ext.hangs(nd:B.Nodup)(d:Dual g B l r)(hb:Bond g B)(x:Ext g B l r H nf Z pf)(he:e∈B)(hk:k∈B)(hev:at_ g e v=true)(hkv:at_ g k v=true)(hne:H e=false)(hkh:H k=true):∃j∈B,at_ g j v=true/\Z (pf (l e)) j=true:=by
 refine Classical.byContradiction λhno=>?_;have hno':∀j∈B,at_ g j v=true->Z (pf (l e)) j=false:=λj hj hjv=>by
  cases h:Z (pf (l e)) j
  .rfl
  .exact absurd ⟨j,hj,hjv,h⟩ hno
 have hlt:=(x.lt e he).1;have hiff:∀j∈B,at_ g j v=true->(pf (l j)==pf (l e))=(pf (r j)==pf (l e)):=λj hj hjv=>by
  have h1:=hno' j hj hjv;rw[x.side _ hlt j hj]at h1;revert h1;cases pf (l j)==pf (l e)<;>cases pf (r j)==pf (l e)<;>simp
 have:=qL nd hb (Y:=λj=>pf (l j)==pf (l e)) (v:=v) (λX hX=>?_) he hk hev hkv
 .have a:pf (l k)=pf (l e):=by simpa using this.symm
  have b:=hiff k hk hkv;rw[a]at b;have b':pf (r k)=pf (l e):=by simpa using b.symm
  rw[x.lay k hk,a,b']at hkh;simp at hkh
 obtain⟨S,hS⟩:=d.one X hX;have h1:=d.two (λa=>S a&&pf a==pf (l e)) v;rw[<-h1];refine bD λj hj=>?_;dsimp only;by_cases hjv:at_ g j v=true
 .rw[hS j hj,<-hiff j hj hjv];cases S (l j)<;>cases S (r j)<;>cases pf (l j)==pf (l e)<;>cases at_ g j v<;>rfl
 .have:at_ g j v=false:=by simpa using hjv
  rw[this];simp
def jn(g:Gr)(e x y:Nat):Bool:=(g.tl e==x&&g.hd e==y)||(g.tl e==y&&g.hd e==x)
theorem jn_symm:jn g e x y=jn g e y x:=by
 unfold jn;exact Bool.or_comm _ _
theorem jn_iff:jn g e x y=true↔(g.tl e=x/\g.hd e=y)\/(g.tl e=y/\g.hd e=x):=by
 simp[jn]
structure Pln(g:Gr)(B:List Nat):Prop where
 nd:B.Nodup
 lt:∀e∈B,e<g.m
 one:∀e∈B,∀k∈B,∀x y,jn g e x y=true->jn g k x y=true->e=k
theorem Pln.ne(p:Pln g B)(he:e∈B):g.tl e≠g.hd e:=(g.ok e (p.lt e he)).2.2
theorem Pln.jne(p:Pln g B)(he:e∈B)(h:jn g e x y=true):x≠y:=by
 have:=p.ne he;rcases jn_iff.1 h with⟨a,b⟩|⟨a,b⟩<;>omega
theorem Pln.jat(p:Pln g B)(he:e∈B)(h:jn g e x y=true):at_ g e v=((x==v)^^(y==v)):=by
 unfold at_;rcases jn_iff.1 h with⟨a,b⟩|⟨a,b⟩
 .rw[a,b]
 .rw[a,b,kN]
def wk(g:Gr):List Nat->Nat->Bool
 |[],_=>false
 |[_],_=>false
 |x::y::t,e=>jn g e x y^^wk g (y::t) e
def Ch(g:Gr)(B:List Nat):List Nat->Prop
 |[]=>True
 |[_]=>True
 |x::y::t=>(∃e∈B,jn g e x y=true)/\Ch g B (y::t)
def lst:Nat->List Nat->Nat
 |x,[]=>x
 |_,y::t=>lst y t
theorem xP{x y:Nat}:∀{t s:List Nat},lst x (t++y::s)=lst y s
 |[],_=>rfl
 |z::t,s=>by rw[aH,lst];exact xP
theorem tP(p:Pln g B){v:Nat}:∀{x:Nat}{t:List Nat},Ch g B (x::t)->par B (λe=>wk g (x::t) e&&at_ g e v)=((x==v)^^(lst x t==v))
 |x,[],_=>by
   rw[eH λ_ _=>by simp[wk]];simp[lst]
 |x,y::t,h=>by
   obtain⟨⟨e,he,hj⟩,h2⟩:=h;have ih:=tP p (v:=v) h2;rw[bD (q:=λk=>(jn g k x y&&at_ g k v)^^(wk g (y::t) k&&at_ g k v)) (λk _=>by
    simp only[wk];cases jn g k x y<;>cases wk g (y::t) k<;>cases at_ g k v<;>rfl),ew,ih,
    bD (q:=λk=>(k==e)&&at_ g k v) (λk hk=>by
     by_cases hke:k=e
     .subst hke;simp[hj]
     .have:jn g k x y=false:=by
       cases h:jn g k x y
       .rfl
       .exact absurd (p.one k hk e he x y h hj) hke
      simp[this,hke]),dG p.nd he,p.jat he hj]
   simp only[lst];cases x==v<;>cases y==v<;>cases lst y t==v<;>rfl
theorem iI{x e:Nat}:∀{a b:List Nat},wk g (a++x::b) e=(wk g (a++[x]) e^^wk g (x::b) e)
 |[],b=>by simp[wk]
 |[y],b=>by simp[wk]
 |y::z::a,b=>by
   have ih:=iI (x:=x) (e:=e) (a:=z::a) (b:=b);simp only[aH,wk]at ih |-;rw[ih];cases jn g e y z<;>cases wk g (z::(a++[x])) e<;>cases wk g (x::b) e<;>rfl
theorem iK{x:Nat}:∀{a b:List Nat},Ch g B (a++x::b)↔Ch g B (a++[x])/\Ch g B (x::b)
 |[],b=>by simp[Ch]
 |[y],b=>by simp[Ch]
 |y::z::a,b=>by
   have ih:=iK (x:=x) (a:=z::a) (b:=b);simp only[aH,Ch]at ih |-;rw[ih,and_assoc]
theorem xn{e:Nat}:∀{a:List Nat},wk g a.reverse e=wk g a e
 |[]=>rfl
 |[_]=>rfl
 |x::y::t=>by
   have ih:=xn (e:=e) (a:=y::t);simp only[jH,bO,aH,bt]at ih |-;rw[iI,ih,wk,jn_symm];simp[wk,kN]
theorem yp:∀{a:List Nat},Ch g B a.reverse↔Ch g B a
 |[]=>by simp[Ch]
 |[_]=>by simp[Ch]
 |x::y::t=>by
   have ih:=yp (a:=y::t);simp only[jH,bO,aH,bt]at ih |-;rw[iK,ih];simp only[Ch,and_true];rw[and_comm];constructor
   .rintro⟨⟨e,he,h⟩,h2⟩;exact⟨⟨e,he,jn_symm.trans h⟩,h2⟩
   .rintro⟨⟨e,he,h⟩,h2⟩;exact⟨⟨e,he,jn_symm.trans h⟩,h2⟩
theorem mM{e:Nat}:∀{a:List Nat},wk g a e=true->∃p x y q,a=p++x::y::q/\jn g e x y=true
 |[],h=>by simp[wk]at h
 |[_],h=>by simp[wk]at h
 |x::y::t,h=>by
   by_cases hj:jn g e x y=true
   .exact⟨[],x,y,t,rfl,hj⟩
   .have hj':jn g e x y=false:=by simpa using hj
    rw[wk,hj',dF]at h;obtain⟨p,a,b,q,h1,h2⟩:=mM h;exact⟨x::p,a,b,q,by rw[h1];rfl,h2⟩
theorem yP(p:Pln g B)(he:e∈B)(h:wk g a e=true)(hv:at_ g e v=true):v∈a:=by
 obtain⟨s,x,y,q,rfl,hj⟩:=mM h;rw[p.jat he hj]at hv;by_cases a:x=v
 .subst a;simp
 by_cases b:y=v
 .subst b;simp
 rw[beq_eq_false_iff_ne.2 a,beq_eq_false_iff_ne.2 b]at hv;cases hv
theorem kU(p:Pln g B)(he:e∈B)(hv:at_ g e v=true)(h:v∉a):wk g a e=false:=by
 cases hw:wk g a e
 .rfl
 .exact absurd (yP p he hw hv) h
def cy(g:Gr):List Nat->Nat->Bool
 |[],_=>false
 |x::t,e=>wk g (x::t++[x]) e
def Cc(g:Gr)(B:List Nat):List Nat->Prop
 |[]=>False
 |x::t=>Ch g B (x::t++[x])/\(x::t).Nodup/\3<=(x::t).length
theorem rQ:cy g (a++b) e=cy g (b++a) e:=by
 cases a with
 |nil=>simp
 |cons x a =>
   cases b with
   |nil=>simp
   |cons y b =>
     show wk g (x::(a++y::b)++[x]) e=wk g (y::(b++x::a)++[y]) e;have h1:x::(a++y::b)++[x]=(x::a)++y::(b++[x]):=by simp
     have h2:y::(b++x::a)++[y]=(y::b)++x::(a++[y]):=by simp
     rw[h1,h2,iI,iI (x:=x),kN];rfl
theorem pQ(h:Cc g B (a++b)):Cc g B (b++a):=by
 cases a with
 |nil=>simpa using h
 |cons x a =>
   cases b with
   |nil=>simpa using h
   |cons y b =>
     obtain⟨h1,h2,h3⟩:=h;have e1:x::(a++y::b)++[x]=(x::a)++y::(b++[x]):=by simp
     have e2:y::(b++x::a)++[y]=(y::b)++x::(a++[y]):=by simp
     refine⟨?_,?_,?_⟩
     .show Ch g B (y::(b++x::a)++[y]);change Ch g B (x::(a++y::b)++[x])at h1;rw[e1,iK]at h1;rw[e2,iK];exact⟨h1.2,h1.1⟩
     .exact(jC (l₁:=x::a) (l₂:=y::b)).nodup h2
     .simp at h3;show 3<=(y::(b++x::a)).length;simp;omega
theorem jw(p:Pln g B)(h:Cc g B c):Even g B (cy g c):=by
 cases c with
 |nil=>exact h.elim
 |cons x t =>
   intro v;have:=tP p (v:=v) (x:=x) (t:=t++[x]) h.1;rw[xP]at this;simp only[lst,kM]at this;exact this
theorem wW(p:Pln g B){z:Nat}(hc:Cc g B (y::z::(s++[x]))){Y:Nat->Bool}(hY:par B (λe=>Y e&&at_ g e y)=false)(hs:∀e∈B,Y e=true->cy g (y::z::(s++[x])) e=true)(he:e∈B)(hk:k∈B)(hje:jn g e x y=true)(hjk:jn g k y z=true):Y e=Y k:=by
 obtain⟨_,hn,_⟩:=hc;have hxz:x≠z:=by
  intro h;subst h;simp[aY]at hn
 have hek:e≠k:=by
  intro h;subst h;have:=p.ne he;rcases jn_iff.1 hje with⟨a,b⟩|⟨a,b⟩<;>rcases jn_iff.1 hjk with⟨c,d⟩|⟨c,d⟩<;>omega
 have h1:=hY;rw[bD (q:=λj=>((j==e)&&Y j)^^((j==k)&&Y j)) (λj hj=>by
  by_cases hjv:at_ g j y=true
  .rw[hjv,fW];by_cases a:j=e
   .subst a;have:(j==k)=false:=by simp[hek]
    simp[this]
   .by_cases b:j=k
    .subst b;have:(j==e)=false:=by simp[a]
     simp[this]
    .have:Y j=false:=by
      cases hy:Y j
      .rfl
      .have hz:=hs j hj hy;have e1:y::z::(s++[x])++[y]=y::z::(s++[x,y]):=by simp
       change wk g (y::z::(s++[x])++[y]) j=true at hz;rw[e1,wk]at hz;have e2:z::(s++[x,y])=(z::s)++x::[y]:=by simp
       rw[e2,iI]at hz;have n1:jn g j y z=false:=by
        cases h:jn g j y z
        .rfl
        .exact absurd (p.one j hj k hk y z h hjk) b
       have n2:jn g j x y=false:=by
        cases h:jn g j x y
        .rfl
        .exact absurd (p.one j hj e he x y h hje) a
       have n3:wk g (z::s++[x]) j=false:=kU p hj hjv (by
        simp only[aY]at hn;simpa using hn.1)
       rw[n1,n3]at hz;simp[wk,n2]at hz
     simp[this]
  .have a:j≠e:=λq=>hjv (by rw[q,p.jat he hje];simp[p.jne he hje]);have b:j≠k:=λq=>hjv (by rw[q,p.jat hk hjk];simp[Ne.symm (p.jne hk hjk)]);have c:at_ g j y=false:=by simpa using hjv
   rw[c,beq_eq_false_iff_ne.2 a,beq_eq_false_iff_ne.2 b];simp),ew,dG p.nd he,dG p.nd hk]at h1
 cases hy:Y e<;>cases hy':Y k<;>simp[hy,hy']at h1 |-
def ro:List Nat->List Nat
 |[]=>[]
 |x::t=>t++[x]
theorem Bd:∀{p q:List Nat},Nat.repeat ro p.length (p++q)=q++p
 |[],q=>by simp[Nat.repeat]
 |x::p,q=>by
   have:∀n (c:List Nat),Nat.repeat ro (n+1) c=Nat.repeat ro n (ro c):=by
    intro n;induction n with
    |zero=>intro c;rfl
    |succ n ih=>intro c;rw[Nat.repeat,ih];rfl
   rw[ar,this];show Nat.repeat ro p.length (p++q++[x])=_;rw[bO,Bd];simp
theorem cc_ro(h:Cc g B c):Cc g B (ro c):=by
 cases c with
 |nil=>exact h
 |cons x t=>exact pQ (a:=[x]) h
theorem Mf:cy g (ro c) e=cy g c e:=by
 cases c with
 |nil=>rfl
 |cons x t=>exact(rQ (a:=[x]) (b:=t)).symm
theorem Dt(p:Pln g B)(hc:Cc g B c):Circ g B (cy g c):=by
 refine⟨jw p hc,λY hY hs=>?_⟩;have first:∀n,∃y z s,Nat.repeat ro n c=y::z::s/\s≠[]/\Cc g B (y::z::s)/\(∀e∈B,cy g (y::z::s) e=cy g c e):=by
  intro n;have h1:Cc g B (Nat.repeat ro n c)/\∀e,cy g (Nat.repeat ro n c) e=cy g c e:=by
   induction n with
   |zero=>exact⟨hc,λ_=>rfl⟩
   |succ n ih=>exact⟨cc_ro ih.1,λe=>(Mf).trans (ih.2 e)⟩
  revert h1;generalize Nat.repeat ro n c=d;intro h1
  match d,h1 with
  |[],h1=>exact h1.1.elim
  |[_],h1=>have:=h1.1.2.2;simp at this
  |[_,_],h1=>have:=h1.1.2.2;simp at this
  |y::z::w::s,h1=>exact⟨y,z,w::s,rfl,by simp,h1.1,λe _=>h1.2 e⟩
 have same:∀n,∀y z s,Nat.repeat ro n c=y::z::s->∀e∈B,jn g e y z=true->∀y0 z0 s0,c=y0::z0::s0->∀e0∈B,jn g e0 y0 z0=true->Y e=Y e0:=by
  intro n;induction n with
  |zero =>
    intro y z s h e he hj y0 z0 s0 h0 e0 he0 hj0;change c=_ at h;rw[h0]at h;injection h with a b;injection b with b c;subst a b;rw[p.one e he e0 he0 _ _ hj hj0]
  |succ n ih =>
    intro y z s h e he hj y0 z0 s0 h0 e0 he0 hj0;obtain⟨x,w,t,h1,h2,h3,h4⟩:=first n
    rw[Nat.repeat,h1]at h;change w::t++[x]=_ at h;rw[aH]at h;injection h with a b;subst a;obtain⟨⟨e1,he1,hj1⟩,_⟩:=h3.1;rw[<-ih x w t h1 e1 he1 hj1 y0 z0 s0 h0 e0 he0 hj0];cases t with
    |nil=>exact absurd rfl h2
    |cons q t =>
      rw[aH]at b;injection b with b b';subst b;have hcc:Cc g B (w::q::(t++[x])):=pQ (a:=[x]) (b:=w::q::t) h3;refine(wW p hcc (hY _) (λk hk hy=>?_) he1 he hj1 hj).symm;rw[show w::q::(t++[x])=ro (x::w::q::t) from rfl,Mf,h4 k hk];exact hs k hk hy
 obtain⟨y0,z0,s0,h0,h0',h0c,_⟩:=first 0
 change c=_ at h0;obtain⟨⟨e0,he0,hj0⟩,_⟩:=h0c.1;have all:∀e∈B,cy g c e=true->Y e=Y e0:=by
  intro e he hz;subst h0;obtain⟨a,u,w,b,hab,hj⟩:=mM (show wk g (y0::z0::s0++[y0]) e=true from hz);rcases cS b with rfl|⟨b',q,rfl⟩
  .have h2:(y0::z0::s0)++[y0]=(a++[u])++[w]:=by rw[hab];simp
   obtain⟨h3,h4⟩:=dW h2 rfl;injection h4 with h4;subst h4;cases a with
   |nil=>simp at h3
   |cons v a =>
     rw[aH]at h3;injection h3 with h5 h6;subst h5;have h7:=Bd (p:=y0::a) (q:=[u]);rw[aH,<-h6]at h7;exact same _ u y0 a h7 e he hj y0 z0 s0 rfl e0 he0 hj0
  .have h2:(y0::z0::s0)++[y0]=(a++u::w::b')++[q]:=by rw[hab];simp
   obtain⟨h3,_⟩:=dW h2 rfl;have h7:=Bd (p:=a) (q:=u::w::b');rw[<-h3]at h7;exact same _ u w (b'++a) (by rw[h7];simp) e he hj y0 z0 s0 rfl e0 he0 hj0
 cases hy:Y e0
 .refine .inl λe he=>?_;cases h:Y e
  .rfl
  .rw[<-h,all e he (hs e he h),hy]
 .refine .inr λe he=>?_;cases h:cy g c e
  .cases h':Y e
   .rfl
   .rw[hs e he h']at h;exact absurd h (by simp)
  .rw[all e he h,hy]
open Go.Blk
variable {g:Gr}{B:List Nat}
theorem LU(p:Pln g B)(he:e∈B)(h:wk g (u::t++[w]) e=true)(ht:t≠[]):∃v∈t,at_ g e v=true:=by
 obtain⟨s,a,b,q,h1,hj⟩:=mM h;have ha:at_ g e a=true:=by rw[p.jat he hj];simp[Ne.symm (p.jne he hj)]
 have hb:at_ g e b=true:=by rw[p.jat he hj];simp[p.jne he hj]
 cases s with
 |nil =>
   cases t with
   |nil=>exact absurd rfl ht
   |cons z t =>
     simp only[bt,aH]at h1;injection h1 with _ h1;injection h1 with h1 _;exact⟨z,by simp,h1▸hb⟩
 |cons z s =>
   simp only[aH]at h1;injection h1 with _ h1;refine⟨a,?_,ha⟩;have:(s++a::b::q).dropLast=t:=by rw[<-h1];simp
   rw[<-this];rw[show s++a::b::q=(s++[a])++(b::q) by simp,eR (by simp)];simp
theorem lF(p:Pln g B){u:Nat}(hc:Cc g B (u::t1++w::t2))(he:e∈B)(h:wk g (u::t1++[w]) e=true):cy g (u::t1++w::t2) e=true:=by
 obtain⟨_,hn,hl⟩:=hc;change (u::(t1++w::t2)).Nodup at hn;show wk g (u::(t1++w::t2)++[u]) e=true;rw[show u::(t1++w::t2)++[u]=(u::t1)++w::(t2++[u]) by simp,iI];rw[h];have:wk g (w::(t2++[u])) e=false:=by
  by_cases ht:t1=[]
  .cases h2:wk g (w::(t2++[u])) e
   .rfl
   subst ht;have ht2:t2≠[]:=by
    intro h3;subst h3;simp at hl
   obtain⟨v,hv,hev⟩:=LU p (u:=w) (t:=t2) (w:=u) he h2 ht2;have:=yP p he h hev;simp only[aY,bt]at hn;simp only[aH,bt,ao,bd,or_false]at this;rcases this with rfl|rfl
   .exact absurd (aQ _ hv) hn.1
   .exact absurd hv hn.2.1
  .obtain⟨v,hv,hev⟩:=LU p he h ht;refine kU p he hev ?_;intro hm;simp only[ao,aw,bd,or_false]at hm;rw[aY,aN]at hn;rcases hm with rfl|hm|rfl
   .exact hn.2.2.2 _ hv _ (by simp) rfl
   .exact hn.2.2.2 _ hv _ (aQ _ hm) rfl
   .exact hn.1 (by simp[hv])
 rw[this];rfl
def Rot(c d:List Nat):Prop:=∃a b,c=a++b/\d=b++a
theorem Rot.cy(h:Rot c d)(e:Nat):cy g d e=cy g c e:=by
 obtain⟨a,b,rfl,rfl⟩:=h;exact rQ
theorem Rot.cc(h:Rot c d)(hc:Cc g B c):Cc g B d:=by
 obtain⟨a,b,rfl,rfl⟩:=h;exact pQ hc
theorem Rot.mem(h:Rot c d):x∈d↔x∈c:=by
 obtain⟨a,b,rfl,rfl⟩:=h;simp[or_comm]
theorem xw{x:Nat}(h:x∈c):∃t,Rot c (x::t):=by
 obtain⟨a,b,rfl⟩:=cw h;exact⟨b++a,a,x::b,rfl,rfl⟩
theorem CI{x:Nat}(hx:x∈c)(hy:y∈c)(hne:x≠y):∃s t,Rot c (x::s++y::t):=by
 obtain⟨t,h⟩:=xw hx;have:y∈t:=by
  have:=h.mem.2 hy;simpa[Ne.symm hne]using this
 obtain⟨s,t',rfl⟩:=cw this;exact⟨s,t',h⟩
theorem jv(p:Pln g B){x:Nat}(hc:Cc g B (x::y::s))(he:e∈B)(hj:jn g e x y=true):cy g (x::y::s) e=true:=by
 have:=lF p (u:=x) (t1:=[]) (w:=y) (t2:=s) hc he (by simp[wk,hj]);exact this
theorem cy_at(p:Pln g B)(hc:Cc g B c)(hx:x∈c):∃e∈B,at_ g e x=true/\cy g c e=true:=by
 obtain⟨t,h⟩:=xw hx;have hcc:=h.cc hc;cases t with
 |nil=>have:=hcc.2.2;simp at this
 |cons y s =>
   obtain⟨⟨e,he,hj⟩,_⟩:=hcc.1;exact⟨e,he,by rw[p.jat he hj];simp[Ne.symm (p.jne he hj)],by rw[<-h.cy,jv p hcc he hj]⟩
theorem Aw(p:Pln g B)(he:e∈B)(h:cy g c e=true)(hx:at_ g e x=true):x∈c:=by
 cases c with
 |nil=>simp[cy]at h
 |cons y t =>
   have:=yP p he h hx;simp only[aH,ao,aw,bd,or_false]at this;rcases this with rfl|h|rfl<;>simp[*]
structure Lay(g:Gr)(B:List Nat)(H:Nat->Bool)(nf:Nat)(fc:Nat->List Nat):Prop where
 circ:∀f,f<nf->Cc g B (fc f)
 two:∀e∈B,H e=true->∃a b,a<nf/\b<nf/\a≠b/\∀f,f<nf->cy g (fc f) e=((f==a)||(f==b))
 none:∀e∈B,H e=false->∀f,f<nf->cy g (fc f) e=false
 span:∀X,Even g B X->(∀e∈B,X e=true->H e=true)->∃T:Nat->Bool,∀e∈B,X e=par (List.range nf) (λf=>T f&&cy g (fc f) e)
 bond:∀v e k,e∈B->k∈B->H e=true->H k=true->at_ g e v=true->at_ g k v=true->e≠k->∃X,Even g B X/\(∀j∈B,X j=true->H j=true)/\∀j∈B,H j=true->at_ g j v=true->X j=((j==e)||(j==k))
variable {H:Nat->Bool}{nf:Nat}{fc:Nat->List Nat}
theorem qq{a b:Nat}(ha:a<nf)(hb:b<nf)(hne:a≠b)(T:Nat->Bool):par (List.range nf) (λf=>T f&&((f==a)||(f==b)))=(T a^^T b):=by
 rw[bD (q:=λf=>((f==a)&&T f)^^((f==b)&&T f)) (λf _=>by
  by_cases h:f=a
  .subst h;rw[beq_eq_false_iff_ne.2 hne];simp
  .rw[beq_eq_false_iff_ne.2 h];cases T f<;>cases f==b<;>rfl),ew,dG be (by simpa using ha),dG be (by simpa using hb)]
theorem Lay.orth(L:Lay g B H nf fc)(hK:∀f,f<nf->par B (λe=>K e&&cy g (fc f) e)=false)(hX:Even g B X)(hs:∀e∈B,X e=true->H e=true):par B (λe=>K e&&X e)=false:=by
 obtain⟨T,hT⟩:=L.span X hX hs;rw[bD (q:=λe=>par (List.range nf) (λf=>T f&&(K e&&cy g (fc f) e))) (λe he=>by
  rw[hT e he,<-iu];exact bD λf _=>by cases K e<;>cases T f<;>rfl),jV]
 exact eH λf hf=>by
  rw[iu,hK f (by simpa using hf)];simp
theorem Lay.hcy(L:Lay g B H nf fc)(hf:f<nf)(he:e∈B)(h:cy g (fc f) e=true):H e=true:=by
 cases hh:H e
 .rw[L.none e he hh f hf]at h;cases h
 .rfl
def Rch(g:Gr)(B:List Nat)(H:Nat->Bool)(nf:Nat)(fc:Nat->List Nat)(x f o h:Nat):Prop :=
 ∃α:Nat->Bool,(∀e∈B,α e=true->H e=true/\at_ g e x=true)/\(∀e∈B,α e=true->o<nf->cy g (fc o) e=false)/\∀k,k<nf->par B (λe=>α e&&cy g (fc k) e)=((k==f)^^(k==h))
theorem zn(p:Pln g B)(L:Lay g B H nf fc){h h2:Nat}(hr:Rch g B H nf fc x f o h)(hh:h<nf)(hh2:h2<nf)(hne:h≠h2)(ho:o≠h)(ho2:o≠h2)(he:e∈B)(hex:at_ g e x=true)(h1:cy g (fc h) e=true)(h3:cy g (fc h2) e=true):Rch g B H nf fc x f o h2:=by
 obtain⟨α,a,b,c⟩:=hr;have heH:=L.hcy hh he h1;obtain⟨u,w,hu,hw,huw,hq⟩:=L.two e he heH;rw[hq h hh]at h1;rw[hq h2 hh2]at h3;simp only[du,beq_iff_eq]at h1 h3;have hq':∀k,k<nf->cy g (fc k) e=((k==h)^^(k==h2)):=λk hk=>by
  rw[hq k hk];have:(u=h/\w=h2)\/(u=h2/\w=h):=om;rcases this with⟨rfl,rfl⟩|⟨rfl,rfl⟩
  .by_cases q:k=u
   .subst q;simp[huw]
   .rw[beq_eq_false_iff_ne.2 q];cases k==w<;>rfl
  .by_cases q:k=u
   .subst q;simp[huw]
   .rw[beq_eq_false_iff_ne.2 q];cases k==w<;>rfl
 refine⟨λj=>α j^^(j==e),λj hj hα=>?_,λj hj hα hon=>?_,λk hk=>?_⟩<;>dsimp only at *
 .by_cases hje:j=e
  .subst hje;exact⟨heH,hex⟩
  .rw[beq_eq_false_iff_ne.2 hje,cX]at hα;exact a j hj hα
 .by_cases hje:j=e
  .subst hje;rw[hq' o hon,beq_eq_false_iff_ne.2 ho,beq_eq_false_iff_ne.2 ho2];rfl
  .rw[beq_eq_false_iff_ne.2 hje,cX]at hα;exact b j hj hα hon
 .rw[bD (q:=λj=>(α j&&cy g (fc k) j)^^((j==e)&&cy g (fc k) j)) (λj _=>by
   cases α j<;>cases j==e<;>cases cy g (fc k) j<;>rfl),ew,c k hk,dG p.nd he,hq' k hk]
  cases k==f<;>cases k==h<;>cases k==h2<;>rfl
open Classical in
theorem Mk(p:Pln g B)(L:Lay g B H nf fc)(hf:f<nf)(hf':f'<nf)(hne:f≠f')(ho:o≠f)(ho':o≠f')(hx:x∈fc f)(hx':x∈fc f'):Rch g B H nf fc x f o f':=by
 refine Classical.byContradiction λhno=>?_;have r0:Rch g B H nf fc x f o f:=⟨λ_=>false,λ_ _ h=>(by cases h),λ_ _ h=>(by cases h),λk _=>(eH λ_ _=>rfl).trans (by simp)⟩
 obtain⟨Y,hY⟩:∃Y:Nat->Bool,∀e,Y e=true↔at_ g e x=true/\∃h,h<nf/\h≠o/\Rch g B H nf fc x f o h/\cy g (fc h) e=true :=
  ⟨λe=>decide (at_ g e x=true/\∃h,h<nf/\h≠o/\Rch g B H nf fc x f o h/\cy g (fc h) e=true),λe=>by simp⟩
 have main:∀k,k<nf->k≠o->par B (λe=>Y e&&cy g (fc k) e)=false:=by
  intro k hk hko;by_cases hr:Rch g B H nf fc x f o k
  .rw[<-jw p (L.circ k hk) x];refine bD λe he=>?_;by_cases hc:cy g (fc k) e=true
   .by_cases ha:at_ g e x=true
    .rw[hc,ha,(hY e).2 ⟨ha,k,hk,hko,hr,hc⟩]
    .have:Y e=false:=by
      cases hy:Y e
      .rfl
      .exact absurd ((hY e).1 hy).1 ha
     have ha':at_ g e x=false:=by simpa using ha
     rw[this,ha',hc];rfl
   .have:cy g (fc k) e=false:=by simpa using hc
    rw[this];simp
  .refine eH λe he=>?_;cases hy:Y e
   .rfl
   cases hc:cy g (fc k) e
   .rfl
   obtain⟨ha,h,hh,hho,hr',hc'⟩:=(hY e).1 hy;exact absurd (zn p L hr' hh hk (λq=>hr (q▸hr')) (Ne.symm hho) (Ne.symm hko) he ha hc' hc) hr
 have mainO:∀k,k<nf->par B (λe=>Y e&&cy g (fc k) e)=false:=by
  intro k hk;by_cases hko:k=o
  .subst hko;have h1:par (List.range nf) (λh=>par B (λe=>Y e&&cy g (fc h) e))=false:=by
    rw[jV];refine eH λe he=>?_;rw[iu];have:par (List.range nf) (λh=>cy g (fc h) e)=false:=by
     cases hH:H e
     .exact eH λh hh=>L.none e he hH h (by simpa using hh)
     .obtain⟨u,w,hu,hw,huw,hq⟩:=L.two e he hH;rw[bD (q:=λh=>true&&((h==u)||(h==w))) (λh hh=>by rw[hq h (by simpa using hh)];rfl),qq hu hw huw];rfl
    rw[this];simp
   rw[bD (q:=λh=>(h==k)&&par B (λe=>Y e&&cy g (fc h) e)) (λh hh=>by
    by_cases hk':h=k
    .subst hk';simp
    .rw[main h (by simpa using hh) hk'];simp),dG be (by simpa using hk)]at h1
   exact h1
  .exact main k hk hko
 obtain⟨e,he,hex,hce⟩:=cy_at p (L.circ f hf) hx;obtain⟨k,hk,hkx,hck⟩:=cy_at p (L.circ f' hf') hx';have hYe:Y e=true:=(hY e).2 ⟨hex,f,hf,Ne.symm ho,r0,hce⟩;have hYk:Y k=true:=by
  by_cases hek:e=k
  .rw[<-hek];exact hYe
  obtain⟨X,hX,hXH,hXj⟩:=L.bond x e k he hk (L.hcy hf he hce) (L.hcy hf' hk hck) hex hkx hek;have h1:=L.orth mainO hX hXH;rw[bD (q:=λj=>((j==e)&&Y j)^^((j==k)&&Y j)) (λj hj=>by
   cases hy:Y j
   .simp
   obtain⟨ha,h,hh,_,_,hc⟩:=(hY j).1 hy;rw[hXj j hj (L.hcy hh hj hc) ha];by_cases q:j=e
   .subst q;simp[hek]
   .rw[beq_eq_false_iff_ne.2 q];cases j==k<;>rfl),ew,dG p.nd he,dG p.nd hk,hYe]at h1
  simpa using h1
 obtain⟨_,h,hh,hho,hr,hc⟩:=(hY k).1 hYk;by_cases q:h=f'
 .exact hno (q▸hr)
 .exact hno (zn p L hr hh hf' q (Ne.symm hho) ho' hk hkx hc hck)
theorem Js{C:Nat->Bool}:par B (λe=>K e&&(A e^^C e))=(par B (λe=>K e&&A e)^^par B (λe=>K e&&C e)):=by
 rw[<-ew];exact bD λe _=>by cases K e<;>cases A e<;>cases C e<;>rfl
theorem tu{C:Nat->Bool}:par B (λe=>(A e^^C e)&&K e)=(par B (λe=>A e&&K e)^^par B (λe=>C e&&K e)):=by
 rw[<-ew];exact bD λe _=>by cases K e<;>cases A e<;>cases C e<;>rfl
theorem AF(p:Pln g B){u:Nat}(h:Ch g B (u::t++[w])):par B (λe=>wk g (u::t++[w]) e&&at_ g e v)=((u==v)^^(w==v)):=by
 have:=tP p (v:=v) (x:=u) (t:=t++[w]) h;rw[xP]at this;exact this
theorem xl(p:Pln g B){u:Nat}(h:Ch g B (u::t++[w]))(h':Ch g B (u::s++[w])):Even g B (λe=>wk g (u::t++[w]) e^^wk g (u::s++[w]) e):=λv=>by
 rw[bD (q:=λe=>(wk g (u::t++[w]) e&&at_ g e v)^^(wk g (u::s++[w]) e&&at_ g e v)) (λe _=>by
  dsimp only;cases wk g (u::t++[w]) e<;>cases wk g (u::s++[w]) e<;>cases at_ g e v<;>rfl),ew,AF p h,AF p h',kM]
theorem Cc.arc{u:Nat}(hc:Cc g B (u::t1++w::t2)):Ch g B (u::t1++[w]):=by
 have h:=hc.1;change Ch g B (u::(t1++w::t2)++[u])at h;rw[show u::(t1++w::t2)++[u]=(u::t1)++w::(t2++[u]) by simp,iK]at h;exact h.1
theorem Dw(p:Pln g B)(L:Lay g B H nf fc){u:Nat}(hf:f<nf)(hf':f'<nf)(hne:f≠f')(ho:o≠f)(ho':o≠f')(hx:x∈fc f')(hy:y∈fc f')(hr:Rot (fc f) (x::s1++u::s2++y::s3++w::s4)){C:List Nat}(hC:Ch g B (u::C++[w]))(hCH:∀e∈B,wk g (u::C++[w]) e=true->H e=true)
 (hav:∀e∈B,(at_ g e x=true\/at_ g e y=true)->wk g (u::C++[w]) e=true->o<nf/\cy g (fc o) e=true):False:=by
 have hcc:=hr.cc (L.circ f hf);have hnd:(x::s1++u::s2++y::s3++w::s4).Nodup:=hcc.2.1;have hr':Rot (fc f) (u::(s2++y::s3)++w::(s4++x::s1)):=by
  obtain⟨a,b,h1,h2⟩:=hr;have:Rot (x::s1++u::s2++y::s3++w::s4) (u::(s2++y::s3)++w::(s4++x::s1)):=⟨x::s1,u::s2++y::s3++w::s4,by simp,by simp⟩
  obtain⟨c,d,h3,h4⟩:=this;rw[h2]at h3;rcases List.append_eq_append_iff.1 h3 with⟨q,h5,h6⟩|⟨q,h5,h6⟩
  .exact⟨q,d++b,by rw[h1,h6];simp[h5,h6]<;>skip,by rw[h4,h5];simp⟩
  .exact⟨a++c,q,by rw[h1,h5];simp,by rw[h4,h6];simp⟩
 have hcc':=hr'.cc (L.circ f hf);have hxf:x∈fc f:=hr.mem.1 (by simp);have hyf:y∈fc f:=hr.mem.1 (by simp);obtain⟨α,a1,a2,a3⟩:=Mk p L hf hf' hne ho ho' hxf hx;obtain⟨β,b1,b2,b3⟩:=Mk p L hf hf' hne ho ho' hyf hy;have hA:=hcc'.arc;have hev:=xl p hA hC;have hsub:∀e∈B,(wk g (u::(s2++y::s3)++[w]) e^^wk g (u::C++[w]) e)=true->H e=true:=by
  intro e he h;by_cases q:wk g (u::C++[w]) e=true
  .exact hCH e he q
  .have q':wk g (u::C++[w]) e=false:=by simpa using q
   rw[q',cX]at h;exact L.hcy hf he (by rw[<-hr'.cy];exact lF p hcc' he h)
 have h0:=L.orth (K:=λe=>α e^^β e) (λk hk=>by
  rw[tu,a3 k hk,b3 k hk,kM]) hev hsub
 have hxn:x∉u::(s2++y::s3)++[w]:=by
  intro hm;rw[show x::s1++u::s2++y::s3++w::s4=(x::s1)++((u::(s2++y::s3)++[w])++s4) by simp,aN]at hnd;exact hnd.2.2 x (by simp) x (bg _ hm) rfl
 have c1:par B (λe=>α e&&wk g (u::(s2++y::s3)++[w]) e)=false:=eH λe he=>by
  cases h:α e
  .rfl
  .rw[kU p he (a1 e he h).2 hxn];rfl
 have c2:par B (λe=>α e&&wk g (u::C++[w]) e)=false:=eH λe he=>by
  cases h:α e
  .rfl
  cases h':wk g (u::C++[w]) e
  .rfl
  obtain⟨q1,q2⟩:=hav e he (.inl (a1 e he h).2) h';rw[a2 e he h q1]at q2;cases q2
 have c3:par B (λe=>β e&&wk g (u::C++[w]) e)=false:=eH λe he=>by
  cases h:β e
  .rfl
  cases h':wk g (u::C++[w]) e
  .rfl
  obtain⟨q1,q2⟩:=hav e he (.inr (b1 e he h).2) h';rw[b2 e he h q1]at q2;cases q2
 have c4:par B (λe=>β e&&wk g (u::(s2++y::s3)++[w]) e)=true:=by
  have h1:=b3 f hf;rw[beq_self_eq_true,beq_eq_false_iff_ne.2 hne]at h1;rw[<-show _=true from h1];refine bD λe he=>?_;cases h:β e
  .rfl
  have hey:=(b1 e he h).2;rw[<-hr'.cy];show(true&&_)=(true&&wk g (u::((s2++y::s3)++w::(s4++x::s1))++[u]) e)
  rw[show u::((s2++y::s3)++w::(s4++x::s1))++[u]=(u::(s2++y::s3))++w::(s4++x::s1++[u]) by simp,iI (b:=s4++x::s1++[u]),kU (a:=w::(s4++x::s1++[u])) p he hey,cX];intro hm;have hp:(y::(u::s2++s3++w::s4++x::s1)).Nodup:=by
   refine(List.Perm.nodup (l:=x::s1++u::s2++y::s3++w::s4) ?_ hnd);have e1:x::s1++u::s2++y::s3++w::s4=(x::s1++u::s2)++y::(s3++w::s4):=by simp
   rw[e1];refine List.perm_middle.trans (List.Perm.cons _ ?_);have e2:u::s2++s3++w::s4++x::s1=(u::s2++(s3++w::s4))++x::s1:=by simp
   rw[e2];refine List.Perm.trans ?_ jC;simp
  rw[aY]at hp;apply hp.1;simp only[ao,aw,bd,or_false,aH,bO]at hm |-;rcases hm with h|h|h|h|h<;>simp[h]
 rw[bD (q:=λe=>(α e^^β e)&&(wk g (u::(s2++y::s3)++[w]) e^^wk g (u::C++[w]) e)) (λ_ _=>rfl),Js,tu,tu,c1,c2,c3,c4]at h0;cases h0
theorem Hp(p:Pln g B)(L:Lay g B H nf fc)(hf:f<nf)(hf':f'<nf)(ho:o<nf)(hne:f≠f')(hof:o≠f)(hof':o≠f')(hx:x∈fc f')(hy:y∈fc f')(hu:u∈fc o)(hw:w∈fc o)(hr:Rot (fc f) (x::s1++u::s2++y::s3++w::s4)):False:=by
 have hnd:(x::s1++u::s2++y::s3++w::s4).Nodup:=(hr.cc (L.circ f hf)).2.1;have huw:u≠w:=by
  intro h;subst h;rw[show x::s1++u::s2++y::s3++u::s4=(x::s1)++((u::s2++y::s3)++u::s4) by simp,aN,aN]at hnd;exact hnd.2.1.2.2 u (by simp) u (by simp) rfl
 obtain⟨t1,t2,hr2⟩:=CI hu hw huw;have hcc2:=hr2.cc (L.circ o ho);have hin:∀e∈B,wk g (u::t1++[w]) e=true->cy g (fc o) e=true:=λe he h=>by
  rw[<-hr2.cy];exact lF p hcc2 he h
 exact Dw p L hf hf' hne hof hof' hx hy hr hcc2.arc (λe he h=>L.hcy ho he (hin e he h)) (λe he _ h=>⟨ho,hin e he h⟩)
theorem tK(p:Pln g B)(L:Lay g B H nf fc)(hf:f<nf)(hf':f'<nf)(hne:f≠f')(hx:x∈fc f')(hy:y∈fc f')(hr:Rot (fc f) (x::s1++u::s2++y::s3++w::s4))(hr':Rot (fc f') (u::t1++w::t2))(hx1:x∉u::t1++[w])(hy1:y∉u::t1++[w]):False:=by
 have hcc2:=hr'.cc (L.circ f' hf');refine Dw p L (o:=nf) hf hf' hne om om hx hy hr hcc2.arc (λe he h=>L.hcy hf' he (by rw[<-hr'.cy];exact lF p hcc2 he h)) (λe he ha h=>?_);rcases ha with ha|ha
 .rw[kU p he ha hx1]at h;cases h
 .rw[kU p he ha hy1]at h;cases h
open Go.Blk
variable {g:Gr}{B:List Nat}{H:Nat->Bool}{nf:Nat}{fc:Nat->List Nat}{Φ Ψ Ψ':Type}
structure Fill(g:Gr)(B:List Nat)(Z Q:Nat->Bool)(lq rq β:Nat->Ψ):Prop where
 two:∀S:Ψ->Bool,Even g B (λe=>(Q e&&(S (lq e)^^S (rq e)))^^(Z e&&S (β e)))
 one:∀X,Even g B X->∃S:Ψ->Bool,∀e∈B,Q e=true->X e=(S (lq e)^^S (rq e))
theorem Je(p:Pln g B)(L:Lay g B H nf fc){a:Nat->Nat}(ha:∀e∈B,H e=false->a e<nf){Ps:Nat->Type}{lq rq β:∀h,Nat->Ps h}(hF:∀h,h<nf->Fill g B (cy g (fc h)) (λe=>!(H e)&&(a e==h)) (lq h) (rq h) (β h)) :
 ∃l r:Nat->Sigma Ps,Dual g B l r/\Ext g B l r H nf (λf=>cy g (fc f)) Sigma.fst/\∀e∈B,H e=false->(l e).1=a e/\(r e).1=a e:=by
 have hch:∀e,∃q:Nat×Nat,e∈B->H e=true->q.1<nf/\q.2<nf/\q.1≠q.2/\∀f,f<nf->cy g (fc f) e=((f==q.1)||(f==q.2)):=λe=>by
  by_cases h:e∈B/\H e=true
  .obtain⟨a,b,c⟩:=L.two e h.1 h.2;exact⟨(a,b),λ_ _=>c⟩
  .exact⟨(0,0),λh1 h2=>absurd ⟨h1,h2⟩ h⟩
 obtain⟨q,hq⟩:∃q:Nat->Nat×Nat,∀e,e∈B->H e=true->(q e).1<nf/\(q e).2<nf/\(q e).1≠(q e).2/\∀f,f<nf->cy g (fc f) e=((f==(q e).1)||(f==(q e).2)):=⟨λe=>Classical.choose (hch e),λe=>Classical.choose_spec (hch e)⟩
 have side:∀S:∀h,Ps h->Bool,∀e∈B,par (List.range nf) (λh=>((!(H e)&&(a e==h))&&(S h (lq h e)^^S h (rq h e)))^^(cy g (fc h) e&&S h (β h e)))=if H e=true then S (q e).1 (β (q e).1 e)^^S (q e).2 (β (q e).2 e)else S (a e) (lq (a e) e)^^S (a e) (rq (a e) e):=by
  intro S e he;cases hH:H e
  .rw[bD (q:=λh=>(h==a e)&&(S h (lq h e)^^S h (rq h e))) (λh hh=>by
    rw[L.none e he hH h (by simpa using hh),fV];simp),dG be (by simpa using ha e he hH)]
   simp
  .obtain⟨h1,h2,h3,h4⟩:=hq e he hH;rw[bD (q:=λh=>S h (β h e)&&((h==(q e).1)||(h==(q e).2))) (λh hh=>by
    rw[h4 h (by simpa using hh)];simp[Bool.and_comm]),qq h1 h2 h3]
   simp
 refine⟨λe=>if H e=true then⟨(q e).1,β (q e).1 e⟩else⟨a e,lq (a e) e⟩,λe=>if H e=true then⟨(q e).2,β (q e).2 e⟩else⟨a e,rq (a e) e⟩,⟨λS=>?_,λX hX=>?_⟩,⟨λf hf e he=>?_,λe he=>?_,λe he=>?_⟩,λe he hH=>?_⟩
 .refine(Even.sum (l:=List.range nf) (X:=λh e=>((!(H e)&&(a e==h))&&(S ⟨h,lq h e⟩^^S ⟨h,rq h e⟩))^^(cy g (fc h) e&&S ⟨h,β h e⟩)) λh hh=>(hF h (by simpa using hh)).two (fun ψ=>S ⟨h,ψ⟩)).congr λe he=>?_;rw[side (λh ψ=>S ⟨h,ψ⟩) e he];cases hH:H e<;>simp
 .have hS:∀h,∃S:Ps h->Bool,h<nf->∀e∈B,(!(H e)&&(a e==h))=true->X e=(S (lq h e)^^S (rq h e)):=λh=>by
   by_cases hh:h<nf
   .obtain⟨S,hS⟩:=(hF h hh).one X hX;exact⟨S,λ_=>hS⟩
   .exact⟨λ_=>false,λh'=>absurd h' hh⟩
  obtain⟨S,hS⟩:∃S:∀h,Ps h->Bool,∀h,h<nf->∀e∈B,(!(H e)&&(a e==h))=true->X e=(S h (lq h e)^^S h (rq h e)):=⟨λh=>Classical.choose (hS h),λh=>Classical.choose_spec (hS h)⟩
  have hsum:=Even.sum (l:=List.range nf) (X:=λh e=>((!(H e)&&(a e==h))&&(S h (lq h e)^^S h (rq h e)))^^(cy g (fc h) e&&S h (β h e))) λh hh=>(hF h (by simpa using hh)).two (S h);obtain⟨T,hT⟩:=L.span _ (hX.xor hsum) (λe he h=>by
   cases hH:H e
   .rw[side S e he,hH]at h;rw[hS (a e) (ha e he hH) e he (by simp[hH])]at h;simp at h
   .rfl)
  refine⟨λx=>S x.1 x.2^^T x.1,λe he=>?_⟩;have h1:=hT e he;rw[side S e he]at h1;cases hH:H e
  .have:=hS (a e) (ha e he hH) e he (by simp[hH]);change X e=((S (a e) (lq (a e) e)^^T (a e))^^(S (a e) (rq (a e) e)^^T (a e)))
   rw[this];cases S (a e) (lq (a e) e)<;>cases S (a e) (rq (a e) e)<;>cases T (a e)<;>rfl
  .obtain⟨h2,h3,h4,h5⟩:=hq e he hH;rw[bD (q:=λh=>T h&&((h==(q e).1)||(h==(q e).2))) (λh hh=>by rw[h5 h (by simpa using hh)]),qq h2 h3 h4,hH]at h1;simp only[if_true]at h1;change X e=((S (q e).1 (β (q e).1 e)^^T (q e).1)^^(S (q e).2 (β (q e).2 e)^^T (q e).2))
   revert h1;cases X e<;>cases S (q e).1 (β (q e).1 e)<;>cases S (q e).2 (β (q e).2 e)<;>cases T (q e).1<;>cases T (q e).2<;>simp
 .cases hH:H e
  .rw[L.none e he hH f hf];simp
  .obtain⟨h1,h2,h3,h4⟩:=hq e he hH;rw[h4 f hf];simp only[if_true];by_cases h:f=(q e).1
   .subst h;rw[beq_self_eq_true,beq_eq_false_iff_ne.2 (Ne.symm h3)];rfl
   .rw[beq_eq_false_iff_ne.2 h,beq_eq_false_iff_ne.2 (Ne.symm h),ir,dF,fV]
 .cases hH:H e
  .simp only[bC,if_false];exact⟨ha e he hH,ha e he hH⟩
  .simp only[if_true];exact⟨(hq e he hH).1,(hq e he hH).2.1⟩
 .cases hH:H e
  .simp
  .simp only[if_true];exact(bne_iff_ne.2 (hq e he hH).2.2.1).symm
 .simp[hH]
def jo(g:Gr)(D:Nat->Bool):Bool->List Nat->Nat->Bool
 |_,[],_=>false
 |_,[_],_=>false
 |b,x::y::t,e=>((b^^D x)&&jn g e x y)^^jo g D (b^^D x) (y::t) e
theorem MO(p:Pln g B)(h:∃e∈B,jn g e x y=true):par B (λe=>jn g e x y&&at_ g e v)=((x==v)^^(y==v)):=by
 have:=tP p (v:=v) (x:=x) (t:=[y]) ⟨h,trivial⟩;simpa[wk,lst]using this
theorem GZ(p:Pln g B){D:Nat->Bool}{v:Nat}:∀{x:Nat}{t:List Nat}{b:Bool},Ch g B (x::t)->par B (λe=>jo g D b (x::t) e&&at_ g e v)=((b&&(x==v))^^(par (x::t) (λu=>(u==v)&&D u)^^((b^^par (x::t) D)&&(lst x t==v))))
 |x,[],b,_=>by
   rw[eH λ_ _=>by simp[jo]];simp only[par,lst];cases b<;>cases x==v<;>cases D x<;>rfl
 |x,y::t,b,h=>by
   have ih:=GZ p (v:=v) (D:=D) (b:=b^^D x) h.2;rw[bD (q:=λe=>((b^^D x)&&(jn g e x y&&at_ g e v))^^(jo g D (b^^D x) (y::t) e&&at_ g e v)) (λe _=>by
    simp only[jo];cases b^^D x<;>cases jn g e x y<;>cases jo g D _ (y::t) e<;>cases at_ g e v<;>rfl),ew,ih,iu,MO p h.1]
   simp only[par,lst];cases b<;>cases D x<;>cases x==v<;>cases y==v<;>cases D y<;>cases par t (λu=>(u==v)&&D u)<;>cases par t D<;>cases lst y t==v<;>rfl
theorem HI{D:Nat->Bool}{e:Nat}:∀{a:List Nat}{b:Bool},jo g D b a e=true->∃p x y q,a=p++x::y::q/\jn g e x y=true
 |[],_,h=>by simp[jo]at h
 |[_],_,h=>by simp[jo]at h
 |x::y::t,b,h=>by
   by_cases hj:jn g e x y=true
   .exact⟨[],x,y,t,rfl,hj⟩
   .have hj':jn g e x y=false:=by simpa using hj
    rw[jo,hj',jR,dF]at h;obtain⟨p,a,b,q,h1,h2⟩:=HI h;exact⟨x::p,a,b,q,by rw[h1];rfl,h2⟩
theorem CT(nd:c.Nodup)(h:D v=true->v∈c):par c (λu=>(u==v)&&D u)=D v:=by
 by_cases hv:v∈c
 .exact dG nd hv
 .rw[GY hv];cases hd:D v
  .rfl
  .exact absurd (h hd) hv
theorem KU(p:Pln g B)(hc:Cc g B c)(hD:∀v,D v=true->v∈c)(hp:par c D=false):∃A:Nat->Bool,(∀e∈B,A e=true->cy g c e=true)/\∀v,par B (λe=>A e&&at_ g e v)=D v:=by
 cases c with
 |nil=>exact hc.elim
 |cons x t =>
   have hch:Ch g B (x::t):=by
    have h:=hc.1;rcases cS (x::t)with h'|⟨s,z,h'⟩
    .cases h'
    .rw[dC]at h';rw[h']at h |-;rw[bO]at h;exact(iK.1 h).1
   refine⟨jo g D false (x::t),λe he h=>?_,λv=>?_⟩
   .obtain⟨s,a,b,q,h1,hj⟩:=HI h;rw[h1]at hc |-;rw[rQ];exact jv p (pQ hc) he hj
   .rw[GZ p hch,hp,CT hc.2.1 (hD v)];simp
theorem at_lt(he:e<g.m)(h:at_ g e v=true):v<g.n:=by
 have:=g.ok e he;unfold at_ at h;by_cases a:g.tl e=v
 .omega
 .by_cases b:g.hd e=v
  .omega
  .rw[beq_eq_false_iff_ne.2 a,beq_eq_false_iff_ne.2 b]at h;cases h
theorem My(he:e<g.m):par (List.range g.n) (λv=>at_ g e v)=false:=by
 have:=g.ok e he;rw[bD (q:=λv=>((v==g.tl e)&&true)^^((v==g.hd e)&&true)) (λv _=>by
  unfold at_;rw[fW,fW,fV (a:=v),fV (a:=v)]),ew,dG be (by simpa using this.1),dG be (by simpa using this.2.1)]
 rfl
theorem Hn(p:Pln g B)(nd:c.Nodup)(hc:∀v∈c,v<g.n)(hD:∀v,D v=par B (λe=>X e&&at_ g e v))(hin:∀v,D v=true->v∈c):par c D=false:=by
 have h1:par (List.range g.n) D=false:=by
  rw[bD λv _=>hD v,jV];exact eH λe he=>by rw[iu,My (p.lt e he)];simp
 rw[bD (q:=λv=>par c (λu=>(u==v)&&D u)) (λv _=>(CT nd (hin v)).symm),jV]at h1;rw[<-h1];refine bD λu hu=>?_;rw[bD (q:=λv=>(v==u)&&D u) (λv _=>by rw[fV]),dG (p:=λ_=>D u) be (by simpa using hc u hu)]
open Classical in
theorem xA(R:Φ->Φ->Prop):∃c:Φ->Φ,(∀a b,R a b->c a=c b)/\∀{α:Type} (S:Φ->α),(∀a b,R a b->S a=S b)->∀a,S (c a)=S a:=by
 refine⟨λa=>Classical.choose (Quot.exists_rep (Quot.mk R a)),λa b h=>?_,λS hS a=>?_⟩
 .dsimp only;rw[Quot.sound h]
 .have:=Classical.choose_spec (Quot.exists_rep (Quot.mk R a));have h2:=congrArg (Quot.lift S hS) this;exact h2
theorem Cj(p:Pln g B){l r:Nat->Φ}{pf:Φ->Nat}(d:Dual g B l r)(hb:Bond g B)(L:Lay g B H nf fc)(x:Ext g B l r H nf (λf=>cy g (fc f)) pf)(hf:f<nf)(hQ:∀e∈B,Q e=true->H e=false/\pf (l e)=f)(hcl:∀v,(∀e∈B,at_ g e v=true->H e=false)->∀e∈B,∀k∈B,at_ g e v=true->at_ g k v=true->Q e=Q k) :
 ∃lq rq β:Nat->Φ,Fill g B (cy g (fc f)) Q lq rq β:=by
 obtain⟨c,hc1,hc2⟩:=xA (λa b:Φ=>∃e∈B,H e=false/\Q e=false/\pf (l e)=f/\l e=a/\r e=b);have hpf:∀e∈B,H e=false->pf (r e)=pf (l e):=λe he h=>by
  have:=x.lay e he;rw[h]at this;exact(by simpa using this.symm:pf (l e)=pf (r e)).symm
 refine⟨λe=>c (l e),λe=>c (r e),λe=>c (if pf (l e)=f then l e else r e),⟨λS=>?_,λX hX=>?_⟩⟩
 .refine(d.two (λa=>S (c a)&&pf a==f)).congr λe he=>?_;have hs:=x.side f hf e he;cases hH:H e
  .rw[L.none e he hH f hf,hpf e he hH];cases hq:Q e
   .by_cases hpe:pf (l e)=f
    .rw[hc1 (l e) (r e) ⟨e,he,hH,hq,hpe,rfl,rfl⟩];simp
    .rw[beq_eq_false_iff_ne.2 hpe];simp
   .rw[beq_iff_eq.2 (hQ e he hq).2];simp
  .have hq:Q e=false:=by
    cases hq:Q e
    .rfl
    .rw[(hQ e he hq).1]at hH;cases hH
   have hl:=x.lay e he;rw[hH]at hl;have hne:pf (l e)≠pf (r e):=by simpa using hl.symm
   rw[hs,hq];by_cases a:pf (l e)=f
   .have b:pf (r e)≠f:=λh=>hne (a.trans h.symm);rw[beq_iff_eq.2 a,beq_eq_false_iff_ne.2 b,if_pos a];simp
   .rw[beq_eq_false_iff_ne.2 a,if_neg a];cases S (c (l e))<;>cases S (c (r e))<;>cases pf (r e)==f<;>rfl
 ·
  have hin:∀v,par B (λe=>(X e&&Q e)&&at_ g e v)=true->v∈fc f:=by
   intro v hv;by_cases hvh:∃k∈B,at_ g k v=true/\H k=true
   .obtain⟨k,hk,hkv,hkh⟩:=hvh;have:∃e∈B,Q e=true/\at_ g e v=true:=by
     refine Classical.byContradiction λhno=>?_;rw[eH λe he=>?_]at hv
     .cases hv
     .cases hq:Q e
      .simp
      .cases ha:at_ g e v
       .simp
       .exact absurd ⟨e,he,hq,ha⟩ hno
    obtain⟨e,he,hq,hev⟩:=this;obtain⟨hne,hpe⟩:=hQ e he hq;obtain⟨j,hj,hjv,hz⟩:=x.hangs p.nd d hb he hk hev hkv hne hkh;rw[hpe]at hz;exact Aw p hj hz hjv
   .have hall:∀e∈B,at_ g e v=true->H e=false:=λe he ha=>by
     cases hh:H e
     .rfl
     .exact absurd ⟨e,he,ha,hh⟩ hvh
    have h0:=hX v;by_cases hq:∃k∈B,at_ g k v=true/\Q k=true
    .obtain⟨k,hk,hkv,hkq⟩:=hq;exfalso;have:par B (λe=>(X e&&Q e)&&at_ g e v)=par B (λe=>X e&&at_ g e v):=bD λe he=>by
      cases ha:at_ g e v
      .simp
      .rw[hcl v hall e he k hk ha hkv,hkq];simp
     rw[this,h0]at hv;cases hv
    .rw[eH λe he=>?_]at hv
     .cases hv
     .cases ha:at_ g e v
      .simp
      .cases hq':Q e
       .simp
       .exact absurd ⟨e,he,ha,hq'⟩ hq
  have hcc:=L.circ f hf;have hnd:(fc f).Nodup:=by
   revert hcc;cases fc f with
   |nil=>exact λh=>h.elim
   |cons y t=>exact λh=>h.2.1
  have hlt:∀v∈fc f,v<g.n:=λv hv=>by
   obtain⟨e,he,ha,_⟩:=cy_at p hcc hv;exact at_lt (p.lt e he) ha
  obtain⟨A,hA1,hA2⟩:=KU p hcc (D:=λv=>par B (λe=>(X e&&Q e)&&at_ g e v)) hin (Hn p (X:=λe=>X e&&Q e) hnd hlt (λ_=>rfl) hin);have hW:Even g B (λe=>(X e&&Q e)^^A e):=λv=>by
   rw[bD (q:=λe=>((X e&&Q e)&&at_ g e v)^^(A e&&at_ g e v)) (λe _=>by
    dsimp only;cases X e&&Q e<;>cases A e<;>cases at_ g e v<;>rfl),ew,hA2 v,kM]
  have hA0:∀e∈B,H e=false->A e=false:=λe he hh=>by
   cases ha:A e
   .rfl
   .have:=hA1 e he ha;rw[L.none e he hh f hf]at this;cases this
  obtain⟨S,hS⟩:=d.one _ hW;refine⟨S,λe he hq=>?_⟩;have hSc:=hc2 S (λa b ⟨k,hk,h1,h2,_,h4,h5⟩=>by
   have:=hS k hk;rw[h2,hA0 k hk h1,jR,dF,h4,h5]at this;revert this;cases S a<;>cases S b<;>simp)
  have:=hS e he;rw[hq,hA0 e he (hQ e he hq).1,fW,cX]at this;rw[hSc,hSc,this]
theorem Fill.other{Z Z':Nat->Bool}{lq rq β β':Nat->Ψ}(h:Fill g B Z Q lq rq β)(hk:∀S:Ψ->Bool,Even g B (λe=>(Z e&&S (β e))^^(Z' e&&S (β' e)))):Fill g B Z' Q lq rq β' where
 two:=λS=>((h.two S).xor (hk S)).congr λe _=>by
  cases Q e&&(S (lq e)^^S (rq e))<;>cases Z e&&S (β e)<;>cases Z' e&&S (β' e)<;>rfl
 one:=h.one
open Classical in
theorem Fill.insert{Z E:Nat->Bool}{lq rq β:Nat->Ψ}{lq' rq' β':Nat->Ψ'}(h:Fill g B Z Q lq rq β)(h':Fill g B Z E lq' rq' β'){b:Ψ}{b':Ψ'}(hd:∀e∈B,Q e=true->E e=false)(hb:∀e∈B,Z e=true->A e=true->β e=b)(hb':∀e∈B,Z e=true->A e=false->β' e=b') :
 ∃lq2 rq2 β2:Nat->Ψ ⊕ Ψ',Fill g B Z (λe=>Q e||E e) lq2 rq2 β2/\∀e,A e=false->β2 e=.inl (β e):=by
 let em:Ψ'->Ψ ⊕ Ψ':=λy=>if y=b' then .inl b else .inr y
 refine⟨λe=>if Q e=true then .inl (lq e)else em (lq' e),λe=>if Q e=true then .inl (rq e)else em (rq' e),λe=>if A e=true then em (β' e)else .inl (β e),⟨λS=>?_,λX hX=>?_⟩,λe he=>by simp[he]⟩
 .refine((h.two (λy=>S (.inl y))).xor (h'.two (λy=>S (em y)^^S (.inl b)))).congr λe he=>?_;have hE:=hd e he;have h1:=hb e he;have h2:=hb' e he;have hem:em b'=.inl b:=by simp[em]
  cases hq:Q e
  .cases hz:Z e
   .cases hee:E e
    .simp
    .simp;cases S (em (lq' e))<;>cases S (em (rq' e))<;>cases S (.inl b)<;>rfl
   .cases ha:A e
    .rw[h2 hz ha,hem];cases hee:E e
     .simp
     .simp;cases S (em (lq' e))<;>cases S (em (rq' e))<;>cases S (.inl b)<;>cases S (.inl (β e))<;>rfl
    .rw[h1 hz ha];cases hee:E e
     .simp;cases S (em (β' e))<;>cases S (.inl b)<;>rfl
     .simp;cases S (em (lq' e))<;>cases S (em (rq' e))<;>cases S (.inl b)<;>cases S (em (β' e))<;>rfl
  .rw[hE hq];cases hz:Z e
   .simp
   .cases ha:A e
    .rw[h2 hz ha,hem];simp
    .rw[h1 hz ha];simp;cases S (.inl (lq e))<;>cases S (.inl (rq e))<;>cases S (.inl b)<;>cases S (em (β' e))<;>rfl
 .obtain⟨S,hS⟩:=h.one X hX;obtain⟨S',hS'⟩:=h'.one X hX;refine⟨λy=>match y with|.inl y=>S y|.inr y=>S' y^^(S' b'^^S b),λe he hq=>?_⟩;have hem:∀y,(match em y with|.inl y=>S y|.inr y=>S' y^^(S' b'^^S b))=(S' y^^(S' b'^^S b)):=λy=>by
   by_cases hy:y=b'
   .subst hy;simp[em]
   .simp[em,hy]
  cases hqe:Q e
  .have hee:E e=true:=by simpa[hqe]using hq
   simp only[bC,if_false];rw[hem,hem,hS' e he hee];cases S' (lq' e)<;>cases S' (rq' e)<;>cases S' b'<;>cases S b<;>rfl
  .simp only[if_true];exact hS e he hqe
end Go.Pla
