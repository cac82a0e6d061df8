/- Lists of lists of numbers, grown from nothing. -/
import Derived.Test.YtcfncejilmimpaaGreatVTAD
set_option linter.all false
namespace Go.Proofs.YtcfncejilmimpaaGreat
open Go.Am
variable {a v:AV}{h:AH}{lo:Nat}{xss:List (List Nat)}
abbrev SlN(h:AH)(v:AV)(l:List Nat):Prop:=SlI h v (l.map λn=>((n:Nat):Int))
def nC(l:List Nat):List AV:=(l.map λn=>((n:Nat):Int)).flatMap eI
theorem gU(l:List Nat):(nC l).length=l.length:=by
 unfold nC;rw[fJ (f:=eI) (e:=1) (λ_=>rfl),ah];omega
theorem pp(a b:List Nat):nC (a++b)=nC a++nC b:=by
 unfold nC;rw[dm,da]
theorem et{l:List Nat}(hv:IsSl h 1 lo v (nC l)):SlN h v l:=IsSl.sl om (λ_=>rfl) hv
def LL(h:AH)(lo:Nat)(a:AV)(xss:List (List Nat)):Prop :=
 ∃vs:List AV,IsSl h 1 lo a vs/\vs.length=xss.length/\∀(i:Nat) (v:AV) (xs:List Nat),vs[i]?=some v->xss[i]?=some xs->IsSl h 1 lo v (nC xs)/\∀b n b' n',v=.sl b 0 n n->a=.sl b' 0 n' n'->b≠b'
theorem LL.ext{h h':AH}{lo hi:Nat}{a:AV}{xss:List (List Nat)}(hl:LL h lo a xss)(hx:Ext hi h h')(hn:h.next<=hi):LL h' lo a xss:=by
 obtain⟨vs,h1,h2,h3⟩:=hl;exact⟨vs,h1.ext hx hn,h2,λi v xs q1 q2=>⟨(h3 i v xs q1 q2).1.ext hx hn,(h3 i v xs q1 q2).2⟩⟩
theorem LL.push{x:Nat}{xs:List Nat}(hl:LL h lo a xss)(hlo:lo<=h.next)(hv:IsSl h 1 lo v (nC xs))(hx:h.get x=some (.cells [v] 1 false))(hxl:lo<=x)(hxa:∀b n,a=.sl b 0 n n->b≠x)
 (hva:∀b n b' n',v=.sl b 0 n n->a=.sl b' 0 n' n'->b≠b') (hb:(xss.length+1)*24<bd) :
 ∃a' h',gI h 1 24 a (.sl x 0 1 1)=some (a',h')/\LL h' lo a' (xss++[xs])/\Ext lo h h'/\h'.next=h.next+1/\(∀c,c<h.next->(∀b n,a=.sl b 0 n n->c≠b)->h'.get c=h.get c)/\∀c n,a'=.sl c 0 n n->c=h.next:=by
 obtain⟨vs,h1,h2,h3⟩:=hl;obtain⟨a',h',q1,q2,q3,q4,q5,q6,_⟩:=h1.app (bytes:=24) hlo om hx hxl hxa rfl (by simp[hv.cells.2]) (by rw[lz,h2];exact hb) (by rw[lz,h2];unfold bd at *;omega);have keep:∀(w:AV) (cs:List AV),IsSl h 1 lo w cs->(∀b n b' n',w=.sl b 0 n n->a=.sl b' 0 n' n'->b≠b')->IsSl h' 1 lo w cs/\∀b n b' n',w=.sl b 0 n n->a'=.sl b' 0 n' n'->b≠b':=λw cs hw hn=>by
  refine⟨hw.cong λb n e _=>q6 b (hw.lt e) λb' n' e'=>hn b n b' n' e e',λb n b' n' e e'=>?_⟩;have:=hw.lt e;rw[q4]at e';cases e';omega
 refine⟨a',h',q1,⟨vs++[v],q2,by rw[aG,aG,h2];rfl,λi w ys e1 e2=>?_⟩,q3,q5,q6,λc n e=>by rw[q4]at e;cases e;rfl⟩;by_cases hi:i<vs.length
 .rw[bE hi]at e1;rw[bE om]at e2;obtain⟨k1,k2⟩:=h3 i w ys e1 e2;exact keep w _ k1 k2
 .have hil:i<(vs++[v]).length:=(aM.1 e1).1;rw[aG,aA,aQ]at hil;have hi':i=vs.length:=om;subst hi';rw[bp om,eW]at e1;rw[h2,bp om,eW]at e2;cases e1;cases e2;exact keep v _ hv hva
theorem LL.at(hl:LL h lo a xss){i:Nat}(hi:i<xss.length):∃b o v,iQ 1 a (.int .i64 (i:Nat))=some (.ptr b o)/\ar h b o 1=some [v]/\IsSl h 1 lo v (nC xss[i])/\b<h.next:=by
 obtain⟨vs,h1,h2,h3⟩:=hl;have hs:Sl h 1 a (vs.map λx=>[x]):=by
  rcases h1 with⟨rfl,rfl⟩|⟨b,n,_,rfl,hg,hn⟩
  .exact .inl ⟨rfl,.inl rfl⟩
  .exact Sl.row hg om (ab _)
 have hv:vs[i]?=some (vs[i]'om):=ae _;obtain⟨b,o,q1,q2,q3⟩:=hs.at1 (i:=i) (y:=vs[i]'om) (by rw[aF,hv];rfl);exact⟨b,o,_,q1,q2,(h3 i _ _ hv (ae hi)).1,q3⟩
theorem LL.len(hl:LL h lo a xss):jb a=some (.int .i64 (xss.length:Nat)):=by
 obtain⟨vs,h1,h2,h3⟩:=hl;rcases h1 with⟨rfl,rfl⟩|⟨b,n,_,rfl,hg,hn⟩
 .rw[<-h2];rfl
 .rw[<-h2,hn,aU];rfl
theorem LL.cong{h h':AH}{lo:Nat}{a:AV}{xss:List (List Nat)}(hl:LL h lo a xss)(hk:∀c,lo<=c->c<h.next->h'.get c=h.get c):LL h' lo a xss:=by
 obtain⟨vs,h1,h2,h3⟩:=hl;exact⟨vs,h1.cong λb n e hb=>hk b hb (h1.lt e),h2,λi v xs q1 q2=>⟨(h3 i v xs q1 q2).1.cong λb n e hb=>hk b hb ((h3 i v xs q1 q2).1.lt e),(h3 i v xs q1 q2).2⟩⟩
theorem LL.lt{h:AH}{lo:Nat}{a:AV}{xss:List (List Nat)}(hl:LL h lo a xss){b n:Nat}(e:a=.sl b 0 n n):b<h.next:=by
 obtain⟨vs,h1,_⟩:=hl;exact h1.lt e
end Go.Proofs.YtcfncejilmimpaaGreat
namespace Go.Pla
open Go.Blk
variable {A K X:Nat->Bool}{a b c d s s1 s2 s3 s4 t t1 t2:List Nat}{e f f' k o u v w x y:Nat}
def par{α:Type}:List α->(α->Bool)->Bool
 |[],_=>false
 |e::l,p=>p e^^par l p
theorem bq{α:Type}:∀{l:List α}{p q:α->Bool},(∀e∈l,p e=q e)->par l p=par l q
 |[],_,_,_=>rfl
 |e::l,p,q,h=>by
   simp only[par];rw[h e (by simp),bq (l:=l) λk hk=>h k (by simp[hk])]
theorem dY{α:Type}{p q:α->Bool}:∀{l:List α},par l (λe=>p e^^q e)=(par l p^^par l q)
 |[]=>rfl
 |e::l=>by
   simp only[par];rw[dY (l:=l)];cases p e<;>cases q e<;>cases par l p<;>cases par l q<;>rfl
theorem eD{α:Type}{p:α->Bool}:∀{l:List α},(∀e∈l,p e=false)->par l p=false
 |[],_=>rfl
 |e::l,h=>by simp only[par];rw[h e (by simp),eD λk hk=>h k (by simp[hk])];rfl
theorem hU{α:Type}{c:Bool}{p:α->Bool}:∀{l:List α},par l (λe=>c&&p e)=(c&&par l p)
 |[]=>by cases c<;>rfl
 |e::l=>by
   simp only[par];rw[hU (l:=l)];cases c<;>cases p e<;>cases par l p<;>rfl
theorem sE{α:Type}{p:α->Bool}:∀{l m:List α},par (l++m) p=(par l p^^par m p)
 |[],m=>by simp[par]
 |e::l,m=>by
   simp only[aH,par];rw[sE (l:=l)];cases p e<;>cases par l p<;>cases par m p<;>rfl
theorem Hc{α:Type}{p:α->Bool}{l m:List α}(h:l.Perm m):par l p=par m p:=by
 induction h with
 |nil=>rfl
 |cons x _ ih=>simp only[par];rw[ih]
 |swap x y l=>simp only[par];cases p x<;>cases p y<;>cases par l p<;>rfl
 |trans _ _ h1 h2=>rw[h1,h2]
theorem jO{α β:Type}{p:α->β->Bool}{m:List β}:∀{l:List α},par l (λe=>par m (λf=>p e f))=par m (λf=>par l (λe=>p e f))
 |[]=>by simp only[par];exact(eD λ_ _=>rfl).symm
 |e::l=>by
   simp only[par];rw[jO (l:=l),<-dY]
theorem dx{k:Nat}{p:Nat->Bool}:∀{l:List Nat},l.Nodup->k∈l->par l (λe=>(e==k)&&p e)=p k
 |[],_,h=>by simp at h
 |e::l,nd,h=>by
   simp only[par];rw[aX]at nd;by_cases he:e=k
   .subst he;rw[eD (l:=l) λj hj=>by
     have:j≠e:=λx=>nd.1 (x▸hj);simp[this]]
    simp
   .rw[dx (l:=l) nd.2 (by simpa[Ne.symm he]using h)];have:(e==k)=false:=by simp[he]
    rw[this];cases p k<;>rfl
theorem Hd{p:Nat->Bool}{l:List Nat}(h:k∉l):par l (λe=>(e==k)&&p e)=false :=
 eD λe he=>by
  have:e≠k:=λx=>h (x▸he);simp[this]
variable {g:Gr}{B:List Nat}{Φ:Type}
def at_(g:Gr)(e v:Nat):Bool:=(g.tl e==v)^^(g.hd e==v)
def Even(g:Gr)(B:List Nat)(X:Nat->Bool):Prop:=∀v,par B (λe=>X e&&at_ g e v)=false
theorem Even.congr{Y:Nat->Bool}(h:Even g B X)(hx:∀e∈B,X e=Y e):Even g B Y:=λv=>by
 rw[<-h v];exact bq λe he=>by rw[hx e he]
theorem Even.xor{Y:Nat->Bool}(h:Even g B X)(h':Even g B Y):Even g B (λe=>X e^^Y e):=λv=>by
 rw[bq (q:=λe=>(X e&&at_ g e v)^^(Y e&&at_ g e v)) (λe _=>by dsimp only;cases X e<;>cases Y e<;>cases at_ g e v<;>rfl),dY,h v,h' v];rfl
theorem yc:Even g B (λ_=>false):=λ_=>eD λ_ _=>rfl
theorem Even.sum{α:Type}{X:α->Nat->Bool}:∀{l:List α},(∀f∈l,Even g B (X f))->Even g B (λe=>par l (λf=>X f e))
 |[],_=>yc
 |f::l,h=>(h f (by simp)).xor (Even.sum (l:=l) λk hk=>h k (by simp[hk]))
structure Dual(g:Gr)(B:List Nat)(l r:Nat->Φ):Prop where
 two:∀S:Φ->Bool,Even g B (λe=>S (l e)^^S (r e))
 one:∀X,Even g B X->∃S:Φ->Bool,∀e∈B,X e=(S (l e)^^S (r e))
def Bond(g:Gr)(B:List Nat):Prop:=∀v e k,e∈B->k∈B->at_ g e v=true->at_ g k v=true->e≠k->∃Z,Even g B Z/\∀j∈B,at_ g j v=true->Z j=((j==e)||(j==k))
def Link(g:Gr)(B:List Nat):Prop:=∀P:Nat->Bool,(∀v e k,e∈B->k∈B->at_ g e v=true->at_ g k v=true->P e=P k)->∀e∈B,∀k∈B,P e=P k
theorem qg(nd:B.Nodup)(hb:Bond g B){Y:Nat->Bool}(h:∀X,Even g B X->par B (λe=>X e&&(Y e&&at_ g e v))=false)(he:e∈B)(hk:k∈B)(hev:at_ g e v=true)(hkv:at_ g k v=true):Y e=Y k:=by
 by_cases hne:e=k
 .rw[hne]
 obtain⟨Z,hZ,hz⟩:=hb v e k he hk hev hkv hne;have h1:=h Z hZ;rw[bq (q:=λj=>((j==e)&&Y j)^^((j==k)&&Y j)) (λj hj=>by
  by_cases hjv:at_ g j v=true
  .rw[hz j hj hjv,hjv];by_cases h1:j=e
   .subst h1;have:(j==k)=false:=by simp[hne]
    simp[this]
   .have:(j==e)=false:=by simp[h1]
    simp[this]
  .have a:j≠e:=λx=>hjv (x▸hev);have b:j≠k:=λx=>hjv (x▸hkv);have a':(j==e)=false:=by simp[a]
   have b':(j==k)=false:=by simp[b]
   have c:at_ g j v=false:=by simpa using hjv
   rw[a',b',c];cases Z j<;>cases Y j<;>rfl),dY,dx nd he,dx nd hk]at h1
 cases hy:Y e<;>cases hy':Y k<;>simp[hy,hy']at h1 |-
variable {l r:Nat->Φ}
theorem Dual.conn(nd:B.Nodup)(d:Dual g B l r)(hb:Bond g B)(hl:Link g B){T:Φ->Bool}(h:∀e∈B,T (l e)=T (r e))(he:e∈B)(hk:k∈B):T (l e)=T (l k):=by
 refine hl (λj=>T (l j)) (λv e k he hk hev hkv=>qg nd hb (Y:=λj=>T (l j)) (λX hX=>?_) he hk hev hkv) e he k hk;obtain⟨S,hS⟩:=d.one X hX;have h1:=d.two (λa=>S a&&T a) v;rw[<-h1];refine bq λj hj=>?_;dsimp only;rw[hS j hj,<-h j hj];cases S (l j)<;>cases S (r j)<;>cases T (l j)<;>cases at_ g j v<;>rfl
def Circ(g:Gr)(B:List Nat)(Z:Nat->Bool):Prop:=Even g B Z/\∀Y,Even g B Y->(∀e∈B,Y e=true->Z e=true)->(∀e∈B,Y e=false)\/(∀e∈B,Y e=Z e)
structure Ext(g:Gr)(B:List Nat)(l r:Nat->Φ)(H:Nat->Bool)(nf:Nat)(Z:Nat->Nat->Bool)(pf:Φ->Nat):Prop where
 side:∀f,f<nf->∀e∈B,Z f e=((pf (l e)==f)^^(pf (r e)==f))
 lt:∀e∈B,pf (l e)<nf/\pf (r e)<nf
 lay:∀e∈B,H e=(pf (l e) != pf (r e))
variable {H:Nat->Bool}{nf:Nat}{Z:Nat->Nat->Bool}{pf:Φ->Nat}
theorem Ext.step(nd:B.Nodup)(d:Dual g B l r)(hb:Bond g B)(hl:Link g B)(x:Ext g B l r H nf Z pf)(hf:f<nf)(hc:Circ g B (Z f)){e0:Nat}(h0:e0∈B)(hz0:Z f e0=true){w Z1 Z2:Nat->Bool}
 (hw:∀e∈B,w e=true->pf (l e)=f/\pf (r e)=f) (he1:Even g B Z1) (h1:∀e∈B,Z1 e=true->Z f e=true\/w e=true) (h1w:∀e∈B,w e=true->Z1 e=true)
 (h2:∀e∈B,(Z1 e^^Z2 e)=Z f e):∃pf':Φ->Nat,Ext g B l r (λe=>H e||w e) (nf+1) (λk e=>if k=f then Z1 e else if k=nf then Z2 e else Z k e) pf'/\(∀a,pf a≠f->pf' a=pf a)/\(∀a,pf a=f->pf' a=f\/pf' a=nf):=by
 obtain⟨S,hS⟩:=d.one Z1 he1;have hT:=d.two (λa=>S a&&!(pf a==f));have sub:∀e∈B,((S (l e)&&!(pf (l e)==f))^^(S (r e)&&!(pf (r e)==f)))=true->Z f e=true:=by
  intro e he h;rw[x.side f hf e he];have hs:=hS e he;have hwe:=hw e he;have h1e:=h1 e he;rw[x.side f hf e he]at h1e;by_cases a:pf (l e)=f<;>by_cases b:pf (r e)=f
  .simp[a,b]at h
  .simp[a,b]
  .simp[a,b]
  .simp only[a,b,beq_eq_false_iff_ne.2 a,beq_eq_false_iff_ne.2 b,cq,fA,cV]at h h1e |-;rw[h]at hs;rcases h1e hs with q|q
   .exact q
   .exact absurd (hwe q).1 a
 have key:∃S':Φ->Bool,(∀e∈B,Z1 e=(S' (l e)^^S' (r e)))/\(∀e∈B,(S' (l e)=true->pf (l e)=f)/\(S' (r e)=true->pf (r e)=f)):=by
  have hz0':=x.side f hf e0 h0;rw[hz0]at hz0';rcases hc.2 _ hT sub with hn|ha
  .refine⟨S,hS,?_⟩;have hcon:∀e∈B,(S (l e)&&!(pf (l e)==f))=false/\(S (r e)&&!(pf (r e)==f))=false:=by
    have hq:∀e∈B,(S (l e)&&!(pf (l e)==f))=(S (r e)&&!(pf (r e)==f)):=λe he=>by
     have:=hn e he;revert this;cases (S (l e)&&!(pf (l e)==f))<;>cases (S (r e)&&!(pf (r e)==f))<;>simp
    have h00:(S (l e0)&&!(pf (l e0)==f))=false:=by
     by_cases a:pf (l e0)=f
     .simp[a]
     .have b:pf (r e0)=f:=by
       by_cases b:pf (r e0)=f
       .exact b
       .rw[beq_eq_false_iff_ne.2 a,beq_eq_false_iff_ne.2 b]at hz0';cases hz0'
      rw[hq e0 h0];simp[b]
    intro e he;have h3:=d.conn nd hb hl (T:=λa=>S a&&!(pf a==f)) hq he h0;exact⟨by rw[h3,h00],by rw[<-hq e he,h3,h00]⟩
   intro e he;obtain⟨a,b⟩:=hcon e he;constructor
   .intro h;rw[h]at a;simpa using a
   .intro h;rw[h]at b;simpa using b
  .refine⟨λa=>!(S a),λe he=>?_,?_⟩
   .rw[hS e he];dsimp only;cases S (l e)<;>cases S (r e)<;>rfl
   have hq:∀e∈B,((S (l e)&&!(pf (l e)==f))^^!(pf (l e)==f))=((S (r e)&&!(pf (r e)==f))^^!(pf (r e)==f)):=λe he=>by
    have:=ha e he;rw[x.side f hf e he]at this;revert this;cases S (l e)<;>cases S (r e)<;>cases pf (l e)==f<;>cases pf (r e)==f<;>simp
   have h00:((S (l e0)&&!(pf (l e0)==f))^^!(pf (l e0)==f))=false:=by
    by_cases a:pf (l e0)=f
    .simp[a]
    .have b:pf (r e0)=f:=by
      by_cases b:pf (r e0)=f
      .exact b
      .rw[beq_eq_false_iff_ne.2 a,beq_eq_false_iff_ne.2 b]at hz0';cases hz0'
     rw[hq e0 h0];simp[b]
   intro e he;have h3:=d.conn nd hb hl (T:=λa=>(S a&&!(pf a==f))^^!(pf a==f)) hq he h0;have a:((S (l e)&&!(pf (l e)==f))^^!(pf (l e)==f))=false:=by rw[h3,h00]
   have b:((S (r e)&&!(pf (r e)==f))^^!(pf (r e)==f))=false:=by rw[<-hq e he,h3,h00]
   constructor
   .intro h;by_cases q:pf (l e)=f
    .exact q
    .have:S (l e)=false:=by simpa using h
     simp[q,this]at a
   .intro h;by_cases q:pf (r e)=f
    .exact q
    .have:S (r e)=false:=by simpa using h
     simp[q,this]at b
 obtain⟨S',hS',hin⟩:=key;refine⟨λa=>if pf a=f then(if S' a=true then f else nf)else pf a,⟨?_,?_,?_⟩,λa h=>by simp[h],λa h=>by simp only[h,if_true];split<;>simp⟩
 .intro k hk e he;have hlt:=x.lt e he;have hse:=hS' e he;have hie:=hin e he;have h2e:=h2 e he;have hside:=x.side f hf e he;by_cases hkf:k=f
  .subst hkf;simp only[if_true];rw[hse];have q1:((if pf (l e)=k then(if S' (l e)=true then k else nf)else pf (l e))==k)=S' (l e):=by
    by_cases a:pf (l e)=k
    .cases hs:S' (l e)
     .simp[a];omega
     .simp[a]
    .have:S' (l e)=false:=by
      cases hs:S' (l e)
      .rfl
      .exact absurd (hie.1 hs) a
     simp[a,this]
   have q2:((if pf (r e)=k then(if S' (r e)=true then k else nf)else pf (r e))==k)=S' (r e):=by
    by_cases a:pf (r e)=k
    .cases hs:S' (r e)
     .simp[a];omega
     .simp[a]
    .have:S' (r e)=false:=by
      cases hs:S' (r e)
      .rfl
      .exact absurd (hie.2 hs) a
     simp[a,this]
   rw[q1,q2]
  .by_cases hkn:k=nf
   .subst hkn;simp only[hkf,if_false,if_true];have q1:((if pf (l e)=f then(if S' (l e)=true then f else k)else pf (l e))==k)=((pf (l e)==f)^^S' (l e)):=by
     by_cases a:pf (l e)=f
     .cases hs:S' (l e)
      .simp[a]
      .simp[a];omega
     .have:S' (l e)=false:=by
       cases hs:S' (l e)
       .rfl
       .exact absurd (hie.1 hs) a
      rw[this,if_neg a,beq_eq_false_iff_ne.2 a];simp;omega
    have q2:((if pf (r e)=f then(if S' (r e)=true then f else k)else pf (r e))==k)=((pf (r e)==f)^^S' (r e)):=by
     by_cases a:pf (r e)=f
     .cases hs:S' (r e)
      .simp[a]
      .simp[a];omega
     .have:S' (r e)=false:=by
       cases hs:S' (r e)
       .rfl
       .exact absurd (hie.2 hs) a
      rw[this,if_neg a,beq_eq_false_iff_ne.2 a];simp;omega
    rw[q1,q2];rw[hside,hse]at h2e;revert h2e;cases Z2 e<;>cases S' (l e)<;>cases S' (r e)<;>cases pf (l e)==f<;>cases pf (r e)==f<;>simp
   .have hk':k<nf:=om;simp only[hkf,hkn,if_false];rw[x.side k hk' e he];have q:∀a,((if pf a=f then(if S' a=true then f else nf)else pf a)==k)=(pf a==k):=λa=>by
     by_cases b:pf a=f
     .have:(pf a==k)=false:=by rw[b];simp;omega
      rw[this];simp only[b,if_true];split<;>simp<;>omega
     .simp[b]
    rw[q,q]
 .intro e he;have hlt:=x.lt e he;constructor<;>(split<;>(try split)<;>omega)
 .intro e he;have hlt:=x.lt e he;have hse:=hS' e he;have hie:=hin e he;have hH:=x.lay e he;have hwe:=hw e he;have h1e:=h1 e he;have h1we:=h1w e he;rw[hH];by_cases a:pf (l e)=f<;>by_cases b:pf (r e)=f
  .have hz:Z f e=false:=by rw[x.side f hf e he];simp[a,b]
   have:w e=Z1 e:=by
    cases hw1:w e
    .cases hz1:Z1 e
     .rfl
     .rcases h1e hz1 with q|q
      .rw[hz]at q;simp at q
      .rw[hw1]at q;simp at q
    .exact(h1we hw1).symm
   rw[this,hse];simp only[a,b,if_true];cases S' (l e)<;>cases S' (r e)<;>simp<;>omega
  .have hw0:w e=false:=by
    cases hw1:w e
    .rfl
    .exact absurd (hwe hw1).2 b
   rw[hw0,if_pos a,if_neg b,a,iV];have b':=Ne.symm b;split
   .rfl
   .rw[bne_iff_ne.2 b',bne_iff_ne.2 (show nf≠pf (r e) by omega)]
  .have hw0:w e=false:=by
    cases hw1:w e
    .rfl
    .exact absurd (hwe hw1).1 a
   rw[hw0,if_neg a,if_pos b,b,iV];split
   .rfl
   .rw[bne_iff_ne.2 a,bne_iff_ne.2 (show pf (l e)≠nf by omega)]
  .have hw0:w e=false:=by
    cases hw1:w e
    .rfl
    .exact absurd (hwe hw1).1 a
   simp[a,b,hw0]
open Go.Blk
variable {g:Gr}{B:List Nat}{Φ:Type}{l r:Nat->Φ}{H:Nat->Bool}{nf:Nat}{Z:Nat->Nat->Bool}{pf:Φ->Nat}
theorem Ext.same(nd:B.Nodup)(d:Dual g B l r)(hb:Bond g B)(x:Ext g B l r H nf Z pf)(hv:∀e∈B,at_ g e v=true->H e=false)(he:e∈B)(hk:k∈B)(hev:at_ g e v=true)(hkv:at_ g k v=true):pf (l e)=pf (l k):=by
 have:=qg nd hb (Y:=λj=>pf (l j)==pf (l e)) (v:=v) (λX hX=>?_) he hk hev hkv
 .simp only[beq_self_eq_true]at this;exact(beq_iff_eq.1 this.symm).symm
 obtain⟨S,hS⟩:=d.one X hX;have h1:=d.two (λa=>S a&&pf a==pf (l e)) v;rw[<-h1];refine bq λj hj=>?_;dsimp only;by_cases hjv:at_ g j v=true
 .have hl:=x.lay j hj;rw[hv j hj hjv]at hl;have hl':pf (l j)=pf (r j):=by simpa using hl.symm
  rw[hS j hj,<-hl'];cases S (l j)<;>cases S (r j)<;>cases pf (l j)==pf (l e)<;>cases at_ g j v<;>rfl
 .have:at_ g j v=false:=by simpa using hjv
  rw[this];simp
theorem Ext.hangs(nd:B.Nodup)(d:Dual g B l r)(hb:Bond g B)(x:Ext g B l r H nf Z pf)(he:e∈B)(hk:k∈B)(hev:at_ g e v=true)(hkv:at_ g k v=true)(hne:H e=false)(hkh:H k=true):∃j∈B,at_ g j v=true/\Z (pf (l e)) j=true:=by
 refine Classical.byContradiction λhno=>?_;have hno':∀j∈B,at_ g j v=true->Z (pf (l e)) j=false:=λj hj hjv=>by
  cases h:Z (pf (l e)) j
  .rfl
  .exact absurd ⟨j,hj,hjv,h⟩ hno
 have hlt:=(x.lt e he).1;have hiff:∀j∈B,at_ g j v=true->(pf (l j)==pf (l e))=(pf (r j)==pf (l e)):=λj hj hjv=>by
  have h1:=hno' j hj hjv;rw[x.side _ hlt j hj]at h1;revert h1;cases pf (l j)==pf (l e)<;>cases pf (r j)==pf (l e)<;>simp
 have:=qg nd hb (Y:=λj=>pf (l j)==pf (l e)) (v:=v) (λX hX=>?_) he hk hev hkv
 .have a:pf (l k)=pf (l e):=by simpa using this.symm
  have b:=hiff k hk hkv;rw[a]at b;have b':pf (r k)=pf (l e):=by simpa using b.symm
  rw[x.lay k hk,a,b']at hkh;simp at hkh
 obtain⟨S,hS⟩:=d.one X hX;have h1:=d.two (λa=>S a&&pf a==pf (l e)) v;rw[<-h1];refine bq λj hj=>?_;dsimp only;by_cases hjv:at_ g j v=true
 .rw[hS j hj,<-hiff j hj hjv];cases S (l j)<;>cases S (r j)<;>cases pf (l j)==pf (l e)<;>cases at_ g j v<;>rfl
 .have:at_ g j v=false:=by simpa using hjv
  rw[this];simp
def jn(g:Gr)(e x y:Nat):Bool:=(g.tl e==x&&g.hd e==y)||(g.tl e==y&&g.hd e==x)
theorem jn_symm:jn g e x y=jn g e y x:=by
 unfold jn;exact Bool.or_comm _ _
theorem jn_iff:jn g e x y=true↔(g.tl e=x/\g.hd e=y)\/(g.tl e=y/\g.hd e=x):=by
 simp[jn]
structure Pln(g:Gr)(B:List Nat):Prop where
 nd:B.Nodup
 lt:∀e∈B,e<g.m
 one:∀e∈B,∀k∈B,∀x y,jn g e x y=true->jn g k x y=true->e=k
theorem Pln.ne(p:Pln g B)(he:e∈B):g.tl e≠g.hd e:=(g.ok e (p.lt e he)).2.2
theorem Pln.jne(p:Pln g B)(he:e∈B)(h:jn g e x y=true):x≠y:=by
 have:=p.ne he;rcases jn_iff.1 h with⟨a,b⟩|⟨a,b⟩<;>omega
theorem Pln.jat(p:Pln g B)(he:e∈B)(h:jn g e x y=true):at_ g e v=((x==v)^^(y==v)):=by
 unfold at_;rcases jn_iff.1 h with⟨a,b⟩|⟨a,b⟩
 .rw[a,b]
 .rw[a,b,kG]
def wk(g:Gr):List Nat->Nat->Bool
 |[],_=>false
 |[_],_=>false
 |x::y::t,e=>jn g e x y^^wk g (y::t) e
def Ch(g:Gr)(B:List Nat):List Nat->Prop
 |[]=>True
 |[_]=>True
 |x::y::t=>(∃e∈B,jn g e x y=true)/\Ch g B (y::t)
def lst:Nat->List Nat->Nat
 |x,[]=>x
 |_,y::t=>lst y t
theorem xH{x y:Nat}:∀{t s:List Nat},lst x (t++y::s)=lst y s
 |[],_=>rfl
 |z::t,s=>by rw[aH,lst];exact xH
theorem tq(p:Pln g B){v:Nat}:∀{x:Nat}{t:List Nat},Ch g B (x::t)->par B (λe=>wk g (x::t) e&&at_ g e v)=((x==v)^^(lst x t==v))
 |x,[],_=>by
   rw[eD λ_ _=>by simp[wk]];simp[lst]
 |x,y::t,h=>by
   obtain⟨⟨e,he,hj⟩,h2⟩:=h;have ih:=tq p (v:=v) h2;rw[bq (q:=λk=>(jn g k x y&&at_ g k v)^^(wk g (y::t) k&&at_ g k v)) (λk _=>by
    simp only[wk];cases jn g k x y<;>cases wk g (y::t) k<;>cases at_ g k v<;>rfl),dY,ih,
    bq (q:=λk=>(k==e)&&at_ g k v) (λk hk=>by
     by_cases hke:k=e
     .subst hke;simp[hj]
     .have:jn g k x y=false:=by
       cases h:jn g k x y
       .rfl
       .exact absurd (p.one k hk e he x y h hj) hke
      simp[this,hke]),dx p.nd he,p.jat he hj]
   simp only[lst];cases x==v<;>cases y==v<;>cases lst y t==v<;>rfl
theorem im{x e:Nat}:∀{a b:List Nat},wk g (a++x::b) e=(wk g (a++[x]) e^^wk g (x::b) e)
 |[],b=>by simp[wk]
 |[y],b=>by simp[wk]
 |y::z::a,b=>by
   have ih:=im (x:=x) (e:=e) (a:=z::a) (b:=b);simp only[aH,wk]at ih |-;rw[ih];cases jn g e y z<;>cases wk g (z::(a++[x])) e<;>cases wk g (x::b) e<;>rfl
theorem iw{x:Nat}:∀{a b:List Nat},Ch g B (a++x::b)↔Ch g B (a++[x])/\Ch g B (x::b)
 |[],b=>by simp[Ch]
 |[y],b=>by simp[Ch]
 |y::z::a,b=>by
   have ih:=iw (x:=x) (a:=z::a) (b:=b);simp only[aH,Ch]at ih |-;rw[ih,and_assoc]
theorem xh{e:Nat}:∀{a:List Nat},wk g a.reverse e=wk g a e
 |[]=>rfl
 |[_]=>rfl
 |x::y::t=>by
   have ih:=xh (e:=e) (a:=y::t);simp only[gO,cn,aH,bz]at ih |-;rw[im,ih,wk,jn_symm];simp[wk,kG]
theorem ym:∀{a:List Nat},Ch g B a.reverse↔Ch g B a
 |[]=>by simp[Ch]
 |[_]=>by simp[Ch]
 |x::y::t=>by
   have ih:=ym (a:=y::t);simp only[gO,cn,aH,bz]at ih |-;rw[iw,ih];simp only[Ch,and_true];rw[and_comm];constructor
   .rintro⟨⟨e,he,h⟩,h2⟩;exact⟨⟨e,he,jn_symm.trans h⟩,h2⟩
   .rintro⟨⟨e,he,h⟩,h2⟩;exact⟨⟨e,he,jn_symm.trans h⟩,h2⟩
theorem mH{e:Nat}:∀{a:List Nat},wk g a e=true->∃p x y q,a=p++x::y::q/\jn g e x y=true
 |[],h=>by simp[wk]at h
 |[_],h=>by simp[wk]at h
 |x::y::t,h=>by
   by_cases hj:jn g e x y=true
   .exact⟨[],x,y,t,rfl,hj⟩
   .have hj':jn g e x y=false:=by simpa using hj
    rw[wk,hj',dv]at h;obtain⟨p,a,b,q,h1,h2⟩:=mH h;exact⟨x::p,a,b,q,by rw[h1];rfl,h2⟩
theorem yG(p:Pln g B)(he:e∈B)(h:wk g a e=true)(hv:at_ g e v=true):v∈a:=by
 obtain⟨s,x,y,q,rfl,hj⟩:=mH h;rw[p.jat he hj]at hv;by_cases a:x=v
 .subst a;simp
 by_cases b:y=v
 .subst b;simp
 rw[beq_eq_false_iff_ne.2 a,beq_eq_false_iff_ne.2 b]at hv;cases hv
theorem kN(p:Pln g B)(he:e∈B)(hv:at_ g e v=true)(h:v∉a):wk g a e=false:=by
 cases hw:wk g a e
 .rfl
 .exact absurd (yG p he hw hv) h
def cy(g:Gr):List Nat->Nat->Bool
 |[],_=>false
 |x::t,e=>wk g (x::t++[x]) e
def Cc(g:Gr)(B:List Nat):List Nat->Prop
 |[]=>False
 |x::t=>Ch g B (x::t++[x])/\(x::t).Nodup/\3<=(x::t).length
theorem qV:cy g (a++b) e=cy g (b++a) e:=by
 cases a with
 |nil=>simp
 |cons x a =>
   cases b with
   |nil=>simp
   |cons y b =>
     show wk g (x::(a++y::b)++[x]) e=wk g (y::(b++x::a)++[y]) e;have h1:x::(a++y::b)++[x]=(x::a)++y::(b++[x]):=by simp
     have h2:y::(b++x::a)++[y]=(y::b)++x::(a++[y]):=by simp
     rw[h1,h2,im,im (x:=x),kG];rfl
theorem px(h:Cc g B (a++b)):Cc g B (b++a):=by
 cases a with
 |nil=>simpa using h
 |cons x a =>
   cases b with
   |nil=>simpa using h
   |cons y b =>
     obtain⟨h1,h2,h3⟩:=h;have e1:x::(a++y::b)++[x]=(x::a)++y::(b++[x]):=by simp
     have e2:y::(b++x::a)++[y]=(y::b)++x::(a++[y]):=by simp
     refine⟨?_,?_,?_⟩
     .show Ch g B (y::(b++x::a)++[y]);change Ch g B (x::(a++y::b)++[x])at h1;rw[e1,iw]at h1;rw[e2,iw];exact⟨h1.2,h1.1⟩
     .exact(jt (l₁:=x::a) (l₂:=y::b)).nodup h2
     .simp at h3;show 3<=(y::(b++x::a)).length;simp;omega
theorem jj(p:Pln g B)(h:Cc g B c):Even g B (cy g c):=by
 cases c with
 |nil=>exact h.elim
 |cons x t =>
   intro v;have:=tq p (v:=v) (x:=x) (t:=t++[x]) h.1;rw[xH]at this;simp only[lst,kD]at this;exact this
theorem wP(p:Pln g B){z:Nat}(hc:Cc g B (y::z::(s++[x]))){Y:Nat->Bool}(hY:par B (λe=>Y e&&at_ g e y)=false)(hs:∀e∈B,Y e=true->cy g (y::z::(s++[x])) e=true)(he:e∈B)(hk:k∈B)(hje:jn g e x y=true)(hjk:jn g k y z=true):Y e=Y k:=by
 obtain⟨_,hn,_⟩:=hc;have hxz:x≠z:=by
  intro h;subst h;simp[aX]at hn
 have hek:e≠k:=by
  intro h;subst h;have:=p.ne he;rcases jn_iff.1 hje with⟨a,b⟩|⟨a,b⟩<;>rcases jn_iff.1 hjk with⟨c,d⟩|⟨c,d⟩<;>omega
 have h1:=hY;rw[bq (q:=λj=>((j==e)&&Y j)^^((j==k)&&Y j)) (λj hj=>by
  by_cases hjv:at_ g j y=true
  .rw[hjv,fA];by_cases a:j=e
   .subst a;have:(j==k)=false:=by simp[hek]
    simp[this]
   .by_cases b:j=k
    .subst b;have:(j==e)=false:=by simp[a]
     simp[this]
    .have:Y j=false:=by
      cases hy:Y j
      .rfl
      .have hz:=hs j hj hy;have e1:y::z::(s++[x])++[y]=y::z::(s++[x,y]):=by simp
       change wk g (y::z::(s++[x])++[y]) j=true at hz;rw[e1,wk]at hz;have e2:z::(s++[x,y])=(z::s)++x::[y]:=by simp
       rw[e2,im]at hz;have n1:jn g j y z=false:=by
        cases h:jn g j y z
        .rfl
        .exact absurd (p.one j hj k hk y z h hjk) b
       have n2:jn g j x y=false:=by
        cases h:jn g j x y
        .rfl
        .exact absurd (p.one j hj e he x y h hje) a
       have n3:wk g (z::s++[x]) j=false:=kN p hj hjv (by
        simp only[aX]at hn;simpa using hn.1)
       rw[n1,n3]at hz;simp[wk,n2]at hz
     simp[this]
  .have a:j≠e:=λq=>hjv (by rw[q,p.jat he hje];simp[p.jne he hje]);have b:j≠k:=λq=>hjv (by rw[q,p.jat hk hjk];simp[Ne.symm (p.jne hk hjk)]);have c:at_ g j y=false:=by simpa using hjv
   rw[c,beq_eq_false_iff_ne.2 a,beq_eq_false_iff_ne.2 b];simp),dY,dx p.nd he,dx p.nd hk]at h1
 cases hy:Y e<;>cases hy':Y k<;>simp[hy,hy']at h1 |-
def ro:List Nat->List Nat
 |[]=>[]
 |x::t=>t++[x]
theorem AX:∀{p q:List Nat},Nat.repeat ro p.length (p++q)=q++p
 |[],q=>by simp[Nat.repeat]
 |x::p,q=>by
   have:∀n (c:List Nat),Nat.repeat ro (n+1) c=Nat.repeat ro n (ro c):=by
    intro n;induction n with
    |zero=>intro c;rfl
    |succ n ih=>intro c;rw[Nat.repeat,ih];rfl
   rw[aA,this];show Nat.repeat ro p.length (p++q++[x])=_;rw[cn,AX];simp
theorem cc_ro(h:Cc g B c):Cc g B (ro c):=by
 cases c with
 |nil=>exact h
 |cons x t=>exact px (a:=[x]) h
theorem ME:cy g (ro c) e=cy g c e:=by
 cases c with
 |nil=>rfl
 |cons x t=>exact(qV (a:=[x]) (b:=t)).symm
theorem Dh(p:Pln g B)(hc:Cc g B c):Circ g B (cy g c):=by
 refine⟨jj p hc,λY hY hs=>?_⟩;have first:∀n,∃y z s,Nat.repeat ro n c=y::z::s/\s≠[]/\Cc g B (y::z::s)/\(∀e∈B,cy g (y::z::s) e=cy g c e):=by
  intro n;have h1:Cc g B (Nat.repeat ro n c)/\∀e,cy g (Nat.repeat ro n c) e=cy g c e:=by
   induction n with
   |zero=>exact⟨hc,λ_=>rfl⟩
   |succ n ih=>exact⟨cc_ro ih.1,λe=>(ME).trans (ih.2 e)⟩
  revert h1;generalize Nat.repeat ro n c=d;intro h1
  match d,h1 with
  |[],h1=>exact h1.1.elim
  |[_],h1=>have:=h1.1.2.2;simp at this
  |[_,_],h1=>have:=h1.1.2.2;simp at this
  |y::z::w::s,h1=>exact⟨y,z,w::s,rfl,by simp,h1.1,λe _=>h1.2 e⟩
 have same:∀n,∀y z s,Nat.repeat ro n c=y::z::s->∀e∈B,jn g e y z=true->∀y0 z0 s0,c=y0::z0::s0->∀e0∈B,jn g e0 y0 z0=true->Y e=Y e0:=by
  intro n;induction n with
  |zero =>
    intro y z s h e he hj y0 z0 s0 h0 e0 he0 hj0;change c=_ at h;rw[h0]at h;injection h with a b;injection b with b c;subst a b;rw[p.one e he e0 he0 _ _ hj hj0]
  |succ n ih =>
    intro y z s h e he hj y0 z0 s0 h0 e0 he0 hj0;obtain⟨x,w,t,h1,h2,h3,h4⟩:=first n
    rw[Nat.repeat,h1]at h;change w::t++[x]=_ at h;rw[aH]at h;injection h with a b;subst a;obtain⟨⟨e1,he1,hj1⟩,_⟩:=h3.1;rw[<-ih x w t h1 e1 he1 hj1 y0 z0 s0 h0 e0 he0 hj0];cases t with
    |nil=>exact absurd rfl h2
    |cons q t =>
      rw[aH]at b;injection b with b b';subst b;have hcc:Cc g B (w::q::(t++[x])):=px (a:=[x]) (b:=w::q::t) h3;refine(wP p hcc (hY _) (λk hk hy=>?_) he1 he hj1 hj).symm;rw[show w::q::(t++[x])=ro (x::w::q::t) from rfl,ME,h4 k hk];exact hs k hk hy
 obtain⟨y0,z0,s0,h0,h0',h0c,_⟩:=first 0
 change c=_ at h0;obtain⟨⟨e0,he0,hj0⟩,_⟩:=h0c.1;have all:∀e∈B,cy g c e=true->Y e=Y e0:=by
  intro e he hz;subst h0;obtain⟨a,u,w,b,hab,hj⟩:=mH (show wk g (y0::z0::s0++[y0]) e=true from hz);rcases cT b with rfl|⟨b',q,rfl⟩
  .have h2:(y0::z0::s0)++[y0]=(a++[u])++[w]:=by rw[hab];simp
   obtain⟨h3,h4⟩:=dP h2 rfl;injection h4 with h4;subst h4;cases a with
   |nil=>simp at h3
   |cons v a =>
     rw[aH]at h3;injection h3 with h5 h6;subst h5;have h7:=AX (p:=y0::a) (q:=[u]);rw[aH,<-h6]at h7;exact same _ u y0 a h7 e he hj y0 z0 s0 rfl e0 he0 hj0
  .have h2:(y0::z0::s0)++[y0]=(a++u::w::b')++[q]:=by rw[hab];simp
   obtain⟨h3,_⟩:=dP h2 rfl;have h7:=AX (p:=a) (q:=u::w::b');rw[<-h3]at h7;exact same _ u w (b'++a) (by rw[h7];simp) e he hj y0 z0 s0 rfl e0 he0 hj0
 cases hy:Y e0
 .refine .inl λe he=>?_;cases h:Y e
  .rfl
  .rw[<-h,all e he (hs e he h),hy]
 .refine .inr λe he=>?_;cases h:cy g c e
  .cases h':Y e
   .rfl
   .rw[hs e he h']at h;exact absurd h (by simp)
  .rw[all e he h,hy]
open Go.Blk
variable {g:Gr}{B:List Nat}
theorem Mm(p:Pln g B)(he:e∈B)(h:wk g (u::t++[w]) e=true)(ht:t≠[]):∃v∈t,at_ g e v=true:=by
 obtain⟨s,a,b,q,h1,hj⟩:=mH h;have ha:at_ g e a=true:=by rw[p.jat he hj];simp[Ne.symm (p.jne he hj)]
 have hb:at_ g e b=true:=by rw[p.jat he hj];simp[p.jne he hj]
 cases s with
 |nil =>
   cases t with
   |nil=>exact absurd rfl ht
   |cons z t =>
     simp only[bz,aH]at h1;injection h1 with _ h1;injection h1 with h1 _;exact⟨z,by simp,h1▸hb⟩
 |cons z s =>
   simp only[aH]at h1;injection h1 with _ h1;refine⟨a,?_,ha⟩;have:(s++a::b::q).dropLast=t:=by rw[<-h1];simp
   rw[<-this];rw[show s++a::b::q=(s++[a])++(b::q) by simp,eM (by simp)];simp
theorem lu(p:Pln g B){u:Nat}(hc:Cc g B (u::t1++w::t2))(he:e∈B)(h:wk g (u::t1++[w]) e=true):cy g (u::t1++w::t2) e=true:=by
 obtain⟨_,hn,hl⟩:=hc;change (u::(t1++w::t2)).Nodup at hn;show wk g (u::(t1++w::t2)++[u]) e=true;rw[show u::(t1++w::t2)++[u]=(u::t1)++w::(t2++[u]) by simp,im];rw[h];have:wk g (w::(t2++[u])) e=false:=by
  by_cases ht:t1=[]
  .cases h2:wk g (w::(t2++[u])) e
   .rfl
   subst ht;have ht2:t2≠[]:=by
    intro h3;subst h3;simp at hl
   obtain⟨v,hv,hev⟩:=Mm p (u:=w) (t:=t2) (w:=u) he h2 ht2;have:=yG p he h hev;simp only[aX,bz]at hn;simp only[aH,bz,aw,aZ,or_false]at this;rcases this with rfl|rfl
   .exact absurd (aV _ hv) hn.1
   .exact absurd hv hn.2.1
  .obtain⟨v,hv,hev⟩:=Mm p he h ht;refine kN p he hev ?_;intro hm;simp only[aw,aC,aZ,or_false]at hm;rw[aX,aS]at hn;rcases hm with rfl|hm|rfl
   .exact hn.2.2.2 _ hv _ (by simp) rfl
   .exact hn.2.2.2 _ hv _ (aV _ hm) rfl
   .exact hn.1 (by simp[hv])
 rw[this];rfl
def Rot(c d:List Nat):Prop:=∃a b,c=a++b/\d=b++a
theorem Rot.cy(h:Rot c d)(e:Nat):cy g d e=cy g c e:=by
 obtain⟨a,b,rfl,rfl⟩:=h;exact qV
theorem Rot.cc(h:Rot c d)(hc:Cc g B c):Cc g B d:=by
 obtain⟨a,b,rfl,rfl⟩:=h;exact px hc
theorem Rot.mem(h:Rot c d):x∈d↔x∈c:=by
 obtain⟨a,b,rfl,rfl⟩:=h;simp[or_comm]
theorem xq{x:Nat}(h:x∈c):∃t,Rot c (x::t):=by
 obtain⟨a,b,rfl⟩:=bT h;exact⟨b++a,a,x::b,rfl,rfl⟩
theorem CE{x:Nat}(hx:x∈c)(hy:y∈c)(hne:x≠y):∃s t,Rot c (x::s++y::t):=by
 obtain⟨t,h⟩:=xq hx;have:y∈t:=by
  have:=h.mem.2 hy;simpa[Ne.symm hne]using this
 obtain⟨s,t',rfl⟩:=bT this;exact⟨s,t',h⟩
theorem ji(p:Pln g B){x:Nat}(hc:Cc g B (x::y::s))(he:e∈B)(hj:jn g e x y=true):cy g (x::y::s) e=true:=by
 have:=lu p (u:=x) (t1:=[]) (w:=y) (t2:=s) hc he (by simp[wk,hj]);exact this
theorem cy_at(p:Pln g B)(hc:Cc g B c)(hx:x∈c):∃e∈B,at_ g e x=true/\cy g c e=true:=by
 obtain⟨t,h⟩:=xq hx;have hcc:=h.cc hc;cases t with
 |nil=>have:=hcc.2.2;simp at this
 |cons y s =>
   obtain⟨⟨e,he,hj⟩,_⟩:=hcc.1;exact⟨e,he,by rw[p.jat he hj];simp[Ne.symm (p.jne he hj)],by rw[<-h.cy,ji p hcc he hj]⟩
theorem An(p:Pln g B)(he:e∈B)(h:cy g c e=true)(hx:at_ g e x=true):x∈c:=by
 cases c with
 |nil=>simp[cy]at h
 |cons y t =>
   have:=yG p he h hx;simp only[aH,aw,aC,aZ,or_false]at this;rcases this with rfl|h|rfl<;>simp[*]
structure Lay(g:Gr)(B:List Nat)(H:Nat->Bool)(nf:Nat)(fc:Nat->List Nat):Prop where
 circ:∀f,f<nf->Cc g B (fc f)
 two:∀e∈B,H e=true->∃a b,a<nf/\b<nf/\a≠b/\∀f,f<nf->cy g (fc f) e=((f==a)||(f==b))
 none:∀e∈B,H e=false->∀f,f<nf->cy g (fc f) e=false
 span:∀X,Even g B X->(∀e∈B,X e=true->H e=true)->∃T:Nat->Bool,∀e∈B,X e=par (List.range nf) (λf=>T f&&cy g (fc f) e)
 bond:∀v e k,e∈B->k∈B->H e=true->H k=true->at_ g e v=true->at_ g k v=true->e≠k->∃X,Even g B X/\(∀j∈B,X j=true->H j=true)/\∀j∈B,H j=true->at_ g j v=true->X j=((j==e)||(j==k))
variable {H:Nat->Bool}{nf:Nat}{fc:Nat->List Nat}
theorem pO{a b:Nat}(ha:a<nf)(hb:b<nf)(hne:a≠b)(T:Nat->Bool):par (List.range nf) (λf=>T f&&((f==a)||(f==b)))=(T a^^T b):=by
 rw[bq (q:=λf=>((f==a)&&T f)^^((f==b)&&T f)) (λf _=>by
  by_cases h:f=a
  .subst h;rw[beq_eq_false_iff_ne.2 hne];simp
  .rw[beq_eq_false_iff_ne.2 h];cases T f<;>cases f==b<;>rfl),dY,dx aY (by simpa using ha),dx aY (by simpa using hb)]
theorem Lay.orth(L:Lay g B H nf fc)(hK:∀f,f<nf->par B (λe=>K e&&cy g (fc f) e)=false)(hX:Even g B X)(hs:∀e∈B,X e=true->H e=true):par B (λe=>K e&&X e)=false:=by
 obtain⟨T,hT⟩:=L.span X hX hs;rw[bq (q:=λe=>par (List.range nf) (λf=>T f&&(K e&&cy g (fc f) e))) (λe he=>by
  rw[hT e he,<-hU];exact bq λf _=>by cases K e<;>cases T f<;>rfl),jO]
 exact eD λf hf=>by
  rw[hU,hK f (by simpa using hf)];simp
theorem Lay.hcy(L:Lay g B H nf fc)(hf:f<nf)(he:e∈B)(h:cy g (fc f) e=true):H e=true:=by
 cases hh:H e
 .rw[L.none e he hh f hf]at h;cases h
 .rfl
def Rch(g:Gr)(B:List Nat)(H:Nat->Bool)(nf:Nat)(fc:Nat->List Nat)(x f o h:Nat):Prop :=
 ∃α:Nat->Bool,(∀e∈B,α e=true->H e=true/\at_ g e x=true)/\(∀e∈B,α e=true->o<nf->cy g (fc o) e=false)/\∀k,k<nf->par B (λe=>α e&&cy g (fc k) e)=((k==f)^^(k==h))
theorem zb(p:Pln g B)(L:Lay g B H nf fc){h h2:Nat}(hr:Rch g B H nf fc x f o h)(hh:h<nf)(hh2:h2<nf)(hne:h≠h2)(ho:o≠h)(ho2:o≠h2)(he:e∈B)(hex:at_ g e x=true)(h1:cy g (fc h) e=true)(h3:cy g (fc h2) e=true):Rch g B H nf fc x f o h2:=by
 obtain⟨α,a,b,c⟩:=hr;have heH:=L.hcy hh he h1;obtain⟨u,w,hu,hw,huw,hq⟩:=L.two e he heH;rw[hq h hh]at h1;rw[hq h2 hh2]at h3;simp only[dn,beq_iff_eq]at h1 h3;have hq':∀k,k<nf->cy g (fc k) e=((k==h)^^(k==h2)):=λk hk=>by
  rw[hq k hk];have:(u=h/\w=h2)\/(u=h2/\w=h):=om;rcases this with⟨rfl,rfl⟩|⟨rfl,rfl⟩
  .by_cases q:k=u
   .subst q;simp[huw]
   .rw[beq_eq_false_iff_ne.2 q];cases k==w<;>rfl
  .by_cases q:k=u
   .subst q;simp[huw]
   .rw[beq_eq_false_iff_ne.2 q];cases k==w<;>rfl
 refine⟨λj=>α j^^(j==e),λj hj hα=>?_,λj hj hα hon=>?_,λk hk=>?_⟩<;>dsimp only at *
 .by_cases hje:j=e
  .subst hje;exact⟨heH,hex⟩
  .rw[beq_eq_false_iff_ne.2 hje,cV]at hα;exact a j hj hα
 .by_cases hje:j=e
  .subst hje;rw[hq' o hon,beq_eq_false_iff_ne.2 ho,beq_eq_false_iff_ne.2 ho2];rfl
  .rw[beq_eq_false_iff_ne.2 hje,cV]at hα;exact b j hj hα hon
 .rw[bq (q:=λj=>(α j&&cy g (fc k) j)^^((j==e)&&cy g (fc k) j)) (λj _=>by
   cases α j<;>cases j==e<;>cases cy g (fc k) j<;>rfl),dY,c k hk,dx p.nd he,hq' k hk]
  cases k==f<;>cases k==h<;>cases k==h2<;>rfl
open Classical in
theorem MJ(p:Pln g B)(L:Lay g B H nf fc)(hf:f<nf)(hf':f'<nf)(hne:f≠f')(ho:o≠f)(ho':o≠f')(hx:x∈fc f)(hx':x∈fc f'):Rch g B H nf fc x f o f':=by
 refine Classical.byContradiction λhno=>?_;have r0:Rch g B H nf fc x f o f:=⟨λ_=>false,λ_ _ h=>(by cases h),λ_ _ h=>(by cases h),λk _=>(eD λ_ _=>rfl).trans (by simp)⟩
 obtain⟨Y,hY⟩:∃Y:Nat->Bool,∀e,Y e=true↔at_ g e x=true/\∃h,h<nf/\h≠o/\Rch g B H nf fc x f o h/\cy g (fc h) e=true :=
  ⟨λe=>decide (at_ g e x=true/\∃h,h<nf/\h≠o/\Rch g B H nf fc x f o h/\cy g (fc h) e=true),λe=>by simp⟩
 have main:∀k,k<nf->k≠o->par B (λe=>Y e&&cy g (fc k) e)=false:=by
  intro k hk hko;by_cases hr:Rch g B H nf fc x f o k
  .rw[<-jj p (L.circ k hk) x];refine bq λe he=>?_;by_cases hc:cy g (fc k) e=true
   .by_cases ha:at_ g e x=true
    .rw[hc,ha,(hY e).2 ⟨ha,k,hk,hko,hr,hc⟩]
    .have:Y e=false:=by
      cases hy:Y e
      .rfl
      .exact absurd ((hY e).1 hy).1 ha
     have ha':at_ g e x=false:=by simpa using ha
     rw[this,ha',hc];rfl
   .have:cy g (fc k) e=false:=by simpa using hc
    rw[this];simp
  .refine eD λe he=>?_;cases hy:Y e
   .rfl
   cases hc:cy g (fc k) e
   .rfl
   obtain⟨ha,h,hh,hho,hr',hc'⟩:=(hY e).1 hy;exact absurd (zb p L hr' hh hk (λq=>hr (q▸hr')) (Ne.symm hho) (Ne.symm hko) he ha hc' hc) hr
 have mainO:∀k,k<nf->par B (λe=>Y e&&cy g (fc k) e)=false:=by
  intro k hk;by_cases hko:k=o
  .subst hko;have h1:par (List.range nf) (λh=>par B (λe=>Y e&&cy g (fc h) e))=false:=by
    rw[jO];refine eD λe he=>?_;rw[hU];have:par (List.range nf) (λh=>cy g (fc h) e)=false:=by
     cases hH:H e
     .exact eD λh hh=>L.none e he hH h (by simpa using hh)
     .obtain⟨u,w,hu,hw,huw,hq⟩:=L.two e he hH;rw[bq (q:=λh=>true&&((h==u)||(h==w))) (λh hh=>by rw[hq h (by simpa using hh)];rfl),pO hu hw huw];rfl
    rw[this];simp
   rw[bq (q:=λh=>(h==k)&&par B (λe=>Y e&&cy g (fc h) e)) (λh hh=>by
    by_cases hk':h=k
    .subst hk';simp
    .rw[main h (by simpa using hh) hk'];simp),dx aY (by simpa using hk)]at h1
   exact h1
  .exact main k hk hko
 obtain⟨e,he,hex,hce⟩:=cy_at p (L.circ f hf) hx;obtain⟨k,hk,hkx,hck⟩:=cy_at p (L.circ f' hf') hx';have hYe:Y e=true:=(hY e).2 ⟨hex,f,hf,Ne.symm ho,r0,hce⟩;have hYk:Y k=true:=by
  by_cases hek:e=k
  .rw[<-hek];exact hYe
  obtain⟨X,hX,hXH,hXj⟩:=L.bond x e k he hk (L.hcy hf he hce) (L.hcy hf' hk hck) hex hkx hek;have h1:=L.orth mainO hX hXH;rw[bq (q:=λj=>((j==e)&&Y j)^^((j==k)&&Y j)) (λj hj=>by
   cases hy:Y j
   .simp
   obtain⟨ha,h,hh,_,_,hc⟩:=(hY j).1 hy;rw[hXj j hj (L.hcy hh hj hc) ha];by_cases q:j=e
   .subst q;simp[hek]
   .rw[beq_eq_false_iff_ne.2 q];cases j==k<;>rfl),dY,dx p.nd he,dx p.nd hk,hYe]at h1
  simpa using h1
 obtain⟨_,h,hh,hho,hr,hc⟩:=(hY k).1 hYk;by_cases q:h=f'
 .exact hno (q▸hr)
 .exact hno (zb p L hr hh hf' q (Ne.symm hho) ho' hk hkx hc hck)
theorem JC{C:Nat->Bool}:par B (λe=>K e&&(A e^^C e))=(par B (λe=>K e&&A e)^^par B (λe=>K e&&C e)):=by
 rw[<-dY];exact bq λe _=>by cases K e<;>cases A e<;>cases C e<;>rfl
theorem sL{C:Nat->Bool}:par B (λe=>(A e^^C e)&&K e)=(par B (λe=>A e&&K e)^^par B (λe=>C e&&K e)):=by
 rw[<-dY];exact bq λe _=>by cases K e<;>cases A e<;>cases C e<;>rfl
theorem Ax(p:Pln g B){u:Nat}(h:Ch g B (u::t++[w])):par B (λe=>wk g (u::t++[w]) e&&at_ g e v)=((u==v)^^(w==v)):=by
 have:=tq p (v:=v) (x:=u) (t:=t++[w]) h;rw[xH]at this;exact this
theorem xe(p:Pln g B){u:Nat}(h:Ch g B (u::t++[w]))(h':Ch g B (u::s++[w])):Even g B (λe=>wk g (u::t++[w]) e^^wk g (u::s++[w]) e):=λv=>by
 rw[bq (q:=λe=>(wk g (u::t++[w]) e&&at_ g e v)^^(wk g (u::s++[w]) e&&at_ g e v)) (λe _=>by
  dsimp only;cases wk g (u::t++[w]) e<;>cases wk g (u::s++[w]) e<;>cases at_ g e v<;>rfl),dY,Ax p h,Ax p h',kD]
theorem Cc.arc{u:Nat}(hc:Cc g B (u::t1++w::t2)):Ch g B (u::t1++[w]):=by
 have h:=hc.1;change Ch g B (u::(t1++w::t2)++[u])at h;rw[show u::(t1++w::t2)++[u]=(u::t1)++w::(t2++[u]) by simp,iw]at h;exact h.1
theorem MF(p:Pln g B)(L:Lay g B H nf fc){u:Nat}(hf:f<nf)(hf':f'<nf)(hne:f≠f')(ho:o≠f)(ho':o≠f')(hx:x∈fc f')(hy:y∈fc f')(hr:Rot (fc f) (x::s1++u::s2++y::s3++w::s4)){C:List Nat}(hC:Ch g B (u::C++[w]))(hCH:∀e∈B,wk g (u::C++[w]) e=true->H e=true)
 (hav:∀e∈B,(at_ g e x=true\/at_ g e y=true)->wk g (u::C++[w]) e=true->o<nf/\cy g (fc o) e=true):False:=by
 have hcc:=hr.cc (L.circ f hf);have hnd:(x::s1++u::s2++y::s3++w::s4).Nodup:=hcc.2.1;have hr':Rot (fc f) (u::(s2++y::s3)++w::(s4++x::s1)):=by
  obtain⟨a,b,h1,h2⟩:=hr;have:Rot (x::s1++u::s2++y::s3++w::s4) (u::(s2++y::s3)++w::(s4++x::s1)):=⟨x::s1,u::s2++y::s3++w::s4,by simp,by simp⟩
  obtain⟨c,d,h3,h4⟩:=this;rw[h2]at h3;rcases List.append_eq_append_iff.1 h3 with⟨q,h5,h6⟩|⟨q,h5,h6⟩
  .exact⟨q,d++b,by rw[h1,h6];simp[h5,h6]<;>skip,by rw[h4,h5];simp⟩
  .exact⟨a++c,q,by rw[h1,h5];simp,by rw[h4,h6];simp⟩
 have hcc':=hr'.cc (L.circ f hf);have hxf:x∈fc f:=hr.mem.1 (by simp);have hyf:y∈fc f:=hr.mem.1 (by simp);obtain⟨α,a1,a2,a3⟩:=MJ p L hf hf' hne ho ho' hxf hx;obtain⟨β,b1,b2,b3⟩:=MJ p L hf hf' hne ho ho' hyf hy;have hA:=hcc'.arc;have hev:=xe p hA hC;have hsub:∀e∈B,(wk g (u::(s2++y::s3)++[w]) e^^wk g (u::C++[w]) e)=true->H e=true:=by
  intro e he h;by_cases q:wk g (u::C++[w]) e=true
  .exact hCH e he q
  .have q':wk g (u::C++[w]) e=false:=by simpa using q
   rw[q',cV]at h;exact L.hcy hf he (by rw[<-hr'.cy];exact lu p hcc' he h)
 have h0:=L.orth (K:=λe=>α e^^β e) (λk hk=>by
  rw[sL,a3 k hk,b3 k hk,kD]) hev hsub
 have hxn:x∉u::(s2++y::s3)++[w]:=by
  intro hm;rw[show x::s1++u::s2++y::s3++w::s4=(x::s1)++((u::(s2++y::s3)++[w])++s4) by simp,aS]at hnd;exact hnd.2.2 x (by simp) x (aW _ hm) rfl
 have c1:par B (λe=>α e&&wk g (u::(s2++y::s3)++[w]) e)=false:=eD λe he=>by
  cases h:α e
  .rfl
  .rw[kN p he (a1 e he h).2 hxn];rfl
 have c2:par B (λe=>α e&&wk g (u::C++[w]) e)=false:=eD λe he=>by
  cases h:α e
  .rfl
  cases h':wk g (u::C++[w]) e
  .rfl
  obtain⟨q1,q2⟩:=hav e he (.inl (a1 e he h).2) h';rw[a2 e he h q1]at q2;cases q2
 have c3:par B (λe=>β e&&wk g (u::C++[w]) e)=false:=eD λe he=>by
  cases h:β e
  .rfl
  cases h':wk g (u::C++[w]) e
  .rfl
  obtain⟨q1,q2⟩:=hav e he (.inr (b1 e he h).2) h';rw[b2 e he h q1]at q2;cases q2
 have c4:par B (λe=>β e&&wk g (u::(s2++y::s3)++[w]) e)=true:=by
  have h1:=b3 f hf;rw[beq_self_eq_true,beq_eq_false_iff_ne.2 hne]at h1;rw[<-show _=true from h1];refine bq λe he=>?_;cases h:β e
  .rfl
  have hey:=(b1 e he h).2;rw[<-hr'.cy];show(true&&_)=(true&&wk g (u::((s2++y::s3)++w::(s4++x::s1))++[u]) e)
  rw[show u::((s2++y::s3)++w::(s4++x::s1))++[u]=(u::(s2++y::s3))++w::(s4++x::s1++[u]) by simp,im (b:=s4++x::s1++[u]),kN (a:=w::(s4++x::s1++[u])) p he hey,cV];intro hm;have hp:(y::(u::s2++s3++w::s4++x::s1)).Nodup:=by
   refine(List.Perm.nodup (l:=x::s1++u::s2++y::s3++w::s4) ?_ hnd);have e1:x::s1++u::s2++y::s3++w::s4=(x::s1++u::s2)++y::(s3++w::s4):=by simp
   rw[e1];refine List.perm_middle.trans (List.Perm.cons _ ?_);have e2:u::s2++s3++w::s4++x::s1=(u::s2++(s3++w::s4))++x::s1:=by simp
   rw[e2];refine List.Perm.trans ?_ jt;simp
  rw[aX]at hp;apply hp.1;simp only[aw,aC,aZ,or_false,aH,cn]at hm |-;rcases hm with h|h|h|h|h<;>simp[h]
 rw[bq (q:=λe=>(α e^^β e)&&(wk g (u::(s2++y::s3)++[w]) e^^wk g (u::C++[w]) e)) (λ_ _=>rfl),JC,sL,sL,c1,c2,c3,c4]at h0;cases h0
theorem Hx(p:Pln g B)(L:Lay g B H nf fc)(hf:f<nf)(hf':f'<nf)(ho:o<nf)(hne:f≠f')(hof:o≠f)(hof':o≠f')(hx:x∈fc f')(hy:y∈fc f')(hu:u∈fc o)(hw:w∈fc o)(hr:Rot (fc f) (x::s1++u::s2++y::s3++w::s4)):False:=by
 have hnd:(x::s1++u::s2++y::s3++w::s4).Nodup:=(hr.cc (L.circ f hf)).2.1;have huw:u≠w:=by
  intro h;subst h;rw[show x::s1++u::s2++y::s3++u::s4=(x::s1)++((u::s2++y::s3)++u::s4) by simp,aS,aS]at hnd;exact hnd.2.1.2.2 u (by simp) u (by simp) rfl
 obtain⟨t1,t2,hr2⟩:=CE hu hw huw;have hcc2:=hr2.cc (L.circ o ho);have hin:∀e∈B,wk g (u::t1++[w]) e=true->cy g (fc o) e=true:=λe he h=>by
  rw[<-hr2.cy];exact lu p hcc2 he h
 exact MF p L hf hf' hne hof hof' hx hy hr hcc2.arc (λe he h=>L.hcy ho he (hin e he h)) (λe he _ h=>⟨ho,hin e he h⟩)
theorem tf(p:Pln g B)(L:Lay g B H nf fc)(hf:f<nf)(hf':f'<nf)(hne:f≠f')(hx:x∈fc f')(hy:y∈fc f')(hr:Rot (fc f) (x::s1++u::s2++y::s3++w::s4))(hr':Rot (fc f') (u::t1++w::t2))(hx1:x∉u::t1++[w])(hy1:y∉u::t1++[w]):False:=by
 have hcc2:=hr'.cc (L.circ f' hf');refine MF p L (o:=nf) hf hf' hne om om hx hy hr hcc2.arc (λe he h=>L.hcy hf' he (by rw[<-hr'.cy];exact lu p hcc2 he h)) (λe he ha h=>?_);rcases ha with ha|ha
 .rw[kN p he ha hx1]at h;cases h
 .rw[kN p he ha hy1]at h;cases h
end Go.Pla
