/- The search in depth, whole -/
import Derived.Test.YtklpoimdclflmaaGreatDoorTTAM
set_option linter.all false
namespace Go.Blk
variable {L an:List Nat}{by_:Option Nat}{f i x:Nat}
variable {g:Gr}
def unm_pos{s:DS}(hx:x<g.n)(h:s.num x=0):0<unm g s:=by
 unfold unm;rw[kV];exact⟨x,aX.2 hx,by simp[h]⟩
def visit_good{ends:Nat->List Nat}{sort:List Nat->List Nat}(hends:∀x,x<g.n->(ends x).Nodup/\∀i,i∈ends x↔g.inc i x)(hsort:∀l,(sort l).Perm l):∀f,Good g (visit g ends sort f) f
 |0=>λan x by_ s p hf=>by
   have:=unm_pos p.hx p.x0;omega
 |f+1=>λan x by_ s p hf=>by
   have ih:=visit_good hends hsort f;obtain⟨e1,e2⟩:=hends x p.hx
   have fold:∀(l L:List Nat) (s1:DS) (new:List Nat) (bs:List (List Nat)),Mid g x by_ s L s1 new bs->L++l=ends x ->
    ∃new' bs',Mid g x by_ s (L++l) (l.foldl (edgeS g sort (λy i s=>visit g ends sort f y (some i) s) x by_) s1) new' bs':=by
    intro l;induction l with
    |nil=>intro L s1 new bs m _;exact⟨new,bs,by rw[bF];exact m⟩
    |cons i l ihl =>
      intro L s1 new bs m hL;have hi:g.inc i x:=(e2 i).1 (by rw[<-hL];simp);have hiL:i∉L:=by
       rw[<-hL,bQ]at e1;exact λh=>e1.2.2 i h i (aM ..) rfl
      obtain⟨oi,one,oo⟩:=inc_oth hi;have step:∃new' bs',Mid g x by_ s (L++[i]) (edgeS g sort (λy i s=>visit g ends sort f y (some i) s) x by_ s1 i) new' bs':=by
       unfold edgeS;by_cases hb:by_=some i
       .rw[if_pos hb];refine⟨new,bs,rL m hi ?_ (.inl hb)⟩;exact m.toCom.met (p.gray _ (p.by1 i hb).2)
       .rw[if_neg hb];by_cases hy:s1.num (g.oth i x)=0
        .rw[if_pos hy];have ps:=sub_pre p m hi hy;have hlt:unm g { s1 with stk:=s1.stk++[i]}<unm g s:=BQ (λv hv=>m.toCom.met hv) p.hx p.x0 (show s1.num x≠0 by rw[m.numx];omega);obtain⟨new2,bs2,c2⟩:=ih _ _ _ _ ps om;exact Az hsort p m hi hiL hb hy c2 rfl
        .rw[if_neg hy];by_cases hlt:s1.num (g.oth i x)<s1.num x
         .rw[if_pos hlt];exact⟨_,_,AA p m hi hiL hb hy hlt⟩
         .rw[if_neg hlt];refine⟨new,bs,rL m hi hy (.inr ⟨Decidable.byContradiction λhc=>?_,hy⟩)⟩;have h1:=p.le (g.oth i x);rw[m.keep _ hc,m.numx]at hlt;omega
      obtain⟨new1,bs1,m1⟩:=step;have:=ihl (L++[i]) _ new1 bs1 m1 (by rw[<-hL];simp);rw[bL]at this;exact this
   obtain⟨new,bs,m⟩:=fold (ends x) [] (enter x s) [] [] (mid0 p) (cr _);exact⟨new,bs,m.post p.x0 e2⟩
def start:DS:=⟨λ_=>0,λ_=>0,0,[],[]⟩
def from1(g:Gr)(ends:Nat->List Nat)(sort:List Nat->List Nat)(f:Nat)(s:DS)(x:Nat):DS:=if s.num x=0 then visit g ends sort f x none s else s
def runB(g:Gr)(ends:Nat->List Nat)(sort:List Nat->List Nat)(f:Nat):DS:=(List.range g.n).foldl (from1 g ends sort f) start
structure Btw(g:Gr)(s:DS):Prop where
 black:∀v,s.num v≠0->∀i,g.inc i v->s.num (g.oth i v)≠0
 le:∀v,s.num v<=s.cnt
 inj:∀u v,s.num u=s.num v->s.num u≠0->u=v
 stk:s.stk=[]
 nd:s.blk.flatten.Nodup
 blks:∀b∈s.blk,IsBlock g b
 part:∀i,(∃b∈s.blk,i∈b)↔∃u,s.num u≠0/\g.inc i u
def xY:Btw g start:=by
 refine⟨λv h=>absurd rfl h,λv=>ab _,λu v _ h=>absurd rfl h,rfl,by simp[start],λb hb=>(by cases hb),λi=>?_⟩;constructor
 .rintro⟨b,hb,_⟩;cases hb
 .rintro⟨u,h,_⟩;exact absurd rfl h
def Bz{ends:Nat->List Nat}{sort:List Nat->List Nat}(hends:∀x,x<g.n->(ends x).Nodup/\∀i,i∈ends x↔g.inc i x)(hsort:∀l,(sort l).Perm l){s:DS}(b:Btw g s)(hx:x<g.n)(hf:unm g s<=f) :
 Btw g (from1 g ends sort f s x)/\(from1 g ends sort f s x).num x≠0/\(∀v,s.num v≠0->(from1 g ends sort f s x).num v≠0)/\unm g (from1 g ends sort f s x)<=f:=by
 unfold from1;by_cases h:s.num x=0
 .rw[if_pos h];have p:Pre g [] x none s:=⟨hx,h,λa ha=>(by cases ha),λv hv _=>b.black v hv,b.le,b.inj,λz _ a ha=>(by cases ha),λc hc=>(by cases hc),λ_=>rfl,λj hj=>by rw[b.stk]at hj;cases hj⟩
  obtain⟨new,bs,c⟩:=visit_good hends hsort f [] x none s p hf;generalize visit g ends sort f x none s=s' at *
  have hnew:new=[]:=by
   cases new with
   |nil=>rfl
   |cons a r=>obtain⟨_,e,_⟩:=c.cls a (aM ..);cases e
  subst hnew;have hmet:∀v,s.num v≠0->s'.num v≠0:=λv hv=>c.toCom.met hv;refine⟨⟨λv hv i hi=>?_,c.le,c.inj,by rw[c.stk,b.stk];rfl,?_,λbb hb=>?_,λi=>?_⟩,by rw[c.numx];omega,hmet,cu (Ni hmet) hf⟩
  .by_cases ho:s.num v=0
   .exact c.black v ⟨ho,hv⟩ i hi
   .exact hmet _ (b.black v ho i hi)
  .rw[c.blk,kU,bQ];refine⟨b.nd,by simpa using c.nd,λa ha d hd e=>?_⟩;subst e;rw[iZ]at ha hd;obtain⟨u,hu,hiu⟩:=(b.part a).1 ha;obtain⟨_,u2,h2,hi2⟩:=(c.part a).1 (.inr hd);by_cases e:u2=u
   .exact hu (e▸h2.1)
   .have:=iA hiu hi2 e;exact b.black u hu a hiu (this▸h2.1)
  .rw[c.blk]at hb;rcases aZ.1 hb with hb|hb
   .exact b.blks bb hb
   .exact c.blks bb hb
  .rw[c.blk];constructor
   .rintro⟨bb,hb,hi⟩;rcases aZ.1 hb with hb|hb
    .obtain⟨u,h1,h2⟩:=(b.part i).1 ⟨bb,hb,hi⟩;exact⟨u,hmet u h1,h2⟩
    .obtain⟨_,u,h1,h2⟩:=(c.part i).1 (.inr ⟨bb,hb,hi⟩);exact⟨u,h1.2,h2⟩
   .rintro⟨u,h1,h2⟩;by_cases ho:s.num u=0
    .rcases(c.part i).2 ⟨by simp,u,⟨ho,h1⟩,h2⟩with q|⟨bb,q1,q2⟩
     .cases q
     .exact⟨bb,hU _ q1,q2⟩
    .obtain⟨bb,q1,q2⟩:=(b.part i).2 ⟨u,ho,h2⟩;exact⟨bb,cW _ q1,q2⟩
 .rw[if_neg h];exact⟨b,h,λv hv=>hv,hf⟩
def zK{s:DS}:unm g s<=g.n:=by
 unfold unm;exact cu ni (by simp)
def runB_ok{ends:Nat->List Nat}{sort:List Nat->List Nat}(hends:∀x,x<g.n->(ends x).Nodup/\∀i,i∈ends x↔g.inc i x)(hsort:∀l,(sort l).Perm l)(hf:g.n<=f) :
 (runB g ends sort f).blk.flatten.Nodup/\(∀b∈(runB g ends sort f).blk,IsBlock g b)/\∀i,i<g.m↔∃b∈(runB g ends sort f).blk,i∈b:=by
 have key:∀k,k<=g.n->Btw g ((List.range k).foldl (from1 g ends sort f) start)/\(∀v,v<k->((List.range k).foldl (from1 g ends sort f) start).num v≠0)/\unm g ((List.range k).foldl (from1 g ends sort f) start)<=f:=by
  intro k;induction k with
  |zero=>intro _;exact⟨xY,λv hv=>absurd hv (gz _),cu zK hf⟩
  |succ k ih =>
    intro hk;obtain⟨h1,h2,h3⟩:=ih om;rw[cP,gp];obtain⟨a,b,c,d⟩:=Bz hends hsort h1 (show k<g.n by omega) h3;refine⟨a,λv hv=>?_,d⟩;by_cases e:v=k
    .subst e;exact b
    .exact c v (h2 v om)
 obtain⟨h1,h2,_⟩:=key g.n (ab _);refine⟨h1.nd,h1.blks,λi=>?_⟩;show _↔∃b∈((List.range g.n).foldl (from1 g ends sort f) start).blk,i∈b;rw[h1.part i];constructor
 .intro hi;exact⟨g.tl i,h2 _ (g.ok i hi).1,hi,.inl rfl⟩
 .rintro⟨u,_,h⟩;exact h.1
variable {g:Gr}{ends:Nat->List Nat}{sort:List Nat->List Nat}
def wz{f f':Nat->Nat}:∀{l:List Nat},(∀v∈l,f' v<=f v)->(l.map f').sum<=(l.map f).sum
 |[],_=>ab _
 |a::l,h=>by
   simp only[bO,List.sum_cons];have h1:=wz (l:=l) λv hv=>h v (aN _ hv);have h2:=h a (aM ..);omega
def uk{f f':Nat->Nat}{d x:Nat}:∀{l:List Nat},(∀v∈l,f' v<=f v)->x∈l->f' x+d<=f x->(l.map f').sum+d<=(l.map f).sum
 |[],_,hx,_=>by cases hx
 |a::l,h,hx,hd=>by
   simp only[bO,List.sum_cons];rcases aF.1 hx with rfl|hx
   .have:=wz (l:=l) λv hv=>h v (aN _ hv);omega
   .have h1:=uk (l:=l) (λv hv=>h v (aN _ hv)) hx hd;have h2:=h a (aM ..);omega
def wt(g:Gr)(ends:Nat->List Nat)(s:DS):Nat:=((List.range g.n).map λv=>if s.num v=0 then 1+2*(ends v).length else 0).sum
def pot(g:Gr)(ends:Nat->List Nat)(s:DS):Nat:=s.cnt+s.stk.length+s.blk.length+wt g ends s
def xI{s:DS}:∀v,s.num v≠0->(enter x s).num v≠0:=λv hv=>by
 show upd s.num x (s.cnt+1) v≠0;by_cases e:v=x
 .subst e;rw[upd_same];omega
 .rw[upd_ne e];exact hv
def pot_enter{s:DS}(hx:x<g.n)(h0:s.num x=0):pot g ends (enter x s)+2*(ends x).length<=pot g ends s:=by
 have h1:wt g ends (enter x s)+(1+2*(ends x).length)<=wt g ends s:=by
  refine uk (x:=x) (λv _=>?_) (aX.2 hx) ?_
  .by_cases e:s.num v=0
   .rw[if_pos e];split<;>omega
   .rw[if_neg e,if_neg (xI v e)];exact ab _
  .have e:(enter x s).num x≠0:=by show upd s.num x (s.cnt+1) x≠0;rw[upd_same];omega
   rw[if_neg e,if_pos h0];omega
 unfold pot;have h2:(enter x s).cnt=s.cnt+1:=rfl;have h3:(enter x s).stk=s.stk:=rfl;have h4:(enter x s).blk=s.blk:=rfl;rw[h2,h3,h4];omega
def Fo{s:DS}:pot g ends (s.close sort i)<=pot g ends s+1:=by
 have h1:(s.close sort i).stk.length<=s.stk.length:=by
  show(s.stk.take _).length<=_;rw[aS];omega
 have h2:(s.close sort i).blk.length=s.blk.length+1:=by
  show(s.blk++[_]).length=_;simp
 have h3:wt g ends (s.close sort i)=wt g ends s:=rfl;have h4:(s.close sort i).cnt=s.cnt:=rfl;unfold pot;omega
def pot_push{s:DS}:pot g ends { s with stk:=s.stk++[i]}=pot g ends s+1:=by
 unfold pot;have:wt g ends { s with stk:=s.stk++[i]}=wt g ends s:=rfl;simp only[this,aJ,bd,bm];omega
def HG{vis:Nat->Nat->DS->DS}(hi:g.inc i x)(hv:∀(y i:Nat) (s:DS),y<g.n->s.num y=0->(∀v,s.num v≠0->(vis y i s).num v≠0)/\pot g ends (vis y i s)<=pot g ends s)(s:DS) :
 (∀v,s.num v≠0->(edgeS g sort vis x by_ s i).num v≠0)/\pot g ends (edgeS g sort vis x by_ s i)<=pot g ends s+2:=by
 unfold edgeS;by_cases hb:by_=some i
 .rw[if_pos hb];exact⟨λv h=>h,om⟩
 rw[if_neg hb];by_cases hy:s.num (g.oth i x)=0
 .rw[if_pos hy];obtain⟨a,b⟩:=hv (g.oth i x) i { s with stk:=s.stk++[i]} (inc_lt (inc_oth hi).1) hy;rw[pot_push]at b;generalize vis (g.oth i x) i { s with stk:=s.stk++[i]}=s2 at *
  simp only;split
  .refine⟨λv h=>a v h,?_⟩;have:=Fo (g:=g) (ends:=ends) (sort:=sort) (s:={ s2 with low:=upd s2.low x (min (s2.low x) (s2.low (g.oth i x)))}) (i:=i);have e:pot g ends ({ s2 with low:=upd s2.low x (min (s2.low x) (s2.low (g.oth i x)))}:DS)=pot g ends s2:=rfl;rw[e]at this;exact cu this om
  .refine⟨λv h=>a v h,?_⟩;exact cu b om
 .rw[if_neg hy];split
  .refine⟨λv h=>h,?_⟩;have:pot g ends { s with stk:=s.stk++[i],low:=upd s.low x (min (s.low x) (s.num (g.oth i x)))}=pot g ends s+1:=pot_push (s:={ s with low:=upd s.low x (min (s.low x) (s.num (g.oth i x)))});exact cu (Nat.le_of_eq this) om
  .exact⟨λv h=>h,om⟩
def pot_fold{vis:Nat->Nat->DS->DS}{x:Nat}{by_:Option Nat}(hv:∀(y i:Nat) (s:DS),y<g.n->s.num y=0->(∀v,s.num v≠0->(vis y i s).num v≠0)/\pot g ends (vis y i s)<=pot g ends s) :
 ∀(l:List Nat) (s:DS),(∀i∈l,g.inc i x)->(∀v,s.num v≠0->(l.foldl (edgeS g sort vis x by_) s).num v≠0)/\pot g ends (l.foldl (edgeS g sort vis x by_) s)<=pot g ends s+2*l.length
 |[],s,_=>⟨λv h=>h,by simp⟩
 |i::l,s,hl=>by
   obtain⟨a1,a2⟩:=HG (sort:=sort) (by_:=by_) (hl i (aM ..)) hv s;obtain⟨b1,b2⟩:=pot_fold hv l (edgeS g sort vis x by_ s i) λk hk=>hl k (aN _ hk);refine⟨λv h=>b1 v (a1 v h),?_⟩;rw[bd,iH];omega
def pot_visit(hends:∀x,x<g.n->∀i∈ends x,g.inc i x):∀(f x:Nat) (by_:Option Nat) (s:DS),x<g.n->s.num x=0->(∀v,s.num v≠0->(visit g ends sort f x by_ s).num v≠0)/\pot g ends (visit g ends sort f x by_ s)<=pot g ends s
 |0,_,_,_,_,_=>⟨λv h=>h,ab _⟩
 |f+1,x,by_,s,hx,h0=>by
   obtain⟨a,b⟩:=pot_fold (sort:=sort) (by_:=by_) (vis:=λy i s=>visit g ends sort f y (some i) s) (λy i s hy hs=>pot_visit hends f y (some i) s hy hs) (ends x) (enter x s) (hends x hx);have c:=pot_enter (ends:=ends) hx h0;refine⟨λv h=>a v (xI v h),?_⟩;show pot g ends ((ends x).foldl (edgeS g sort (λy i s=>visit g ends sort f y (some i) s) x by_) (enter x s))<=_;omega
def mid_step(hends:∀x,x<g.n->(ends x).Nodup/\∀i,i∈ends x↔g.inc i x)(hsort:∀l,(sort l).Perm l){s:DS}(p:Pre g an x by_ s)(hf:unm g s<=f+1){new:List Nat}{s1:DS}{bs:List (List Nat)}
 (m:Mid g x by_ s L s1 new bs) (hi:g.inc i x) (hiL:i∉L):∃new' bs',Mid g x by_ s (L++[i]) (edgeS g sort (λy i s=>visit g ends sort f y (some i) s) x by_ s1 i) new' bs':=by
 have ih:=visit_good hends hsort f;obtain⟨oi,one,oo⟩:=inc_oth hi;unfold edgeS;by_cases hb:by_=some i
 .rw[if_pos hb];refine⟨new,bs,rL m hi ?_ (.inl hb)⟩;exact m.toCom.met (p.gray _ (p.by1 i hb).2)
 .rw[if_neg hb];by_cases hy:s1.num (g.oth i x)=0
  .rw[if_pos hy];have ps:=sub_pre p m hi hy;have hlt:unm g { s1 with stk:=s1.stk++[i]}<unm g s:=BQ (λv hv=>m.toCom.met hv) p.hx p.x0 (show s1.num x≠0 by rw[m.numx];omega);obtain⟨new2,bs2,c2⟩:=ih _ _ _ _ ps om;exact Az hsort p m hi hiL hb hy c2 rfl
  .rw[if_neg hy];by_cases hlt:s1.num (g.oth i x)<s1.num x
   .rw[if_pos hlt];exact⟨_,_,AA p m hi hiL hb hy hlt⟩
   .rw[if_neg hlt];refine⟨new,bs,rL m hi hy (.inr ⟨Decidable.byContradiction λhc=>?_,hy⟩)⟩;have h1:=p.le (g.oth i x);rw[m.keep _ hc,m.numx]at hlt;omega
def sub_unm{s s1:DS}{new:List Nat}{bs:List (List Nat)}(p:Pre g an x by_ s)(m:Mid g x by_ s L s1 new bs):unm g { s1 with stk:=s1.stk++[i]}<unm g s :=
 BQ (λv hv=>m.toCom.met hv) p.hx p.x0 (show s1.num x≠0 by rw[m.numx];omega)
end Go.Blk
namespace Go.Proofs.YtklpoimdclflmaaGreatDoor
open Go.Am
open Go.Blk (Gr DS upd)
variable {l:List Nat}{lo:Nat}{v:AV}
def nI(l:List Nat):List Int:=l.map λi=>((i:Nat):Int)
def nL(l:List Nat):List AV:=l.map λi=>.int .i64 (i:Nat)
def fj(l:List Nat):(nI l).length=l.length:=by simp[nI]
def Na(l:List Nat):(nI l).flatMap eI=nL l:=by
 induction l with
 |nil=>rfl
 |cons a l ih=>simp only[nI,nL,bO,bH]at *;rw[ih];rfl
def HW(l m:List Nat):nL (l++m)=nL l++nL m:=by simp[nL]
def Sep(v w:AV):Prop:=∀b o n c o' n' c',v=.sl b o n c->w≠.sl b o' n' c'
def Sep.nill:Sep .nils v:=λ_ _ _ _ _ _ _ e=>by cases e
def Stk(h:AH)(lo:Nat)(v:AV)(l:List Nat):Prop :=
 (v=.nils/\l=[])\/∃b c cs,lo<=b/\v=.sl b 0 l.length c/\h.get b=some (.cells cs 1 false)/\cs.length=c/\l.length<=c/\cs.take l.length=nL l
def Stk.cong{h h':AH}(hs:Stk h lo v l)(hk:∀c,lo<=c->(∃o n k,v=.sl c o n k)->h'.get c=h.get c):Stk h' lo v l:=by
 rcases hs with hs|⟨b,c,cs,h1,h2,h3,h4⟩
 .exact .inl hs
 .exact .inr ⟨b,c,cs,h1,h2,by rw[hk b h1 ⟨_,_,_,h2⟩];exact h3,h4⟩
def Stk.lt{h:AH}(hs:Stk h lo v l){b o n c:Nat}(e:v=.sl b o n c):b<h.next/\lo<=b:=by
 rcases hs with⟨rfl,_⟩|⟨b',c',cs,h1,rfl,h3,_⟩
 .cases e
 .cases e;exact⟨AH.lt_of_get h3,h1⟩
def Stk.cells{h:AH}{lo:Nat}{v:AV}{l:List Nat}(hs:Stk h lo v l):v.cells=[v]/\v.one=true:=by
 rcases hs with⟨rfl,_⟩|⟨b',c',cs,h1,rfl,h3,_⟩<;>exact⟨rfl,rfl⟩
def Stk.sl{h:AH}{lo:Nat}{v:AV}{l:List Nat}(hs:Stk h lo v l):SlI h v (nI l):=by
 rcases hs with⟨rfl,rfl⟩|⟨b,c,cs,h1,rfl,h3,h4,h5,h6⟩
 .exact .inl ⟨rfl,.inl rfl⟩
 .refine .inr ⟨b,0,c,cs,false,by rw[ah,fj],h3,by rw[ah,fj];exact h5,by rw[ah,fj];omega,λi x hi=>?_⟩;rw[aV]at hi;obtain⟨y,hy,rfl⟩:=aG.1 hi;have hil:i<l.length:=by have:=(au.1 hy).1;rwa [fj]at this
  have e1:(cs.take l.length)[i]?=some (.int .i64 y):=by
   rw[h6];unfold nL;unfold nI at hy;rw[aV]at hy |-;obtain⟨z,hz,rfl⟩:=aG.1 hy;rw[hz];rfl
  rw[cS,if_pos hil]at e1;obtain⟨h7,h8⟩:=au.1 e1;refine⟨om,?_⟩;rw[bN,aP,cj h7,h8];rfl
def Stk.push{h:AH}(hs:Stk h lo v l)(i:Nat)(hlo:lo<=h.next)(hl:l.length<2^34) :
 ∃v' h',gh (h.new (.cells [.int .i64 (i:Nat)] 1 false)) 1 8 v (.sl h.next 0 1 1)=some (v',h')/\Stk h' lo v' (l++[i])/\h.next<=h'.next/\(∀c,c<h.next->(∀o n k,v≠.sl c o n k)->h'.get c=h.get c)/\(∀c,h'.tyOf c=h.tyOf c) /\
   ∀w,(∀b o n c,w=.sl b o n c->b<h.next)->Sep w v->Sep w v':=by
 have hx:(h.new (.cells [.int .i64 (i:Nat)] 1 false)).get h.next=some (.cells [.int .i64 (i:Nat)] 1 false):=by rw[AH.get_new,if_pos rfl]
 have hg:∀c,c<h.next->(h.new (.cells [.int .i64 (i:Nat)] 1 false)).get c=h.get c:=λc hc=>by rw[AH.get_new,if_neg om]
 have hn:(h.new (.cells [.int .i64 (i:Nat)] 1 false)).next=h.next+1:=rfl;have ht:∀c,(h.new (.cells [.int .i64 (i:Nat)] 1 false)).tyOf c=h.tyOf c:=λ_=>rfl;generalize h.new (.cells [.int .i64 (i:Nat)] 1 false)=h1 at *
 have hr:ai h1 h.next 0 (1*1)=some [.int .i64 (i:Nat)]:=by rw[aR hx];rfl
 have ho:([.int .i64 (i:Nat)]:List AV).all AV.one=true:=rfl;rcases hs with⟨rfl,rfl⟩|⟨b,c,cs,k1,rfl,k3,k4,k5,k6⟩
 .refine⟨.sl h1.next 0 1 1,h1.new (.cells [.int .i64 (i:Nat)] 1 false),?_,.inr ⟨h1.next,1,_,om,rfl,by rw[AH.get_new,if_pos rfl],rfl,ab _,rfl⟩,by rw[AH.next_new];omega,λc hc _=>by rw[AH.get_new,if_neg om,hg c hc],λc=>ht c,λw hw _ b o n c o' n' c' e1 e2=>?_⟩
  .simp only[gh,fz,hr,aQ,ho,if_true,lC,if_false];rw[if_pos ⟨by unfold bf;omega,by unfold bf;omega⟩]
  .have:=hw b o n c e1;cases e2;omega
 .have hb:=AH.lt_of_get k3;have k3':h1.get b=some (.cells cs 1 false):=by rw[hg b hb];exact k3
  by_cases hc:l.length+1<=c
  .have hw:=ew (v:=.int .i64 (i:Nat)) k3' (i:=l.length) om;have u:=Oi (o:=.cells (cs.set l.length (.int .i64 (i:Nat))) 1 false) k3';refine⟨.sl b 0 (l.length+1) c,h1.put b (.cells (cs.set l.length (.int .i64 (i:Nat))) 1 false),?_,.inr ⟨b,c,_,k1,by rw[aJ];rfl,u.get,by rw[cx];exact k4,by rw[aJ];exact hc,?_⟩,by rw[u.nx];omega,λc' hc' hne=>?_,λc'=>(u.ty c').trans (ht c'),λw _ hs b1 o n c1 o' n' c' e1 e2=>?_⟩
   .simp only[gh,fz,hr,aQ,ho,if_true,lC,if_false,if_pos hc,bN,aP,hw]
   .rw[aJ,bd,bm,HW,<-k6];refine cV λj=>?_;rw[cS,cU,List.getElem?_append,aS,cD om,cS];by_cases q:j<l.length
    .rw[if_pos om,if_neg om,if_pos q,if_pos q]
    .by_cases q2:j=l.length
     .subst q2;rw[if_pos om,if_pos rfl,if_pos om,if_neg om,dV];rfl
     .rw[if_neg om,if_neg q,bJ (by simp[nL];omega)]
   .rw[u.ne (λe=>hne 0 l.length c (by rw[e])),hg _ hc']
   .cases e2;exact hs b o n c1 _ _ _ e1 rfl
  .have hcl:c=l.length:=om;have hcs:cs=nL l:=by rw[<-k6,dx om]
   have hr2:ai h1 b 0 (l.length*1)=some cs:=by
    rw[aR k3',if_pos om,df,dx om]
   refine⟨.sl h1.next 0 (l.length+1) (l.length+1),(h1.put b .dead).new (.cells (cs++[.int .i64 (i:Nat)]) 1 false),?_,.inr ⟨h1.next,l.length+1,_,om,by rw[aJ];rfl,by rw[AH.get_new,AH.next_put,if_pos rfl],by rw[aJ,k4,hcl];rfl,by rw[aJ];exact ab _,?_⟩,by rw[AH.next_new,AH.next_put];omega,λc' hc' hne=>?_,λc'=>ht c',λw hw _ b1 o n c1 o' n' c' e1 e2=>?_⟩
   .simp only[gh,fz,hr,aQ,ho,if_true,lC,if_false];rw[if_neg hc,if_pos ⟨by unfold bf;omega,by unfold bf;omega⟩,k3',hr2];simp only[if_true]
   .rw[HW,<-hcs,dx (by rw[aJ,aJ,k4,hcl];exact ab _)];rfl
   .rw[AH.get_new,AH.next_put,if_neg om,AH.get_put _ _ _ _ om,if_neg (λe=>hne 0 l.length c (by rw[e])),hg _ hc']
   .have:=hw b1 o n c1 e1;cases e2;omega
def Stk.cut{h:AH}(hs:Stk h lo v l){k:Nat}(hk:k<=l.length) :
 ∃v',slV h 1 v none (some (.int .i64 (k:Nat))) none=some v'/\Stk h lo v' (l.take k)/\(∀w,Sep w v->Sep w v')/\∀c,(∃o n k,v'=.sl c o n k)->∃o n k,v=.sl c o n k:=by
 rcases hs with⟨rfl,rfl⟩|⟨b,c,cs,k1,rfl,k3,k4,k5,k6⟩
 .have:k=0:=by simpa using hk
  subst this;exact⟨.nils,rfl,.inl ⟨rfl,rfl⟩,λ_ q=>q,λ_ q=>q⟩
 .have hb:=iU (k:=.i64) (show k<=c by omega);refine⟨.sl b 0 k c,?_,.inr ⟨b,c,cs,k1,by rw[aS,cD hk],k3,k4,by rw[aS];omega,?_⟩,λw hs b1 o n c1 o' n' c' e1 e2=>?_,λc' ⟨o,n,k',e⟩=>?_⟩
  .simp only[slV,k3,if_true,tb,hb,aQ,pV,eB,GE,ite_self]
  .rw[aS,cD hk];have:cs.take k=(cs.take l.length).take k:=by rw[NW,cD hk]
   rw[this,k6];unfold nL;rw[gI]
  .cases e2;exact hs b o n c1 _ _ _ e1 rfl
  .cases e;exact⟨_,_,_,rfl⟩
def dI(E:List (Int×Int))(x:Nat):List Nat:=(List.range E.length).filter λi=>decide (tlE E i=x)||decide (hdE E i=x)
def Bj{n:Nat}{E:List (Int×Int)}(hE:InG n E)(hl:∀i,i<E.length->tlE E i≠hdE E i):∀x,x<(grE n E hE hl).n->(dI E x).Nodup/\∀i,i∈dI E x↔(grE n E hE hl).inc i x:=λx _=>by
 refine⟨List.nodup_range.filter _,λi=>?_⟩;unfold dI;rw[bB,aX,dm,aK,aK];rfl
def SS(sp nb lb:Nat)(c:Nat):Prop:=c=sp\/c=nb\/c=lb
structure Sta(h0:AH)(sp eb nb lb n:Nat)(ev:AV)(E:List (Int×Int)):Prop where
 he:SlE h0 ev E
 oe:Off (SS sp nb lb) ev
 ge:∃es,h0.get eb=some (.cells es 1 false)/\es.length=n/\∀(x:Nat) (v:AV),es[x]?=some v->SlI h0 v (nI (dI E x))/\Off (SS sp nb lb) v
 ne:eb≠sp/\eb≠nb/\eb≠lb/\nb≠sp/\nb≠lb/\lb≠sp
 lt:sp<h0.next/\nb<h0.next/\lb<h0.next
structure Ser(h0 h:AH)(sp eb nb lb n:Nat)(ev:AV)(s:DS)(stv blv:AV)(bs:List AV):Prop where
 kp:Kp (SS sp nb lb) h0 h
 cell:h.get sp=some (.cells [.int .i64 (n:Nat),ev,.sl eb 0 n n,.sl nb 0 n n,.sl lb 0 n n,.int .i64 (s.cnt:Nat),stv,blv] 8 false)
 gn:h.get nb=some (.cells (il n λv=>((s.num v:Nat):Int)) 1 false)
 gl:h.get lb=some (.cells (il n λv=>((s.low v:Nat):Int)) 1 false)
 st:Stk h h0.next stv s.stk
 bl:IsSl h 1 h0.next blv bs
 rl:bs.length=s.blk.length
 rw:∀(j:Nat) (v:AV) (l:List Nat),bs[j]?=some v->s.blk[j]?=some l->IsSl h 1 h0.next v (nL l)/\Sep v stv/\Sep v blv
 sb:Sep blv stv
section
variable {h0 h:AH}{sp eb nb lb n:Nat}{ev:AV}{E:List (Int×Int)}{s:DS}{stv blv:AV}{bs:List AV}
def Sta.edges(t:Sta h0 sp eb nb lb n ev E)(kp:Kp (SS sp nb lb) h0 h):SlE h ev E:=t.he.kp kp t.oe
def Sta.row(t:Sta h0 sp eb nb lb n ev E)(kp:Kp (SS sp nb lb) h0 h){x:Nat}(hx:x<n):∃v,ai h eb x 1=some [v]/\SlI h v (nI (dI E x))/\Off (SS sp nb lb) v/\SlI h0 v (nI (dI E x)):=by
 obtain⟨es,g,l,r⟩:=t.ge;obtain⟨n1,n2,n3,_⟩:=t.ne;have hv:es[x]?=some es[x]:=aj om;obtain⟨r1,r2⟩:=r x _ hv;have g':h.get eb=some (.cells es 1 false):=by
  rw[kp.gt eb (AH.lt_of_get g) (by rintro (e|e|e);exact n1 e;exact n2 e;exact n3 e)];exact g
 exact⟨_,bq g' hv,r1.kp kp r2,r2,r1⟩
def Ser.wr(r:Ser h0 h sp eb nb lb n ev s stv blv bs){h':AH}{c:Nat}{o:AO}(u:Upd h h' c o)(hc:SS sp nb lb c)(hl:c<h0.next):Kp (SS sp nb lb) h0 h'/\Stk h' h0.next stv s.stk/\IsSl h' 1 h0.next blv bs /\
 ∀(j:Nat) (v:AV) (l:List Nat),bs[j]?=some v->s.blk[j]?=some l->IsSl h' 1 h0.next v (nL l)/\Sep v stv/\Sep v blv :=
 ⟨r.kp.trans (u.kp hc) λ_ _ q=>q,r.st.cong λc' hc' _=>u.ne om,r.bl.upd u om,λj v l a b=>⟨(r.rw j v l a b).1.upd u om,(r.rw j v l a b).2⟩⟩
def Ser.setCnt(t:Sta h0 sp eb nb lb n ev E)(r:Ser h0 h sp eb nb lb n ev s stv blv bs)(k:Nat):∃h',bP h sp 5 [.int .i64 (k:Nat)]=some h'/\Ser h0 h' sp eb nb lb n ev { s with cnt:=k} stv blv bs:=by
 obtain⟨n1,n2,n3,n4,n5,n6⟩:=t.ne;have w:=ew (v:=.int .i64 (k:Nat)) r.cell (i:=5) (by simp);change bP h sp 5 [.int .i64 (k:Nat)]=some (h.put sp (.cells [.int .i64 (n:Nat),ev,.sl eb 0 n n,.sl nb 0 n n,.sl lb 0 n n,.int .i64 (k:Nat),stv,blv] 8 false))at w;have u:=Oi (o:=.cells [.int .i64 (n:Nat),ev,.sl eb 0 n n,.sl nb 0 n n,.sl lb 0 n n,.int .i64 (k:Nat),stv,blv] 8 false) r.cell;obtain⟨a1,a2,a3,a4⟩:=r.wr u (.inl rfl) t.lt.1;exact⟨_,w,{ kp:=a1,cell:=u.get,gn:=by rw[u.ne n4];exact r.gn,gl:=by rw[u.ne n6];exact r.gl,st:=a2,bl:=a3,rl:=r.rl,rw:=a4,sb:=r.sb}⟩
def IQ{f:Nat->Nat}{x k:Nat}:(il n λv=>((f v:Nat):Int)).set x (.int .i64 (k:Nat))=il n λv=>((upd f x k v:Nat):Int):=by
 rw[mE];refine lO λi _=>?_;by_cases e:i=x
 .subst e;rw[if_pos rfl,Go.Blk.upd_same]
 .rw[if_neg e,Go.Blk.upd_ne e]
def Ser.setNum(t:Sta h0 sp eb nb lb n ev E)(r:Ser h0 h sp eb nb lb n ev s stv blv bs){x:Nat}(hx:x<n)(k:Nat):∃h',bP h nb x [.int .i64 (k:Nat)]=some h'/\Ser h0 h' sp eb nb lb n ev { s with num:=upd s.num x k} stv blv bs:=by
 obtain⟨n1,n2,n3,n4,n5,n6⟩:=t.ne;have w:=ew (v:=.int .i64 (k:Nat)) r.gn (i:=x) (by rw[jM];exact hx);rw[IQ]at w;have u:=Oi (o:=.cells (il n λv=>((upd s.num x k v:Nat):Int)) 1 false) r.gn;obtain⟨a1,a2,a3,a4⟩:=r.wr u (.inr (.inl rfl)) t.lt.2.1;exact⟨_,w,{ kp:=a1,cell:=by rw[u.ne (Ne.symm n4)];exact r.cell,gn:=u.get,gl:=by rw[u.ne (Ne.symm n5)];exact r.gl,st:=a2,bl:=a3,rl:=r.rl,rw:=a4,sb:=r.sb}⟩
def Ser.setLow(t:Sta h0 sp eb nb lb n ev E)(r:Ser h0 h sp eb nb lb n ev s stv blv bs){x:Nat}(hx:x<n)(k:Nat):∃h',bP h lb x [.int .i64 (k:Nat)]=some h'/\Ser h0 h' sp eb nb lb n ev { s with low:=upd s.low x k} stv blv bs:=by
 obtain⟨n1,n2,n3,n4,n5,n6⟩:=t.ne;have w:=ew (v:=.int .i64 (k:Nat)) r.gl (i:=x) (by rw[jM];exact hx);rw[IQ]at w;have u:=Oi (o:=.cells (il n λv=>((upd s.low x k v:Nat):Int)) 1 false) r.gl;obtain⟨a1,a2,a3,a4⟩:=r.wr u (.inr (.inr rfl)) t.lt.2.2;exact⟨_,w,{ kp:=a1,cell:=by rw[u.ne (Ne.symm n6)];exact r.cell,gn:=by rw[u.ne n5];exact r.gn,gl:=u.get,st:=a2,bl:=a3,rl:=r.rl,rw:=a4,sb:=r.sb}⟩
def Ser.setStk(t:Sta h0 sp eb nb lb n ev E)(r:Ser h0 h sp eb nb lb n ev s stv blv bs){h1:AH}{v':AV}{l:List Nat}(hn:h.next<=h1.next)(hk:∀c,c<h.next->(∀o n k,stv≠.sl c o n k)->h1.get c=h.get c)(ht:∀c,h1.tyOf c=h.tyOf c)(hs:Stk h1 h0.next v' l)
 (hsep:∀w,(∀b o n c,w=.sl b o n c->b<h.next)->Sep w stv->Sep w v'):∃h2,bP h1 sp 6 [v']=some h2/\Ser h0 h2 sp eb nb lb n ev { s with stk:=l} v' blv bs:=by
 obtain⟨n1,n2,n3,n4,n5,n6⟩:=t.ne;obtain⟨l1,l2,l3⟩:=t.lt;have hnx:=r.kp.nx;have low:∀c,c<h0.next->h1.get c=h.get c:=λc hc=>hk c om λo n k e=>by have:=(r.st.lt e).2;omega
 have c1:h1.get sp=some (.cells [.int .i64 (n:Nat),ev,.sl eb 0 n n,.sl nb 0 n n,.sl lb 0 n n,.int .i64 (s.cnt:Nat),stv,blv] 8 false):=by rw[low sp l1];exact r.cell
 have w:=ew (v:=v') c1 (i:=6) (by simp);change bP h1 sp 6 [v']=some (h1.put sp (.cells [.int .i64 (n:Nat),ev,.sl eb 0 n n,.sl nb 0 n n,.sl lb 0 n n,.int .i64 (s.cnt:Nat),v',blv] 8 false))at w;have u:=Oi (o:=.cells [.int .i64 (n:Nat),ev,.sl eb 0 n n,.sl nb 0 n n,.sl lb 0 n n,.int .i64 (s.cnt:Nat),v',blv] 8 false) c1;have kp1:Kp (SS sp nb lb) h0 h1:=⟨om,λc hc hn'=>by rw[low c hc];exact r.kp.gt c hc hn',λc hc=>(ht c).trans (r.kp.ty c hc)⟩
 have keep:∀{w cs},IsSl h 1 h0.next w cs->Sep w stv->IsSl h1 1 h0.next w cs:=fun {w cs} q hsw=>q.cong λb m e hb=>hk b (q.lt e) λo n' k e2=>hsw b 0 m m o n' k e e2;refine⟨_,w,{ kp:=kp1.trans (u.kp (.inl rfl)) λ_ _ q=>q,cell:=u.get,gn:=by rw[u.ne n4,low nb l2];exact r.gn,gl:=by rw[u.ne n6,low lb l3];exact r.gl,st:=hs.cong λc hc _=>u.ne om,bl:=(keep r.bl r.sb).upd u om,rl:=r.rl,rw:=λj v q a b=>?_,sb:=hsep _ (λb o n' c e=>r.bl.lt e) r.sb}⟩;obtain⟨a1,a2,a3⟩:=r.rw j v q a b;exact⟨(keep a1 a2).upd u om,hsep _ (λb o n' c e=>a1.lt e) a2,a3⟩
def Ser.push(t:Sta h0 sp eb nb lb n ev E)(r:Ser h0 h sp eb nb lb n ev s stv blv bs)(i:Nat)(hl:s.stk.length<2^34) :
 ∃v' h1 h2,gh (h.new (.cells [.int .i64 (i:Nat)] 1 false)) 1 8 stv (.sl h.next 0 1 1)=some (v',h1)/\v'.cells=[v']/\v'.one=true/\bP h1 sp 6 [v']=some h2/\Ser h0 h2 sp eb nb lb n ev { s with stk:=s.stk++[i]} v' blv bs:=by
 obtain⟨v',h1,a1,a2,a3,a4,a5,a6⟩:=r.st.push i r.kp.nx hl;obtain⟨h2,b1,b2⟩:=r.setStk t a3 a4 a5 a2 a6;exact⟨v',h1,h2,a1,a2.cells.1,a2.cells.2,b1,b2⟩
end
open Go.Am
open Go.Blk (Gr DS upd)
def mX(E:List (Int×Int))(k x:Nat):List Nat:=(List.range k).filter λi=>decide (tlE E i=x)||decide (hdE E i=x)
def CJ{E:List (Int×Int)}{k x:Nat}:mX E (k+1) x=mX E k x++if tlE E k=x\/hdE E k=x then [k]else []:=by
 unfold mX;rw[cP,cB];congr 1;by_cases q:tlE E k=x\/hdE E k=x
 .rw[if_pos q,je (by simpa using q)];rfl
 .rw[if_neg q,jh (by simpa using q)];rfl
def xJ{E:List (Int×Int)}{k x:Nat}:(mX E k x).length<=k:=by
 unfold mX;have:=cX (λi=>decide (tlE E i=x)||decide (hdE E i=x)) (List.range k);rwa [cw]at this
def NE(l m:List Nat):nI (l++m)=nI l++nI m:=by simp[nI]
def mf(n:Nat)(E:List (Int×Int))(k:Nat):List (List Int):=(List.range n).map λx=>nI (mX E k x)
def mP{n k x:Nat}{E:List (Int×Int)}(hx:x<n):(mf n E k)[x]?=some (nI (mX E k x)):=by
 unfold mf;rw[aV,da hx];rfl
def Fb{n k:Nat}{E:List (Int×Int)}(ha:tlE E k<n)(hb:hdE E k<n)(hab:tlE E k≠hdE E k) :
 ((mf n E k).set (tlE E k) (nI (mX E k (tlE E k))++[((k:Nat):Int)])).set (hdE E k) (nI (mX E k (hdE E k))++[((k:Nat):Int)])=mf n E (k+1):=by
 refine cV λj=>?_;have hl:(mf n E k).length=n:=by simp[mf]
 have hl2:(mf n E (k+1)).length=n:=by simp[mf]
 rw[cU,cU,cx,hl];by_cases hj:j<n
 .rw[mP hj,mP hj,CJ,NE];by_cases e1:hdE E k=j
  .rw[if_pos e1,if_pos hb,if_pos (.inr e1),e1];rfl
  .rw[if_neg e1];by_cases e2:tlE E k=j
   .rw[if_pos e2,if_pos ha,if_pos (.inl e2),e2];rfl
   .rw[if_neg e2,if_neg (by rintro (q|q);exact e2 q;exact e1 q)];simp[nI]
 .rw[if_neg om,if_neg om,bJ (by rw[hl];omega),bJ (by rw[hl2];omega)]
def Fc(h:AH)(n:Nat)(E:List (Int×Int)):Rw h h.next (cq [.nils] n) (mf n E 0):=by
 rw[eQ];refine⟨by simp[mf],λi v xs h1 h2=>?_,λi j b n' b' n'' _ h1=>?_⟩
 .rw[cz]at h1;split at h1
  .rename_i hi
   rw[mP hi]at h2;simp only[aa]at h1 h2;subst h1 h2;exact .inl ⟨rfl,by simp[mX,nI]⟩
  .cases h1
 .rw[cz]at h1;split at h1<;>cases h1
def Gz{h0 h:AH}{sp eb nb lb n:Nat}{ev:AV}{E:List (Int×Int)}{s:DS}{stv blv:AV}{bs:List AV}(t:Sta h0 sp eb nb lb n ev E)(r:Ser h0 h sp eb nb lb n ev s stv blv bs)(hE:InG n E)(hL:∀i,i<E.length->tlE E i≠hdE E i)(hn:n<2^40){i x:Nat}(hi:(grE n E hE hL).inc i x) :
 C prg 90 [.ptr sp 0,.int .i64 (i:Nat),.int .i64 (x:Nat)] h λv h'=>v=.int .i64 ((grE n E hE hL).oth i x:Nat)/\Ext h.next h h':=by
 refine Oj rfl ?_;obtain⟨h1,h2⟩:=id hi;have him:i<E.length:=h1;have hx2:tlE E i=x\/hdE E i=x:=h2;have hLi:=hL i him;obtain⟨q1,q2,q3⟩:=hE i him;have he:=t.edges r.kp;obtain⟨b,p,a,rr,_,_⟩:=he.at (cm (f:=eE) him);rw[q1]at rr;have rse:ai h sp 1 1=some [ev]:=bq r.cell rfl;have ho:((tlE E i:Nat):Int)+((hdE E i:Nat):Int)-((x:Nat):Int)=(((grE n E hE hL).oth i x:Nat):Int):=by
  show _=((tlE E i+hdE E i-x:Nat):Int)
  omega
 have hol:(grE n E hE hL).oth i x<n:=by
  show tlE E i+hdE E i-x<n;omega
 have w1:IntKind.i64.wrap (((tlE E i:Nat):Int)+((hdE E i:Nat):Int))=((tlE E i:Nat):Int)+((hdE E i:Nat):Int):=fU om om;have w2:IntKind.i64.wrap (((tlE E i:Nat):Int)+((hdE E i:Nat):Int)-((x:Nat):Int))=(((grE n E hE hL).oth i x:Nat):Int):=by rw[ho];exact fU om om
 obtain⟨h3,w3,x3,g3,n3⟩:=gD (h:=h) (z:=[.int .i64 0,.int .i64 0]) (cs:=[.int .i64 (tlE E i:Nat),.int .i64 (hdE E i:Nat)]) (e:=2) rfl;clear hi;generalize (grE n E hE hL).oth i x=y at *
 refine ae (ak (Mi0) ?_);refine ae (ak (by simp only[am,aL,simprocAttr,bV,rse,a,rr,eE,w3]<;>rfl) ?_);have ra:ai h3 h.next 0 1=some [.int .i64 (tlE E i:Nat)]:=bq g3 rfl;have rb:ai h3 h.next 1 1=some [.int .i64 (hdE E i:Nat)]:=bq g3 rfl;refine ae (zz (λts h'=>h'=h3/\db ts 6=.int .i64 (y:Nat)) (by simp only[am,aL,simprocAttr,bV,ra,rb,w1,w2]) ?_);rintro ts h4 ⟨rfl,e6⟩;exact bu ⟨.int .i64 (y:Nat),(by simp only[rs,rf90,am,aL,simprocAttr,e6]<;>rfl),rfl,x3⟩
set_option maxHeartbeats 1000000 in
def GC{h:AH}{n:Nat}{ev:AV}{E:List (Int×Int)}(he:SlE h ev E)(hE:InG n E)(hL:∀i,i<E.length->tlE E i≠hdE E i)(hxl:E.length<2^30)(hnl:n<2^30) :
 C prg 54 [.agg (gW n ev)] h λr h'=>∃sp eb nb lb,r=.ptr sp 0/\Ext h.next h h'/\(h.next<=sp/\h.next<=nb/\h.next<=lb)/\Sta h' sp eb nb lb n ev E/\Ser h' h' sp eb nb lb n ev Go.Blk.start .nils .nils []:=by
 obtain⟨ec,eo⟩:=he.cells;have hlen:=he.len;rw[ah]at hlen;unfold gW;refine Oj rfl ?_;refine ae (ak (Mi0) ?_);have x0:Ext h.next h (h.new (.cells [.int .i64 (n:Nat),ev] 2 false)):=Oe (ab _);have g0:(h.new (.cells [.int .i64 (n:Nat),ev] 2 false)).get h.next=some (.cells [.int .i64 (n:Nat),ev] 2 false):=by rw[AH.get_new,if_pos rfl]
 have n0:(h.new (.cells [.int .i64 (n:Nat),ev] 2 false)).next=h.next+1:=rfl;generalize h.new (.cells [.int .i64 (n:Nat),ev] 2 false)=h1 at *
 have kn:(h1.keep 4).next=h1.next+4:=AH.keep_next 4 h1;have kg:∀c,(h1.keep 4).get c=if h1.next<=c/\c<h1.next+4 then some .resv else h1.get c:=λc=>AH.keep_get 4 h1
 have k1:(h1.keep 4).get h.next=some (.cells [.int .i64 (n:Nat),ev] 2 false):=by rw[kg,if_neg om];exact g0
 have ra:ai (h1.keep 4) h.next 0 2=some [.int .i64 (n:Nat),ev]:=by rw[aR k1];rfl
 have rb:ai (h1.keep 4) h.next 0 1=some [.int .i64 (n:Nat)]:=by rw[aR k1];rfl
 have mva:=uT (z:=[.nils]) (bytes:=24) (n:=n) (by unfold bf;omega) (by unfold bf;omega);have mvb:=uT (z:=[.int .i64 0]) (bytes:=8) (n:=n) (by unfold bf;omega) (by unfold bf;omega);have q0:(h1.keep 4).get h1.next=some .resv:=by rw[kg,if_pos ⟨om,om⟩]
 obtain⟨m1,hm1⟩:∃m,m=(h1.keep 4).put h1.next (.cells (cq [.nils] n) 1 false):=⟨_,rfl⟩
 have v1:Upd (h1.keep 4) m1 h1.next (.cells (cq [.nils] n) 1 false):=by rw[hm1];exact Oi q0
 have q1:m1.get (h1.next+1)=some .resv:=by rw[v1.ne om,kg,if_pos ⟨om,om⟩]
 obtain⟨m2,hm2⟩:∃m,m=m1.put (h1.next+1) (.cells (cq [.int .i64 0] n) 1 false):=⟨_,rfl⟩
 have v2:Upd m1 m2 (h1.next+1) (.cells (cq [.int .i64 0] n) 1 false):=by rw[hm2];exact Oi q1
 have q2:m2.get (h1.next+2)=some .resv:=by rw[v2.ne om,v1.ne om,kg,if_pos ⟨om,om⟩]
 obtain⟨m3,hm3⟩:∃m,m=m2.put (h1.next+2) (.cells (cq [.int .i64 0] n) 1 false):=⟨_,rfl⟩
 have v3:Upd m2 m3 (h1.next+2) (.cells (cq [.int .i64 0] n) 1 false):=by rw[hm3];exact Oi q2
 have q3:m3.get (h1.next+3)=some .resv:=by rw[v3.ne om,v2.ne om,v1.ne om,kg,if_pos ⟨om,om⟩]
 obtain⟨m4,hm4⟩:∃m,m=m3.put (h1.next+3) (.cells [.int .i64 (n:Nat),ev,.sl h1.next 0 n n,.sl (h1.next+1) 0 n n,.sl (h1.next+2) 0 n n,.int .i64 0,.nils,.nils] 8 false):=⟨_,rfl⟩
 have v4:Upd m3 m4 (h1.next+3) (.cells [.int .i64 (n:Nat),ev,.sl h1.next 0 n n,.sl (h1.next+1) 0 n n,.sl (h1.next+2) 0 n n,.int .i64 0,.nils,.nils] 8 false):=by rw[hm4];exact Oi q3
 have bx:=BA (k:=8) (cs:=[.int .i64 (n:Nat),ev,.sl h1.next 0 n n,.sl (h1.next+1) 0 n n,.sl (h1.next+2) 0 n n,.int .i64 0,.nils,.nils]) rfl
 refine ae (Et (λts h2=>h2=m4/\db ts 1=.ptr h.next 0/\db ts 3=.ptr (h1.next+3) 0)
  (by simp only[am,aL,simprocAttr,bV,ra,rb,eA,mW q0,<-hm1,mW q1,<-hm2,mW q2,<-hm3,xF q3,mva,mvb,bx,ec,eo,eH,<-hm4]) ?_)
 rintro ts h2 ⟨hh2,t1,t3⟩;subst hh2;clear hm1 hm2 hm3 hm4;have n2:h2.next=h1.next+4:=by rw[v4.nx,v3.nx,v2.nx,v1.nx,kn]
 have gk:∀c,c<h1.next->h2.get c=h1.get c:=λc hc=>by rw[v4.ne om,v3.ne om,v2.ne om,v1.ne om,kg,if_neg om]
 have x2:Ext h1.next h1 h2:=⟨om,gk,λc hc=>by rw[v4.ty,v3.ty,v2.ty,v1.ty];exact Oc 4 h1⟩
 have gE:h2.get h1.next=some (.cells (cq [.nils] n) 1 false):=by rw[v4.ne om,v3.ne om,v2.ne om];exact v1.get
 have gN:h2.get (h1.next+1)=some (.cells (il n λ_=>0) 1 false):=by rw[v4.ne om,v3.ne om,v2.get,yL]
 have gL:h2.get (h1.next+2)=some (.cells (il n λ_=>0) 1 false):=by rw[v4.ne om,v3.get,yL]
 have gS:=v4.get;have g1:h2.get h.next=some (.cells [.int .i64 (n:Nat),ev] 2 false):=by rw[gk _ om];exact g0
 clear v1 v2 v3 v4 q0 q1 q2 q3 kg kn k1 ra rb bx mva mvb;have X2:Ext h.next h h2:=x0.trans (x2.mono om);have rE:ai h2 h.next 1 1=some [ev]:=bq g1 rfl;have rl:(cq [AV.nils] n).length=n:=by rw[eQ,cA]
 refine ae (ae (ak (M4 t1 t3 rE hlen) ?_))
 refine fi (α:=List AV) (N:=E.length) (λ_ _=>[(3,.ptr (h1.next+3) 0),(19,ev)])
  (λk a h'=>h'.get (h1.next+3)=some (.cells [.int .i64 (n:Nat),ev,.sl h1.next 0 n n,.sl (h1.next+1) 0 n n,.sl (h1.next+2) 0 n n,.int .i64 0,.nils,.nils] 8 false)/\h'.get h1.next=some (.cells a 1 false)/\h'.get (h1.next+1)=some (.cells (il n λ_=>0) 1 false)/\h'.get (h1.next+2)=some (.cells (il n λ_=>0) 1 false)/\a.length=n/\Rw h' h2.next a (mf n E k)/\Ext h1.next h1 h'/\h2.next<=h'.next)
  (cq [.nils] n) (λ_ _=>rfl) om (H1 t3) ⟨gS,gE,gN,gL,rl,Fc h2 n E,x2,ab _⟩ ?_ ?_
 .clear gS gE gN gL;rintro k es ts h5 hk ⟨j1,j2,j3,j4,j5,j6,j7,j8⟩ ⟨ei,en,e3,e19,-⟩;simp only at ei en e3 e19 j2 j5 j6;obtain⟨q1,q2,q3⟩:=hE k hk;have hLk:=hL k hk;have X5:Ext h.next h h5:=x0.trans (j7.mono om);obtain⟨b1,p1,a1,r1,_⟩:=(he.ext X5 (ab _)).at (cm (f:=eE) hk);rw[q1]at r1;generalize ha:tlE E k=a at *
  generalize hb:hdE E k=b at *
  obtain⟨h6,w6,x6,g6,n6⟩:=gD (h:=h5) (z:=[.int .i64 0,.int .i64 0]) (cs:=[.int .i64 (a:Nat),.int .i64 (b:Nat)]) (e:=2) rfl;refine ae (ak (by simp only[am,aL,simprocAttr,e3,e19,ei,a1,r1,eE,w6]<;>rfl) ?_);obtain⟨x7,p7,n7,y7⟩:=fO (h:=h6) (o:=.cells [.int .i64 (k:Nat)] 1 false);have kg:∀c,c<h6.next->(h6.keep 1).get c=h6.get c:=λc hc=>by rw[AH.keep_get,if_neg om]
  have q7:(h6.keep 1).get h6.next=some .resv:=ff;have j1':h6.get (h1.next+3)=some (.cells [.int .i64 (n:Nat),ev,.sl h1.next 0 n n,.sl (h1.next+1) 0 n n,.sl (h1.next+2) 0 n n,.int .i64 0,.nils,.nils] 8 false):=by rw[x6.gt _ om];exact j1
  have j2':h6.get h1.next=some (.cells es 1 false):=by rw[x6.gt _ om];exact j2
  have s1':ai (h6.keep 1) (h1.next+3) 2 1=some [.sl h1.next 0 n n]:=by rw[aR (by rw[kg _ om];exact j1')];rfl
  have s2':ai (h6.keep 1) h5.next 0 1=some [.int .i64 (a:Nat)]:=by rw[aR (by rw[kg _ om];exact g6)];rfl
  have hR:Rw ((h6.keep 1).put h6.next (.cells [.int .i64 (k:Nat)] 1 false)) h2.next es (mf n E k):=j6.cong λc hc hcn=>by rw[y7 _ om,x6.gt _ om]
  obtain⟨va,va',h8,s1,s2,s3,s4,s5,s6,s7,s8⟩:=hR.push (i:=a) (x:=h6.next) (k:=(k:Nat)) (mP q2) om p7 om (λj b n q=>by have:=j6.lt q;omega)
   (by rw[fj];have:=xJ (E:=E) (k:=k) (x:=a);omega)
  have v3:ai (h6.keep 1) h1.next a 1=some [va]:=bq (by rw[kg _ om];exact j2') s1;have ia:fe ((a:Nat):Int) n=some a:=cK q2;have d1:h8.get (h1.next+3)=some (.cells [.int .i64 (n:Nat),ev,.sl h1.next 0 n n,.sl (h1.next+1) 0 n n,.sl (h1.next+2) 0 n n,.int .i64 0,.nils,.nils] 8 false):=by rw[s6.gt _ om,y7 _ om];exact j1'
  have d2:h8.get h1.next=some (.cells es 1 false):=by rw[s6.gt _ om,y7 _ om];exact j2'
  have d5:h8.get h5.next=some (.cells [.int .i64 (a:Nat),.int .i64 (b:Nat)] 2 false):=by rw[(s8 _ om (λj b n q=>by have:=j6.lt q;omega)).1,y7 _ om];exact g6
  have f1:ai h8 (h1.next+3) 2 1=some [.sl h1.next 0 n n]:=by rw[aR d1];rfl
  have f2:ai h8 h5.next 0 1=some [.int .i64 (a:Nat)]:=by rw[aR d5];rfl
  have f3:=ew (v:=va') d2 (show a<es.length by omega);have u9:=Oi (o:=.cells (es.set a va') 1 false) d2;refine ae (lY (by simp only[am,aL,simprocAttr,e3,s1',s2',v3,eA,dR q7,ia,aP,s2,s3,s4,f1,f2,f3]<;>rfl) ?_);generalize h8.put h1.next (.cells (es.set a va') 1 false)=h9 at *
  have n9:=u9.nx;have hR9:Rw h9 h2.next (es.set a va') ((mf n E k).set a (nI (mX E k a)++[((k:Nat):Int)])):=s5.cong λc hc _=>u9.ne om;have l9:∀(j b n:Nat),(es.set a va')[j]?=some (AV.sl b 0 n n)->b≠h5.next:=λj b n' q=>(s8 _ om (λj b n q=>by have:=j6.lt q;omega)).2 j b n' q;have l6:∀(j b n:Nat),(es.set a va')[j]?=some (AV.sl b 0 n n)->b<h9.next:=λj b n' q=>(hR9.lt q).1;obtain⟨X7,P7,N7,Y7⟩:=fO (h:=h9) (o:=.cells [.int .i64 (k:Nat)] 1 false);have kg2:∀c,c<h9.next->(h9.keep 1).get c=h9.get c:=λc hc=>by rw[AH.keep_get,if_neg om]
  have Q7:(h9.keep 1).get h9.next=some .resv:=ff;have J1:h9.get (h1.next+3)=some (.cells [.int .i64 (n:Nat),ev,.sl h1.next 0 n n,.sl (h1.next+1) 0 n n,.sl (h1.next+2) 0 n n,.int .i64 0,.nils,.nils] 8 false):=by rw[u9.ne om];exact d1
  have J2:=u9.get;have J5:h9.get h5.next=some (.cells [.int .i64 (a:Nat),.int .i64 (b:Nat)] 2 false):=by rw[u9.ne om];exact d5
  have V1:ai (h9.keep 1) (h1.next+3) 2 1=some [.sl h1.next 0 n n]:=by rw[aR (by rw[kg2 _ om];exact J1)];rfl
  have V2:ai (h9.keep 1) h5.next 1 1=some [.int .i64 (b:Nat)]:=by rw[aR (by rw[kg2 _ om];exact J5)];rfl
  have HR:Rw ((h9.keep 1).put h9.next (.cells [.int .i64 (k:Nat)] 1 false)) h2.next (es.set a va') ((mf n E k).set a (nI (mX E k a)++[((k:Nat):Int)])):=hR9.cong λc hc hcn=>Y7 _ om
  obtain⟨vb,vb',H8,S1,S2,S3,S4,S5,S6,S7,S8⟩:=HR.push (i:=b) (x:=h9.next) (k:=(k:Nat)) (xs:=nI (mX E k b)) (by rw[dq hLk];exact mP q3) om P7 om (λj b n q=>by have:=l6 j b n q;omega)
   (by rw[fj];have:=xJ (E:=E) (k:=k) (x:=b);omega)
  have hst:=Fb (n:=n) (E:=E) (k:=k) om om om;rw[ha,hb]at hst;rw[hst]at S5;have hol:(es.set a va').length=n:=by rw[cx,j5]
  have V3:ai (h9.keep 1) h1.next b 1=some [vb]:=bq (by rw[kg2 _ om];exact J2) S1;have ib:fe ((b:Nat):Int) n=some b:=cK q3;have D1:H8.get (h1.next+3)=some (.cells [.int .i64 (n:Nat),ev,.sl h1.next 0 n n,.sl (h1.next+1) 0 n n,.sl (h1.next+2) 0 n n,.int .i64 0,.nils,.nils] 8 false):=by rw[S6.gt _ om,Y7 _ om];exact J1
  have D2:H8.get h1.next=some (.cells (es.set a va') 1 false):=by rw[S6.gt _ om,Y7 _ om];exact J2
  have D5:H8.get h5.next=some (.cells [.int .i64 (a:Nat),.int .i64 (b:Nat)] 2 false):=by rw[(S8 _ om l9).1,Y7 _ om];exact J5
  have F1:ai H8 (h1.next+3) 2 1=some [.sl h1.next 0 n n]:=by rw[aR D1];rfl
  have F2:ai H8 h5.next 1 1=some [.int .i64 (b:Nat)]:=by rw[aR D5];rfl
  have F3:=ew (v:=vb') D2 (show b<(es.set a va').length by omega);have U9:=Oi (o:=.cells ((es.set a va').set b vb') 1 false) D2;refine lY (by simp only[am,aL,simprocAttr,e3,V1,V2,V3,eA,dR Q7,ib,aP,S2,S3,S4,F1,F2,F3]<;>rfl) ?_;generalize H8.put h1.next (.cells ((es.set a va').set b vb') 1 false)=H9 at *
  have N9:=U9.nx;refine⟨(es.set a va').set b vb',⟨by rw[U9.ne om];exact D1,U9.get,?_,?_,by rw[cx,hol],S5.cong λc hc _=>U9.ne om,?_,om⟩,H4 ei en e3 e19⟩
  .rw[U9.ne om,S6.gt _ om,Y7 _ om,u9.ne om,s6.gt _ om,y7 _ om,x6.gt _ om];exact j3
  .rw[U9.ne om,S6.gt _ om,Y7 _ om,u9.ne om,s6.gt _ om,y7 _ om,x6.gt _ om];exact j4
  .exact j7.trans ((x6.mono om).trans ((x7.mono om).trans ((s6.mono om).trans ((u9.ext (ab _)).trans ((X7.mono om).trans ((S6.mono om).trans (U9.ext om)))))))
 .rintro es ts h5 ⟨j1,j2,j3,j4,j5,j6,j7,j8⟩ ⟨e3,e19,-⟩;simp only at e3 j2 j5 j6;refine ae (ak (M1 e3) ?_);have X5:Ext h.next h h5:=x0.trans (j7.mono om);have he5:=he.ext X5 (ab _);refine bu ⟨.ptr (h1.next+3) 0,(by simp only[rs,rf54,am,aL,simprocAttr]<;>rfl),h1.next+3,h1.next,h1.next+1,h1.next+2,rfl,X5,⟨om,om,om⟩,{ he:=he5,oe:=?_,ge:=⟨es,j2,j5,λx v q=>?_⟩,ne:=⟨om,om,om,om,om,om⟩,lt:=⟨om,om,om⟩},{ kp:=Kp.refl,cell:=j1,gn:=j3,gl:=j4,st:=.inl ⟨rfl,rfl⟩,bl:=.inl ⟨rfl,rfl⟩,rl:=rfl,rw:=λj v l q=>by simp at q,sb:=Sep.nill}⟩
  .have key:∀v:AV,(∀b o m c,v=.sl b o m c->b<h.next)->Off (SS (h1.next+3) (h1.next+1) (h1.next+2)) v:=λv hv=>by
    cases v<;>try exact trivial
    rename_i b o m c
    have:=hv b o m c rfl;rintro (e|e|e)<;>omega
   exact key ev λb o m c e=>he.lt e
  .have hxn:x<n:=by rw[<-j5];exact(au.1 q).1
   have i1:=j6.2.1 x v _ q (mP hxn);refine⟨Ob om (λ_=>rfl) i1,?_⟩;rcases i1 with⟨rfl,_⟩|⟨b,m,hb,rfl,_⟩
   .exact trivial
   .rintro (e|e|e)<;>omega
end Go.Proofs.YtklpoimdclflmaaGreatDoor
