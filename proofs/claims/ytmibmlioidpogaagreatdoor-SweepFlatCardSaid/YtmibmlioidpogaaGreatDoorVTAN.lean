/- A row of edges that give way to others, vertex by vertex, gi -/
import Derived.Test.YtmibmlioidpogaaGreatDoorVTAM
set_option linter.all false
namespace Go.Pla
open Go.Blk
section
variable {g:Gr}
inductive Rise(g:Gr):List Nat->List Nat->Prop
 |nil {R:List Nat}:Rise g [] R
 |step {x:Nat}{q A I C O:List Nat} (ni:I.Nodup) (hi:∀e,e∈I↔e<g.m/\g.hd e=x) (no:O.Nodup) (ho:∀e,e∈O↔e<g.m/\g.tl e=x)
  (nd:(A++O++C).Nodup) (t:Rise g q (A++O++C)):Rise g (x::q) (A++I++C)
abbrev EvS(g:Gr):={X:Nat->Bool // Even g (List.range g.m) X}
def phi(g:Gr)(L:List Nat):EvS g->Bool:=λX=>par L X.1
theorem ya{I O:List Nat}{x:Nat}(ni:I.Nodup)(hi:∀e,e∈I↔e<g.m/\g.hd e=x)(no:O.Nodup)(ho:∀e,e∈O↔e<g.m/\g.tl e=x){D:Nat->Bool} :
 par (List.range g.m) (λe=>D e&&at_ g e x)=(par I D^^par O D):=by
 have h1:par (List.range g.m) (λe=>D e&&at_ g e x)=par (List.range g.m) (λe=>(decide (e∈I)&&D e)^^(decide (e∈O)&&D e)):=bH λe he=>by
  have he':=bm.1 he;have ok:=(g.ok e he').2.2;unfold at_;by_cases a:g.tl e=x<;>by_cases b:g.hd e=x
  .exact absurd (a.trans b.symm) ok
  .have c1:¬e∈I:=λz=>b ((hi e).1 z).2;have c2:e∈O:=(ho e).2 ⟨he',a⟩;simp[a,b,c1,c2]
  .have c1:e∈I:=(hi e).2 ⟨he',b⟩;have c2:¬e∈O:=λz=>a ((ho e).1 z).2;simp[a,b,c1,c2]
  .have c1:¬e∈I:=λz=>b ((hi e).1 z).2;have c2:¬e∈O:=λz=>a ((ho e).1 z).2;simp[c1,c2,beq_eq_false_iff_ne.2 a,beq_eq_false_iff_ne.2 b]
 have h2:∀{L:List Nat},L.Nodup->(∀e∈L,e<g.m)->par (List.range g.m) (λe=>decide (e∈L)&&D e)=par L D:=fun {L} nl hl=>by
  rw[<-lV (p:=D) (q:=λe=>decide (e∈L))];exact yg ((jA (List.nodup_range.filter _) nl).2 λe=>by
   rw[bq,bm,aI];exact⟨λh=>h.2,λh=>⟨hl e h,h⟩⟩)
 rw[h1,eQ,h2 ni λe he=>((hi e).1 he).1,h2 no λe he=>((ho e).1 he).1]
def rt(g:Gr)(lf:Nat->EvS g->Bool)(e:Nat):EvS g->Bool:=λX=>lf e X^^X.1 e
def KW(g:Gr)(lf:Nat->EvS g->Bool)(R:List Nat):Prop:=∀A e C,R=A++e::C->lf e=phi g A
theorem tele{lf:Nat->EvS g->Bool}{S:(EvS g->Bool)->Bool}:∀(I A:List Nat),(∀A' e C',I=A'++e::C'->lf e=phi g (A++A'))->par I (λe=>S (lf e)^^S (rt g lf e))=(S (phi g A)^^S (phi g (A++I)))
 |[],A,_=>by
   rw[bW,par];cases S (phi g A)<;>rfl
 |e::I,A,h=>by
   have h0:=h [] e I rfl;rw[bW]at h0;have h1:rt g lf e=phi g (A++[e]):=funext λX=>by
    unfold rt;rw[h0];unfold phi;rw[jT];simp[par]
   have ih:=tele I (A++[e]) (S:=S) λA' k C' hk=>by
    rw[bD];exact h (e::A') k C' (by rw[hk];rfl)
   rw[par,ih,h0,h1,bD,List.singleton_append];cases S (phi g A)<;>cases S (phi g (A++[e]))<;>cases S (phi g (A++e::I))<;>rfl
theorem uc:∀{q R:List Nat} (lf:Nat->EvS g->Bool),Rise g q R->R.Nodup->q.Nodup->(∀e∈R,g.tl e∉q)->KW g lf R ->
 ∃lf':Nat->EvS g->Bool,(∀e,e<g.m->g.tl e∉q->lf' e=lf e)/\∀v∈q,∀S:(EvS g->Bool)->Bool,par (List.range g.m) (λe=>(S (lf' e)^^S (rt g lf' e))&&at_ g e v)=false
 |_,_,lf,.nil,_,_,_,_=>⟨lf,λ_ _ _=>rfl,λv hv=>by cases hv⟩
 |_,_,lf,.step (x:=x) (q:=q) (A:=A) (I:=I) (C:=C) (O:=O) ni hi no ho nd t,ndR,ndq,hR,kn=>by
   obtain⟨hx,ndq'⟩:=aS.1 ndq;have hA0:∀e∈A,e∉O:=λe he h=>by
    rw[bD,aJ]at nd;exact nd.2.2 e he e (bp _ h) rfl
   have hC0:∀e∈C,e∉O:=λe he h=>by
    rw[aJ]at nd;exact nd.2.2 e (eZ _ h) e he rfl
   have ph:phi g (A++I)=phi g (A++O):=funext λX=>by
    have h1:=X.2 x;rw[ya ni hi no ho]at h1;unfold phi;rw[jT,jT];revert h1;cases par I X.1<;>cases par O X.1<;>simp
   obtain⟨pr,hpr⟩:∃pr:Nat->List Nat,∀A' e C',O=A'++e::C'->pr e=A':=⟨λe=>O.takeWhile λk=>!(k==e),λA' e C' h=>by
    have hn:∀k∈A',(!(k==e))=true:=λk hk=>by
     have:k≠e:=λz=>by
      subst z;rw[h,aJ]at no;exact no.2.2 k hk k (by simp) rfl
     simp[this]
    show List.takeWhile (λk=>!(k==e)) O=A';rw[h,List.takeWhile_append_of_pos hn];simp⟩
   classical
   let lf1:Nat->EvS g->Bool:=λe=>if e∈O then phi g (A++pr e)else lf e
   have e1:∀e,e∉O->lf1 e=lf e:=λe he=>if_neg he;have e2:∀A' e C',O=A'++e::C'->lf1 e=phi g (A++A'):=λA' e C' h=>by
    have:e∈O:=by rw[h];simp
    show(if e∈O then _ else _)=_;rw[if_pos this,hpr A' e C' h]
   have kn1:KW g lf1 (A++O++C):=λA' e C' h=>by
    rw[bD]at h;rcases jM.1 h with⟨U,rfl,h2⟩|⟨U,rfl,h2⟩
    ·
     rcases jM.1 h2 with⟨V,rfl,h3⟩|⟨V,h3,h4⟩
     ·
      have he:e∈C:=by rw[h3];simp
      rw[e1 e (hC0 e he),kn (A++I++V) e C' (by rw[h3];simp)];funext X;have:=congrFun ph X;unfold phi at this |-;rw[jT,this,jT,jT,jT,Bool.xor_assoc]
     .cases V with
      |nil =>
        rw[bW]at h3;subst h3;rw[aW]at h4;have he:e∈C:=by rw[<-h4];simp
        rw[e1 e (hC0 e he),kn (A++I) e C' (by rw[<-h4]),ph]
      |cons a V =>
        simp only[aB,de]at h4;obtain⟨rfl,_⟩:=h4;exact e2 U e V h3
    .cases U with
     |nil =>
       rw[bW]at *
       rw[aW]at h2;cases O with
       |nil =>
         rw[aW]at h2;have he:e∈C:=by rw[<-h2];simp
         have hp:=ph;rw[bW]at hp;rw[e1 e (hC0 e he),kn (A'++I) e C' (by rw[<-h2]),hp]
       |cons a O' =>
         simp only[aB,de]at h2;obtain⟨rfl,_⟩:=h2;have:=e2 [] e O' rfl;rwa [bW]at this
     |cons a U =>
       simp only[aB,de]at h2;obtain⟨rfl,_⟩:=h2;rw[e1 e (hA0 e (by simp)),kn A' e (U++I++C) (by simp)]
   have hR1:∀e∈A++O++C,g.tl e∉q:=λe he=>by
    rw[aw,aw]at he;rcases he with(he|he)|he
    .exact λh=>hR e (by simp[he]) (aQ _ h)
    .rw[((ho e).1 he).2];exact hx
    .exact λh=>hR e (by simp[he]) (aQ _ h)
   obtain⟨lf',k1,k2⟩:=uc lf1 t nd ndq' hR1 kn1;refine⟨lf',λe he hq=>?_,λv hv S=>?_⟩
   .rw[k1 e he λh=>hq (aQ _ h)];exact e1 e λh=>hq (by rw[((ho e).1 h).2];exact bt ..)
   .rcases au.1 hv with rfl|hv
    .rw[ya ni hi no ho];have f1:∀e∈I,lf' e=lf e:=λe he=>by
      have:=hR e (by simp[he]);rw[k1 e ((hi e).1 he).1 λh=>this (aQ _ h)];exact e1 e λh=>this (by rw[((ho e).1 h).2];exact bt ..)
     have f2:∀e∈O,lf' e=lf1 e:=λe he=>k1 e ((ho e).1 he).1 (by rw[((ho e).1 he).2];exact hx);have t1:=tele (lf:=lf') (S:=S) I A λA' e C' h=>by
      rw[f1 e (by rw[h];simp)];exact kn (A++A') e (C'++C) (by rw[h];simp)
     have t2:=tele (lf:=lf') (S:=S) O A λA' e C' h=>by
      rw[f2 e (by rw[h];simp)];exact e2 A' e C' h
     rw[t1,t2,ph];cases S (phi g A)<;>cases S (phi g (A++O))<;>rfl
    .exact k2 v hv S
theorem rise_flat{q:List Nat}(r:Rise g q [])(nd:q.Nodup)(all:∀v,v<g.n->v∈q):∃(Φ:Type) (l r:Nat->Φ),Dual g (List.range g.m) l r:=by
 obtain⟨lf,_,h⟩:=uc (λ_ _=>false) r lD nd (λe he=>by cases he) (λA e C h=>by
  have:=congrArg List.length h;simp at this)
 refine⟨EvS g->Bool,lf,rt g lf,λS v=>?_,λX hX=>⟨λf=>f ⟨X,hX⟩,λe _=>?_⟩⟩
 .by_cases hv:v<g.n
  .exact h v (all v hv) S
  .refine ft λe he=>?_;have ok:=g.ok e (bm.1 he);have a:g.tl e≠v:=om;have b:g.hd e≠v:=om;simp[at_,beq_eq_false_iff_ne.2 a,beq_eq_false_iff_ne.2 b]
 .unfold rt;cases lf e ⟨X,hX⟩<;>simp
end
end Go.Pla
namespace Go.Proofs.YtmibmlioidpogaaGreatDoor
open Go.Am
def eR(row:List It):List Nat:=(row.filter λi=>decide (0<=i.1)).map λi=>i.1.toNat
theorem sY{a b:List It}:eR (a++b)=eR a++eR b:=by
 unfold eR;rw[dW,dn]
theorem GQ{a:List It}{e:Nat}:e∈eR a↔∃i∈a,i.1=(e:Nat):=by
 unfold eR;rw[bA];constructor
 .rintro⟨i,hi,rfl⟩;rw[bq,aI]at hi;exact⟨i,hi.1,om⟩
 .rintro⟨i,hi,he⟩;exact⟨i,bq.2 ⟨hi,bj om⟩,om⟩
theorem nE:∀{l:List Int},(∀i∈l,0<=i)->l.Nodup->(l.map Int.toNat).Nodup
 |[],_,_=>lD
 |a::l,h,n=>by
   obtain⟨n1,n2⟩:=aS.1 n;refine aS.2 ⟨λhm=>?_,nE (λi hi=>h i (aQ _ hi)) n2⟩;obtain⟨b,hb,e⟩:=bA.1 hm;have h1:=h a (bt ..);have h2:=h b (aQ _ hb);obtain rfl:b=a:=om;exact n1 hb
theorem Inv.er{n:Nat}{es:List (Int×Int)}{row:List It}{pl:List Int}(v:Inv n es row pl):(eR row).Nodup:=by
 have:=nE (l:=(row.filter λi=>decide (0<=i.1)).map (·.1)) (λi hi=>by
  obtain⟨j,hj,rfl⟩:=bA.1 hi;rw[bq,aI]at hj;exact hj.2) v.nd
 rwa [jI]at this
theorem yQ{es:List (Int×Int)}{x:Int}{l:List Int}(h:∀i∈l,0<=i):eR (gz es x l)=l.map Int.toNat:=by
 unfold gz;split
 .rename_i hl
  subst hl;rfl
 .unfold eR;rw[List.filter_eq_self.2 λi hi=>by
   obtain⟨k,hk,rfl⟩:=bA.1 hi;exact bj (h k hk),jI]
  rfl
section
variable {n:Nat}{E:List (Int×Int)}{hE:InG n E}{hL:∀i,i<E.length->tlE E i≠hdE E i}
theorem Gt{e:Nat}{t d:Int}(hE:InG n E)(h:E[e]?=some (t,d)):e<E.length/\t=(tlE E e:Nat)/\d=(hdE E e:Nat):=by
 obtain⟨hl,h⟩:=aG.1 h;have:=(hE e hl).1;rw[h,aj]at this;exact⟨hl,this.1,this.2⟩
theorem Ap{e:Nat}(hE:InG n E)(h:e<E.length):E[e]?=some (((tlE E e:Nat):Int),((hdE E e:Nat):Int)):=by
 rw[ai h,(hE e h).1]
theorem ua{outs:List (List Int)}(hone:∀a b:Nat,a<n->b<n->(eD E a).length=0->(eD E b).length=0->a=b)(hout:∀x:Int,0<=x/\x<n->OutsOk E x (outs.getD x.toNat [])) :
 ∀(q pl:List Int) (row:List It) (ends:List (List It)) (i:Nat) (r:List (List It)×List It),Inv n E row pl->tE n E outs q pl row ends i=.inl r->Go.Pla.Rise (grE n E hE hL) (q.map Int.toNat) (eR row)
 |[],_,_,_,_,_,_,_=>.nil
 |x::q,pl,row,ends,i,r,v,h=>by
   unfold tE at h;by_cases q1:ii n E row pl x=true
   .rw[if_pos q1]at h;obtain⟨h1,h2,h3⟩:=CN.1 q1;have ho:=hout x h1;have v':=v.next ho h2 h3 hone h1;have ih:=ua hone hout q _ _ _ _ r v' h;have nd:=v'.er;obtain⟨m,rfl⟩:∃m:Nat,x=m:=⟨x.toNat,om⟩
    have hpos:∀i∈outs.getD (Int.toNat (m:Int)) [],0<=i:=λi hi=>by
     obtain⟨k,rfl,_⟩:=jD.1 (ho.mem.1 hi);omega
    have no:=nE hpos ho.nodup;have hho:∀e,e∈(outs.getD (Int.toNat (m:Int)) []).map Int.toNat↔e<(grE n E hE hL).m/\(grE n E hE hL).tl e=m:=λe=>by
     show _↔e<E.length/\tlE E e=m;rw[bA];constructor
     .rintro⟨i,hi,rfl⟩;obtain⟨k,rfl,t,ht⟩:=jD.1 (ho.mem.1 hi);obtain⟨a,b,_⟩:=Gt hE ht;rw[bU];exact⟨a,om⟩
     .rintro⟨a,b⟩;exact⟨((e:Nat):Int),ho.mem.2 (jD.2 ⟨e,rfl,_,by rw[Ap hE a,b]⟩),bU e⟩
    rw[bI];rcases Bp.1 h3 with⟨z0,z1⟩|⟨A,X,C,c,z1,z2⟩
    .rw[uo z1,sY,yQ hpos]at ih nd;refine Go.Pla.Rise.step (A:=[]) (I:=[]) (C:=eR row) (x:=m) lD (λe=>⟨λhe=>(by cases he),λ⟨a,b⟩=>?_⟩) no hho (by simpa using nd) (by simpa using ih);have:((e:Nat):Int)∈eD E (m:Int):=vR.2 ⟨e,rfl,_,by rw[Ap hE a,show hdE E e=m from b]⟩;rw[aY.1 z0]at this;cases this
    .rw[c.next,sY,sY,yQ hpos]at ih nd;have hrow:eR row=eR A++eR X++eR C:=by rw[c.eq,sY,sY]
     have nr:=v.er;rw[hrow];rw[hrow,bD,aJ]at nr;have nX:=(aJ.1 nr.2.1).1;have hX:∀i∈X,i∈row:=λi hi=>by rw[c.eq];simp[hi]
     have inX:∀i∈X,i.2.2=m->∃k:Nat,i.1=k/\E[k]?=some (i.2.1,(m:Int)):=λi hi hm=>by
      rcases v.it i (hX i hi)with⟨_,b⟩|⟨k,a,b,_⟩
      .omega
      .exact⟨k,a,by rw[b,hm]⟩
     refine Go.Pla.Rise.step (I:=eR X) (x:=m) nX (λe=>⟨λhe=>?_,λ⟨a,b⟩=>?_⟩) no hho nd ih
     .obtain⟨i,hi,he⟩:=GQ.1 he;rcases v.it i (hX i hi)with⟨a,_⟩|⟨k,a,b,_⟩
      .omega
      .obtain rfl:k=e:=om;obtain⟨p1,_,p3⟩:=Gt hE b;refine⟨p1,?_⟩;show hdE E k=m;rcases z2 i hi with y|y<;>omega
     ·
      refine Classical.byContradiction λhno=>?_;have l1:((X.filter λi=>decide (i.2.2=((m:Nat):Int))).map (·.1)).length=(eD E (m:Int)).length:=by
       rw[ah,<-ny];exact z1
      have l2:((X.filter λi=>decide (i.2.2=((m:Nat):Int))).map (·.1)).Nodup:=by
       have s1:(X.filter λi=>decide (i.2.2=((m:Nat):Int))).Sublist (row.filter λi=>decide (0<=i.1)):=by
        have:(X.filter λi=>decide (i.2.2=((m:Nat):Int)))=(X.filter λi=>decide (0<=i.1)).filter λi=>decide (i.2.2=((m:Nat):Int)):=by
         rw[Ba];refine Ei λi hi=>?_;by_cases hm:i.2.2=((m:Nat):Int)
         .obtain⟨k,hk,_⟩:=inX i hi hm;have:0<=i.1:=om;simp[hm,this]
         .simp[hm]
        rw[this,c.eq,bD,dW,dW];exact List.filter_sublist.trans ((List.sublist_append_left ..).trans (List.sublist_append_right ..))
       exact(s1.map _).nodup v.nd
      have l3:=Ag (l:=((e:Nat):Int)::(X.filter λi=>decide (i.2.2=((m:Nat):Int))).map (·.1)) (m:=eD E (m:Int)) (aS.2 ⟨λhm=>?_,l2⟩) λy hy=>?_
      .rw[aq,l1]at l3;omega
      .obtain⟨i,hi,hie⟩:=bA.1 hm;exact hno (GQ.2 ⟨i,(bq.1 hi).1,hie⟩)
      .rcases au.1 hy with rfl|hy
       .exact vR.2 ⟨e,rfl,_,by rw[Ap hE a,show hdE E e=m from b]⟩
       .obtain⟨i,hi,rfl⟩:=bA.1 hy;rw[bq,aI]at hi;obtain⟨k,hk,hk2⟩:=inX i hi.1 hi.2;exact vR.2 ⟨k,hk,_,hk2⟩
   .rw[if_neg q1]at h;cases h
end
open Go.Am
open Go.Am
open Go.Am
open Go.Am
open Go.Am
open Go.Am
variable {a v:AV}{h:AH}{lo:Nat}{xss:List (List Nat)}
theorem Ji{n:Nat}{es:List (Int×Int)}(hl:(rM n es).length<=1):∀a b:Nat,a<n->b<n->(eD es a).length=0->(eD es b).length=0->a=b:=by
 intro a b ha hb h1 h2;refine Decidable.byContradiction λhne=>?_;have mem:∀c:Nat,c<n->(eD es c).length=0->((c:Nat):Int)∈rM n es:=λc hc h=>by
  unfold rM;exact bA.2 ⟨c,bq.2 ⟨bm.2 hc,by simpa using h⟩,rfl⟩
 have:=Ag (l:=[((a:Nat):Int),((b:Nat):Int)]) (m:=rM n es) (by simp;omega) (λx hx=>by
  simp only[au,aR,or_false]at hx;rcases hx with rfl|rfl
  .exact mem a ha h1
  .exact mem b hb h2)
 simp only[aq,aK]at this;omega
open Go.Am
abbrev SlN(h:AH)(v:AV)(l:List Nat):Prop:=SlI h v (l.map λn=>((n:Nat):Int))
def nC(l:List Nat):List AV:=(l.map λn=>((n:Nat):Int)).flatMap eI
theorem jj(l:List Nat):(nC l).length=l.length:=by
 unfold nC;rw[fQ (f:=eI) (e:=1) (λ_=>rfl),ah];omega
theorem vO(a b:List Nat):nC (a++b)=nC a++nC b:=by
 unfold nC;rw[dn,dD]
theorem eP{l:List Nat}(hv:IsSl h 1 lo v (nC l)):SlN h v l:=LY om (λ_=>rfl) hv
def LL(h:AH)(lo:Nat)(a:AV)(xss:List (List Nat)):Prop :=
 ∃vs:List AV,IsSl h 1 lo a vs/\vs.length=xss.length/\∀(i:Nat) (v:AV) (xs:List Nat),vs[i]?=some v->xss[i]?=some xs->IsSl h 1 lo v (nC xs)/\∀b n b' n',v=.sl b 0 n n->a=.sl b' 0 n' n'->b≠b'
theorem LL.ext{h h':AH}{lo hi:Nat}{a:AV}{xss:List (List Nat)}(hl:LL h lo a xss)(hx:Ext hi h h')(hn:h.next<=hi):LL h' lo a xss:=by
 obtain⟨vs,h1,h2,h3⟩:=hl;exact⟨vs,h1.ext hx hn,h2,λi v xs q1 q2=>⟨(h3 i v xs q1 q2).1.ext hx hn,(h3 i v xs q1 q2).2⟩⟩
theorem LL.push{x:Nat}{xs:List Nat}(hl:LL h lo a xss)(hlo:lo<=h.next)(hv:IsSl h 1 lo v (nC xs))(hx:h.get x=some (.cells [v] 1 false))(hxl:lo<=x)(hxa:∀b n,a=.sl b 0 n n->b≠x)
 (hva:∀b n b' n',v=.sl b 0 n n->a=.sl b' 0 n' n'->b≠b') (hb:(xss.length+1)*24<bd) :
 ∃a' h',iJ h 1 24 a (.sl x 0 1 1)=some (a',h')/\LL h' lo a' (xss++[xs])/\Ext lo h h'/\h'.next=h.next+1/\(∀c,c<h.next->(∀b n,a=.sl b 0 n n->c≠b)->h'.get c=h.get c)/\∀c n,a'=.sl c 0 n n->c=h.next:=by
 obtain⟨vs,h1,h2,h3⟩:=hl;obtain⟨a',h',q1,q2,q3,q4,q5,q6,_⟩:=h1.app (bytes:=24) hlo om hx hxl hxa rfl (by simp[hv.cells.2]) (by rw[jy,h2];exact hb) (by rw[jy,h2];unfold bd at *;omega);have keep:∀(w:AV) (cs:List AV),IsSl h 1 lo w cs->(∀b n b' n',w=.sl b 0 n n->a=.sl b' 0 n' n'->b≠b')->IsSl h' 1 lo w cs/\∀b n b' n',w=.sl b 0 n n->a'=.sl b' 0 n' n'->b≠b':=λw cs hw hn=>by
  refine⟨hw.cong λb n e _=>q6 b (hw.lt e) λb' n' e'=>hn b n b' n' e e',λb n b' n' e e'=>?_⟩;have:=hw.lt e;rw[q4]at e';cases e';omega
 refine⟨a',h',q1,⟨vs++[v],q2,by rw[aC,aC,h2];rfl,λi w ys e1 e2=>?_⟩,q3,q5,q6,λc n e=>by rw[q4]at e;cases e;rfl⟩;by_cases hi:i<vs.length
 .rw[bC hi]at e1;rw[bC om]at e2;obtain⟨k1,k2⟩:=h3 i w ys e1 e2;exact keep w _ k1 k2
 .have hil:i<(vs++[v]).length:=(aG.1 e1).1;rw[aC,aq,aK]at hil;have hi':i=vs.length:=om;subst hi';rw[aX om,eF]at e1;rw[h2,aX om,eF]at e2;cases e1;cases e2;exact keep v _ hv hva
theorem LL.at(hl:LL h lo a xss){i:Nat}(hi:i<xss.length):∃b o v,jS 1 a (.int .i64 (i:Nat))=some (.ptr b o)/\ak h b o 1=some [v]/\IsSl h 1 lo v (nC xss[i])/\b<h.next:=by
 obtain⟨vs,h1,h2,h3⟩:=hl;have hs:Sl h 1 a (vs.map λx=>[x]):=by
  rcases h1 with⟨rfl,rfl⟩|⟨b,n,_,rfl,hg,hn⟩
  .exact .inl ⟨rfl,.inl rfl⟩
  .exact Ma hg om (ab _)
 have hv:vs[i]?=some (vs[i]'om):=ai _;obtain⟨b,o,q1,q2,q3⟩:=hs.at1 (i:=i) (y:=vs[i]'om) (by rw[aE,hv];rfl);exact⟨b,o,_,q1,q2,(h3 i _ _ hv (ai hi)).1,q3⟩
theorem LL.len(hl:LL h lo a xss):fY a=some (.int .i64 (xss.length:Nat)):=by
 obtain⟨vs,h1,h2,h3⟩:=hl;rcases h1 with⟨rfl,rfl⟩|⟨b,n,_,rfl,hg,hn⟩
 .rw[<-h2];rfl
 .rw[<-h2,hn,aM];rfl
theorem LL.cong{h h':AH}{lo:Nat}{a:AV}{xss:List (List Nat)}(hl:LL h lo a xss)(hk:∀c,lo<=c->c<h.next->h'.get c=h.get c):LL h' lo a xss:=by
 obtain⟨vs,h1,h2,h3⟩:=hl;exact⟨vs,h1.cong λb n e hb=>hk b hb (h1.lt e),h2,λi v xs q1 q2=>⟨(h3 i v xs q1 q2).1.cong λb n e hb=>hk b hb ((h3 i v xs q1 q2).1.lt e),(h3 i v xs q1 q2).2⟩⟩
theorem LL.lt{h:AH}{lo:Nat}{a:AV}{xss:List (List Nat)}(hl:LL h lo a xss){b n:Nat}(e:a=.sl b 0 n n):b<h.next:=by
 obtain⟨vs,h1,_⟩:=hl;exact h1.lt e
end Go.Proofs.YtmibmlioidpogaaGreatDoor
namespace Go.Pla
open Go.Blk
variable {A B L:List (Nat×Nat)}{i r x y:Nat}
variable (g:Gr) (Bl:List Nat) (laid thr:Nat->Bool)
abbrev LQ:=List (Nat×Nat)×List Nat
def ks(L:List (Nat×Nat)):List Nat:=L.map (·.1)
def goes(x:Nat)(L:List (Nat×Nat))(i:Nat):Bool:=at_ g i x&&(!((ks L).contains (g.oth i x))&&!(laid i))
def stepE(x:Nat)(s:LQ)(i:Nat):LQ:=if goes g laid x s.1 i=true then(s.1++[(g.oth i x,x)],if thr (g.oth i x)=true then s.2++[g.oth i x]else s.2)else s
def full:Nat->LQ->List (Nat×Nat)
 |0,s=>s.1
 |f+1,s=>match s.2 with
   |[]=>s.1
   |x::Q=>full f (Bl.foldl (stepE g laid thr x) (s.1,Q))
variable {g Bl laid thr}
structure Met(g:Gr)(Bl:List Nat)(laid thr:Nat->Bool)(r:Nat)(L:List (Nat×Nat)):Prop where
 root:∃T,L=(r,r)::T
 nd:(ks L).Nodup
 par:∀A y x C,L=A++(y,x)::C->A≠[]->x∈ks A/\(x=r\/thr x=true)/\∃i∈Bl,jn g i x y=true/\laid i=false
theorem ks_app:ks (A++B)=ks A++ks B:=dn
theorem Met.push(m:Met g Bl laid thr r L)(hB:∀i∈Bl,i<g.m)(hi:i∈Bl)(hx:x∈ks L)(hxr:x=r\/thr x=true)(hg:goes g laid x L i=true):Met g Bl laid thr r (L++[(g.oth i x,x)]):=by
 unfold goes at hg;simp only[aL,cZ,dT,aO]at hg;obtain⟨h1,h2,h3⟩:=hg;have hinc:=(at_inc (hB i hi)).1 h1;obtain⟨T,hT⟩:=m.root;refine⟨⟨T++[(g.oth i x,x)],by rw[hT];rfl⟩,?_,λA y z C h hA=>?_⟩
 .rw[ks_app,aJ];refine⟨m.nd,by simp[ks],λa ha b hb=>?_⟩;have:b=g.oth i x:=by simpa[ks]using hb
  subst this;exact λe=>h2 (e▸ha)
 .rcases cU C with rfl|⟨C,q,rfl⟩
  .obtain⟨e1,e2⟩:=di h rfl;injection e2 with e2;injection e2 with e2 e3;subst e1 e2 e3;refine⟨hx,hxr,i,hi,?_,h3⟩;rw[jn_iff];unfold Gr.oth;rcases hinc.2 with q|q
   .exact .inl ⟨q,om⟩
   .exact .inr ⟨om,q⟩
  .rw[dl]at h;have h':L++[(g.oth i x,x)]=(A++(y,z)::C)++[q]:=by rw[h];simp
   obtain⟨e1,_⟩:=di h' rfl;exact m.par A y z C e1 hA
structure Srch(g:Gr)(Bl:List Nat)(laid thr:Nat->Bool)(r:Nat)(s:LQ)(cu:Option (Nat×List Nat)):Prop where
 met:Met g Bl laid thr r s.1
 que:∀z∈s.2,z∈ks s.1/\(z=r\/thr z=true)
 cur:∀x is,cu=some (x,is)->x∈ks s.1/\(x=r\/thr x=true)/\∀i∈Bl,i∉is->at_ g i x=true->laid i=false->g.oth i x∈ks s.1
 done:∀z∈ks s.1,(z=r\/thr z=true)->z∈s.2\/(∃is,cu=some (z,is))\/∀i∈Bl,at_ g i z=true->laid i=false->g.oth i z∈ks s.1
theorem Srch.start:Srch g Bl laid thr r ([(r,r)],[r]) none where
 met:=⟨⟨[],rfl⟩,by simp[ks],λA y x C h hA=>by
  cases A with
  |nil=>exact absurd rfl hA
  |cons a A =>
    have:=congrArg List.length h;simp at this⟩
 que:=λz hz=>by
  have:z=r:=by simpa using hz
  subst this;simp[ks]
 cur:=λx is h=>by cases h
 done:=λz hz _=>.inl (by simpa[ks]using hz)
theorem Srch.pop{Q:List Nat}(s:Srch g Bl laid thr r (L,x::Q) none):Srch g Bl laid thr r (L,Q) (some (x,Bl)) where
 met:=s.met
 que:=λz hz=>s.que z (aQ _ hz)
 cur:=λy is h=>by
  injection h with h;injection h with h1 h2;subst h1 h2;have:=s.que x (by simp);exact⟨this.1,this.2,λi hi hn=>absurd hi hn⟩
 done:=λz hz hr=>by
  rcases s.done z hz hr with h|⟨is,h⟩|h
  .rcases au.1 h with rfl|h
   .exact .inr (.inl ⟨Bl,rfl⟩)
   .exact .inl h
  .cases h
  .exact .inr (.inr h)
variable {s:LQ}
theorem Srch.step{is:List Nat}(h:Srch g Bl laid thr r s (some (x,i::is)))(hB:∀i∈Bl,i<g.m)(hi:i∈Bl):Srch g Bl laid thr r (stepE g laid thr x s i) (some (x,is)):=by
 obtain⟨c1,c2,c3⟩:=h.cur x _ rfl;by_cases hg:goes g laid x s.1 i=true
 .rw[stepE,if_pos hg];have mp:=h.met.push hB hi c1 c2 hg;have hk:∀z,z∈ks s.1->z∈ks (s.1++[(g.oth i x,x)]):=λz hz=>by rw[ks_app];exact bp _ hz
  have hn:g.oth i x∈ks (s.1++[(g.oth i x,x)]):=by rw[ks_app];simp[ks]
  have hq2:∀z,z∈s.2->z∈(if thr (g.oth i x)=true then s.2++[g.oth i x]else s.2):=λz hz=>by
   split
   .exact bp _ hz
   .exact hz
  refine⟨mp,λz hz=>?_,λy js e=>?_,λz hz hr=>?_⟩
  .dsimp only at hz |-;by_cases ht:thr (g.oth i x)=true
   .rw[if_pos ht]at hz;rcases aw.1 hz with hz|hz
    .exact⟨hk z (h.que z hz).1,(h.que z hz).2⟩
    .have:z=g.oth i x:=by simpa using hz
     subst this;exact⟨hn,.inr ht⟩
   .rw[if_neg ht]at hz;exact⟨hk z (h.que z hz).1,(h.que z hz).2⟩
  .injection e with e;injection e with e1 e2;subst e1 e2;refine⟨hk _ c1,c2,λj hj hjn ha hl=>?_⟩;by_cases hji:j=i
   .subst hji;exact hn
   .exact hk _ (c3 j hj (by simp[hji,hjn]) ha hl)
  .dsimp only at hz |-;rw[ks_app]at hz;rcases aw.1 hz with hz|hz
   .rcases h.done z hz hr with h1|⟨js,h1⟩|h1
    .exact .inl (hq2 z h1)
    .injection h1 with h1;injection h1 with h1 _;subst h1;exact .inr (.inl ⟨is,rfl⟩)
    .exact .inr (.inr λj hj ha hl=>hk _ (h1 j hj ha hl))
   .have:z=g.oth i x:=by simpa[ks]using hz
    subst this;rcases hr with hr|hr
    .obtain⟨T,hT⟩:=h.met.root;unfold goes at hg;simp only[aL,cZ,dT,aO]at hg;exact absurd (by rw[hr,hT];simp[ks]) hg.2.1
    .exact .inl (by rw[if_pos hr];simp)
 .rw[stepE,if_neg hg];refine⟨h.met,h.que,λy js e=>?_,λz hz hr=>?_⟩
  .injection e with e;injection e with e1 e2;subst e1 e2;refine⟨c1,c2,λj hj hjn ha hl=>?_⟩;by_cases hji:j=i
   .subst hji;unfold goes at hg;rw[ha,hl]at hg;simpa using hg
   .exact c3 j hj (by simp[hji,hjn]) ha hl
  .rcases h.done z hz hr with h1|⟨js,h1⟩|h1
   .exact .inl h1
   .injection h1 with h1;injection h1 with h1 _;subst h1;exact .inr (.inl ⟨is,rfl⟩)
   .exact .inr (.inr h1)
theorem Srch.end(h:Srch g Bl laid thr r s (some (x,[]))):Srch g Bl laid thr r s none where
 met:=h.met
 que:=h.que
 cur:=λ_ _ e=>by cases e
 done:=λz hz hr=>by
  rcases h.done z hz hr with h1|⟨js,h1⟩|h1
  .exact .inl h1
  .injection h1 with h1;injection h1 with h1 h2;subst h1 h2;exact .inr (.inr λi hi=>(h.cur x [] rfl).2.2 i hi (by simp))
  .exact .inr (.inr h1)
def trr:List (Nat×Nat)->Nat->List Nat
 |[],_=>[]
 |(z,x)::A,y=>if z=y then(if A=[]then [y]else trr A x++[y])else trr A y
def tr(L:List (Nat×Nat))(y:Nat):List Nat:=trr L.reverse y
theorem Bf{y:Nat}:∀{B A:List (Nat×Nat)},y∉ks B->trr (B++A) y=trr A y
 |[],_,_=>rfl
 |(z,x)::B,A,h=>by
   have h1:z≠y:=λe=>h (by simp[ks,e]);have h2:y∉ks B:=λe=>h (by simp only[ks,bI,au]at e |-;exact .inr e);rw[aB,trr,if_neg h1,Bf h2]
theorem tr_app(nd:(ks (A++B)).Nodup)(h:y∈ks A):tr (A++B) y=tr A y:=by
 unfold tr;rw[List.reverse_append];refine Bf λhb=>?_;rw[ks_app,aJ]at nd;have:y∈ks B:=by simpa[ks]using hb
 exact nd.2.2 y h y this rfl
theorem Met.pre{C:List (Nat×Nat)}(m:Met g Bl laid thr r (A++C))(hA:A≠[]):Met g Bl laid thr r A:=by
 obtain⟨T,hT⟩:=m.root;refine⟨?_,?_,λX y x Y h hX=>m.par X y x (Y++C) (by rw[h];simp) hX⟩
 .cases A with
  |nil=>exact absurd rfl hA
  |cons a A=>rw[aB]at hT;injection hT with h1 _;exact⟨A,by rw[h1]⟩
 .have:=m.nd;rw[ks_app,aJ]at this;exact this.1
theorem tr_root(m:Met g Bl laid thr r L):tr L r=[r]:=by
 obtain⟨T,hT⟩:=m.root;rw[hT,show(r,r)::T=[(r,r)]++T by rfl,tr_app (by rw[<-show(r,r)::T=[(r,r)]++T from rfl,<-hT];exact m.nd) (by simp[ks])];simp[tr,trr]
theorem tr_last(hA:A≠[]):tr (A++[(y,x)]) y=tr A x++[y]:=by
 unfold tr;rw[List.reverse_append];simp[trr,hA]
theorem vw:∀(L:List (Nat×Nat)) (y:Nat),(trr L y).length<=L.length
 |[],_=>by simp[trr]
 |(z,x)::A,y=>by
   have h1:=vw A x;have h2:=vw A y;rw[trr];split
   .split
    .simp
    .simp;omega
   .simp;omega
theorem tr_len(L:List (Nat×Nat))(y:Nat):(tr L y).length<=L.length:=by
 have:=vw L.reverse y;simpa[tr]using this
theorem tr_ok{r:Nat}:∀(n:Nat) {L:List (Nat×Nat)},L.length<=n->Met g Bl laid thr r L->∀y∈ks L,∃t,tr L y=r::t/\lst r t=y/\(r::t).Nodup/\Ch g (Bl.filter λi=>!(laid i)) (r::t)/\∀z∈r::t,z∈ks L/\(z=r\/thr z=true\/z=y)
 |0,L,hn,m=>by
   obtain⟨T,hT⟩:=m.root;rw[hT]at hn;simp at hn
 |n+1,L,hn,m=>by
   intro y hy;rcases cU L with h|⟨A,⟨z,x⟩,h⟩
   .rw[h]at hy;simp[ks]at hy
   rw[dl]at h;subst h;by_cases hA:A=[]
   .subst hA;obtain⟨T,hT⟩:=m.root;have hyr:y=r:=by
     rw[hT]at hy;rw[aW]at hT;injection hT with h1 h2;subst h2;simpa[ks]using hy
    subst hyr;refine⟨[],tr_root m,rfl,by simp,trivial,λz hz=>?_⟩;have:z=y:=by simpa using hz
    subst this;exact⟨hy,.inl rfl⟩
   .have mA:=m.pre hA;by_cases hyA:y∈ks A
    .obtain⟨t,h1,h2,h3,h4,h5⟩:=tr_ok n (by simp at hn;omega) mA y hyA;refine⟨t,(tr_app m.nd hyA).trans h1,h2,h3,h4,λz hz=>?_⟩;exact⟨by rw[ks_app];exact bp _ (h5 z hz).1,(h5 z hz).2⟩
    .have hyz:y=z:=by
      rw[ks_app,aw]at hy;rcases hy with hy|hy
      .exact absurd hy hyA
      .simpa[ks]using hy
     subst hyz;obtain⟨hx,hxr,i,hi,hj,hli⟩:=m.par A y x [] rfl hA;obtain⟨t,h1,h2,h3,h4,h5⟩:=tr_ok n (by simp at hn;omega) mA x hx;have hyt:y∉r::t:=λh=>hyA (h5 y h).1;have key:∀(t:List Nat) (u:Nat),Ch g (Bl.filter λi=>!(laid i)) (u::t)->lst u t=x->Ch g (Bl.filter λi=>!(laid i)) (u::(t++[y]))/\lst u (t++[y])=y:=by
      intro t;induction t with
      |nil =>
        intro u _ hl;have hl':u=x:=hl;subst hl';exact⟨⟨⟨i,by simp[hi,hli],hj⟩,trivial⟩,rfl⟩
      |cons w t iht =>
        intro u hc hl;obtain⟨q1,q2⟩:=iht w hc.2 hl;exact⟨⟨hc.1,q1⟩,q2⟩
     obtain⟨k1,k2⟩:=key t r h4 h2;refine⟨t++[y],by rw[tr_last hA,h1];rfl,k2,?_,k1,λw hw=>?_⟩
     .rw[<-aB,aJ];exact⟨h3,by simp,λa ha b hb=>by
       have:b=y:=by simpa using hb
       subst this;exact λe=>hyt (e▸ha)⟩
     .rw[<-aB,aw]at hw;rcases hw with hw|hw
      .obtain⟨q1,q2⟩:=h5 w hw;refine⟨by rw[ks_app];exact bp _ q1,?_⟩;rcases q2 with q|q|q
       .exact .inl q
       .exact .inr (.inl q)
       .subst q;rcases hxr with q|q
        .exact .inl q
        .exact .inr (.inl q)
      .have:w=y:=by simpa using hw
       subst this;exact⟨hy,.inr (.inr rfl)⟩
end Go.Pla
namespace Go.Proofs.YtmibmlioidpogaaGreatDoor
open Go.Am
variable {H V:Nat->Bool}{bb pa x:Nat}{edv ev fav:AV}{h:AH}
structure Bu(h:AH)(bb n:Nat)(ev edv:AV)(E:List (Int×Int))(Bl:List Nat)(la pa:Nat)(H V:Nat->Bool)(fav:AV):Prop where
 o:h.get bb=some (.cells [.int .i64 (n:Nat),ev,edv,.sl la 0 E.length E.length,.sl pa 0 n n,fav] 6 false)
 e:SlE h ev E
 b:SlN h edv Bl
 l:h.get la=some (.cells (bl E.length H) 1 false)
 v:h.get pa=some (.cells (bl n V) 1 false)
 d:bb≠la/\bb≠pa/\la≠pa
 oe:Off (λc=>c=la\/c=pa\/c=bb) ev
 ob:Off (λc=>c=la\/c=pa\/c=bb) edv
theorem Bu.ext{h h':AH}{bb n k:Nat}{ev edv:AV}{E:List (Int×Int)}{Bl:List Nat}{la pa:Nat}{H V:Nat->Bool}{fav:AV}(u:Bu h bb n ev edv E Bl la pa H V fav)(x:Ext k h h')(hk:h.next<=k):Bu h' bb n ev edv E Bl la pa H V fav where
 o:=by rw[x.gt _ (bS (AH.lt_of_get u.o) hk)];exact u.o
 e:=u.e.ext x hk
 b:=u.b.ext x hk
 l:=by rw[x.gt _ (bS (AH.lt_of_get u.l) hk)];exact u.l
 v:=by rw[x.gt _ (bS (AH.lt_of_get u.v) hk)];exact u.v
 d:=u.d
 oe:=u.oe
 ob:=u.ob
theorem Bu.kp{h h':AH}{bb n:Nat}{ev edv:AV}{E:List (Int×Int)}{Bl:List Nat}{la pa:Nat}{H V:Nat->Bool}{fav:AV}(u:Bu h bb n ev edv E Bl la pa H V fav){S:Nat->Prop}(k:Kp S h h')(hb:¬S bb)(hl:¬S la)(hp:¬S pa)(he:Off S ev)(hd:Off S edv):Bu h' bb n ev edv E Bl la pa H V fav where
 o:=by rw[k.gt _ (AH.lt_of_get u.o) hb];exact u.o
 e:=u.e.kp k he
 b:=u.b.kp k hd
 l:=by rw[k.gt _ (AH.lt_of_get u.l) hl];exact u.l
 v:=by rw[k.gt _ (AH.lt_of_get u.v) hp];exact u.v
 d:=u.d
 oe:=u.oe
 ob:=u.ob
theorem gm{S T:Nat->Prop}{v:AV}(h:Off S v)(hs:∀c,T c->S c):Off T v:=by
 cases v<;>first|trivial|exact λq=>h (hs _ q)
theorem Bu.putV{n:Nat}{E:List (Int×Int)}{Bl:List Nat}{la:Nat}(u:Bu h bb n ev edv E Bl la pa H V fav)(hx:x<n) :
 ∃h',bV h pa x [.bool true]=some h'/\Bu h' bb n ev edv E Bl la pa H (λj=>if j=x then true else V j) fav/\Upd h h' pa (.cells (bl n λj=>if j=x then true else V j) 1 false):=by
 have w:=hG (v:=.bool true) u.v (i:=x) (by rw[oS];exact hx);rw[wT]at w;have uu:=Md (o:=.cells (bl n λj=>if j=x then true else V j) 1 false) u.v;have k:=uu.kp (S:=λc=>c=pa) rfl;refine⟨_,w,⟨?_,u.e.kp k (gm u.oe λc h=>.inr (.inl h)),u.b.kp k (gm u.ob λc h=>.inr (.inl h)),?_,uu.get,u.d,u.oe,u.ob⟩,uu⟩
 .rw[uu.ne (u.d.2.1)];exact u.o
 .rw[uu.ne (u.d.2.2)];exact u.l
theorem Bu.putH{n:Nat}{E:List (Int×Int)}{Bl:List Nat}{la:Nat}(u:Bu h bb n ev edv E Bl la pa H V fav)(hx:x<E.length) :
 ∃h',bV h la x [.bool true]=some h'/\Bu h' bb n ev edv E Bl la pa (λj=>if j=x then true else H j) V fav/\Upd h h' la (.cells (bl E.length λj=>if j=x then true else H j) 1 false):=by
 have w:=hG (v:=.bool true) u.l (i:=x) (by rw[oS];exact hx);rw[wT]at w;have uu:=Md (o:=.cells (bl E.length λj=>if j=x then true else H j) 1 false) u.l;have k:=uu.kp (S:=λc=>c=la) rfl;refine⟨_,w,⟨?_,u.e.kp k (gm u.oe λc h=>.inl h),u.b.kp k (gm u.ob λc h=>.inl h),uu.get,?_,u.d,u.oe,u.ob⟩,uu⟩
 .rw[uu.ne (u.d.1)];exact u.o
 .rw[uu.ne (Ne.symm u.d.2.2)];exact u.v
def ll(E:List (Int×Int))(i x:Nat):Bool:=decide (tlE E i=x)||decide (hdE E i=x)
def mG(E:List (Int×Int))(i x:Nat):Int:=((tlE E i:Nat):Int)+((hdE E i:Nat):Int)-((x:Nat):Int)
theorem lU{n:Nat}{E:List (Int×Int)}{Bl:List Nat}{la:Nat}(u:Bu h bb n ev edv E Bl la pa H V fav)(hE:InG n E)(hn:n<2^40){i x:Nat}(hi:i<E.length)(hx:x<n) :
 C prg 101 [.ptr bb 0,.int .i64 (i:Nat),.int .i64 (x:Nat)] h λv h'=>v=.tup [.int .i64 (mG E i x),.bool (ll E i x)]/\Ext h.next h h':=by
 refine Me pf101 ?_;obtain⟨q1,q2,q3⟩:=hE i hi;obtain⟨b,p,a,rr,_,_⟩:=u.e.at (eJ (f:=eE) hi);rw[q1]at rr;have rse:ak h bb 1 1=some [ev]:=br u.o rfl;have w1:IntKind.i64.wrap (((tlE E i:Nat):Int)+((hdE E i:Nat):Int))=((tlE E i:Nat):Int)+((hdE E i:Nat):Int):=fW om om;have w2:IntKind.i64.wrap (((tlE E i:Nat):Int)+((hdE E i:Nat):Int)-((x:Nat):Int))=mG E i x:=fW om om;obtain⟨h3,w3,x3,g3,n3⟩:=iB (h:=h) (z:=[.int .i64 0,.int .i64 0]) (cs:=[.int .i64 (tlE E i:Nat),.int .i64 (hdE E i:Nat)]) (e:=2) rfl;refine ae (ar (Mi0) ?_);refine ae (ar (by simp only[am,aD,simprocAttr,bE,rse,a,rr,eE,w3]<;>rfl) ?_);have ra:ak h3 h.next 0 1=some [.int .i64 (tlE E i:Nat)]:=br g3 rfl;have rb:ak h3 h.next 1 1=some [.int .i64 (hdE E i:Nat)]:=br g3 rfl;have d1:decide (((tlE E i:Nat):Int)=((x:Nat):Int))=decide (tlE E i=x):=by rw[decide_eq_decide];omega
 have d2:decide (((hdE E i:Nat):Int)=((x:Nat):Int))=decide (hdE E i=x):=by rw[decide_eq_decide];omega
 have ib:ll E i x=(decide (tlE E i=x)||decide (hdE E i=x)):=rfl;by_cases ht:tlE E i=x
 .rw[bj ht]at d1 ib;refine ae (cr (λts h'=>h'=h3/\bz ts 6=.int .i64 (mG E i x)/\bz ts 7=.bool (ll E i x)) (by simp only[am,aD,simprocAttr,bE,ra,rb,w1,w2,d1,ib,Bool.true_or]) ?_);rintro ts h4 ⟨rfl,e6,e7⟩;exact bG ⟨.tup [.int .i64 (mG E i x),.bool (ll E i x)],(by simp only[rs,rf101,am,aD,simprocAttr,e6,e7]<;>rfl),rfl,x3⟩
 .rw[aN ht]at d1 ib;refine ae (cr (λts h'=>h'=h3/\bz ts 6=.int .i64 (mG E i x)/\bz ts 7=.bool (ll E i x)) (by simp only[am,aD,simprocAttr,bE,ra,rb,w1,w2,d1,d2,ib,gU]) ?_);rintro ts h4 ⟨rfl,e6,e7⟩;exact bG ⟨.tup [.int .i64 (mG E i x),.bool (ll E i x)],(by simp only[rs,rf101,am,aD,simprocAttr,e6,e7]<;>rfl),rfl,x3⟩
open Go.Am
def upG{α:Type}[DecidableEq α]:List (α×AV)->α->AV->List (α×AV)
 |[],k,v=>[(k,v)]
 |p::r,k,v=>if p.1=k then(k,v)::r else p::upG r k v
def lkG{α:Type}[DecidableEq α]:List (α×AV)->α->Option AV
 |[],_=>none
 |p::r,k=>if p.1=k then some p.2 else lkG r k
def KeyE{α:Type}[DecidableEq α](e:RE)(κ:α->AV):Prop:=∀a b,jf e (κ a) (κ b)=some (decide (a=b))
theorem wj:KeyE .ki (λk:Int=>AV.int .i64 k):=λa b=>by
 simp only[jf,if_true,aa];by_cases e:a=b
 .subst e;simp
 .rw[aN e,beq_eq_false_iff_ne];exact e
theorem keyP:KeyE (.flat [.i64,.i64]) (λk:Int×Int=>AV.agg [.int .i64 k.1,.int .i64 k.2]):=λa b=>by
 obtain⟨a1,a2⟩:=a;obtain⟨b1,b2⟩:=b;by_cases e:a1=b1
 .subst e;by_cases e:a2=b2
  .subst e;simp[jf,eqF,fz]
  .have:(a2==b2)=false:=by rw[beq_eq_false_iff_ne];exact e
   simp[jf,eqF,fz,this,e]
 .have:(a1==b1)=false:=by rw[beq_eq_false_iff_ne];exact e
  simp[jf,eqF,fz,this,e]
theorem KeyE.ok{α:Type}[DecidableEq α]{e:RE}{κ:α->AV}(hk:KeyE e κ)(a:α):qI e (κ a)=true:=by
 unfold qI;rw[hk a a];rfl
section
variable {es:List (AV×AV×Nat)}{h:AH}{v:AV}
variable {α:Type} [DecidableEq α] {e:RE}{κ:α->AV}
theorem rH:∀{l:List (α×AV)}{k:α}{v:AV},(upG l k v).map (·.1)=if k∈l.map (·.1)then l.map (·.1)else l.map (·.1)++[k]
 |[],k,v=>by simp[upG]
 |p::r,k,v=>by
   unfold upG;by_cases q:p.1=k
   .rw[if_pos q,bI,bI,if_pos (by simp[q]),q]
   .rw[if_neg q,bI,rH,bI];by_cases m:k∈r.map (·.1)
    .rw[if_pos m,if_pos (aQ _ m)]
    .rw[if_neg m,if_neg (by rw[au];rintro (h|h);exact q h.symm;exact m h)];rfl
theorem tR{l:List (α×AV)}{k:α}(h:(l.map (·.1)).Nodup):((upG l k v).map (·.1)).Nodup:=by
 rw[rH];split
 .exact h
 .rename_i hk
  rw[aJ];refine⟨h,by simp,λa ha b hb=>?_⟩;rw[cV]at hb;subst hb;rintro rfl;exact hk ha
theorem kB:∀{l:List (α×AV)}{k k':α}{v:AV},lkG (upG l k v) k'=if k'=k then some v else lkG l k'
 |[],k,k',v=>by
   simp only[upG,lkG];by_cases q:k=k'
   .rw[if_pos q,if_pos q.symm]
   .rw[if_neg q,if_neg λe=>q e.symm]
 |p::r,k,k',v=>by
   unfold upG;by_cases q:p.1=k
   .rw[if_pos q];simp only[lkG];by_cases m:k'=k
    .rw[if_pos m,if_pos m.symm]
    .rw[if_neg m,if_neg (λe=>m e.symm),if_neg (λe=>m (e.symm.trans q))]
   .rw[if_neg q];simp only[lkG];rw[kB];by_cases m:p.1=k'
    .rw[if_pos m,if_pos m,if_neg (λe=>q (m.trans e))]
    .rw[if_neg m,if_neg m]
theorem FX{l:List (α×AV)}{k:α}:lkG l k=none↔k∉l.map (·.1):=by
 induction l with
 |nil=>simp[lkG]
 |cons p r ih =>
   simp only[lkG,bI,au];by_cases q:p.1=k
   .rw[if_pos q];simp[q.symm]
   .rw[if_neg q,ih];constructor
    .rintro h (e|e)
     .exact q e.symm
     .exact h e
    .exact λh e=>h (.inr e)
theorem BH:∀{l:List (α×AV)},(l.map (·.1)).Nodup->∀p∈l,lkG l p.1=some p.2
 |q::r,hn,p,hp=>by
   rw[bI]at hn;obtain⟨h1,h2⟩:=aS.1 hn;simp only[lkG];rcases au.1 hp with rfl|hp
   .rw[if_pos rfl]
   .rw[if_neg λe=>h1 (by rw[e];exact List.mem_map_of_mem hp)];exact BH h2 p hp
theorem vQ:∀{l:List (α×AV)}{k:α}{v:AV},lkG l k=some v->(k,v)∈l
 |p::r,k,v,h=>by
   simp only[lkG]at h;split at h
   .rename_i q
    cases h;subst q;exact bt ..
   .exact aQ _ (vQ h)
def EntG(κ:α->AV)(es:List (AV×AV×Nat))(l:List (α×AV)):Prop:=es.map (λx=>(x.1,x.2.1))=l.map λp=>(κ p.1,p.2)
theorem EntG.len{l:List (α×AV)}(h:EntG κ es l):es.length=l.length:=by
 have:=congrArg List.length h;simpa using this
theorem sE(hk:KeyE e κ):∀{es:List (AV×AV×Nat)}{l:List (α×AV)},EntG κ es l->∀k:α,(lkG l k=none/\iO e (κ k) es=some none/\∀v,upG l k v=l++[(k,v)]) \/
 ∃i v n,iO e (κ k) es=some (some (i,v,n))/\es[i]?=some (κ k,v,n)/\lkG l k=some v/\∀u,upG l k u=l.set i (k,u)
 |[],l,h,k=>by
   have:l=[]:=by
    have:=congrArg List.length h;simp at this;exact aY.1 this.symm
   subst this;exact .inl ⟨rfl,rfl,λ_=>rfl⟩
 |x::r,[],h,k=>by simp[EntG]at h
 |(a,b,n)::r,p::l,h,k=>by
   have h':=h;simp only[EntG,bI,de,aj]at h';obtain⟨⟨rfl,rfl⟩,h2⟩:=h';have hq:=hk k p.1;by_cases q:p.1=k
   .rw[bj q.symm]at hq;refine .inr ⟨0,p.2,n,?_,by rw[q];rfl,?_,λu=>?_⟩
    .simp only[iO,hq]
    .simp only[lkG,if_pos q]
    .simp only[upG,if_pos q,List.set_cons_zero]
   .rw[aN (λe=>q e.symm)]at hq;rcases sE hk (es:=r) (l:=l) h2 k with⟨h3,h4,h5⟩|⟨i,v,m,h3,h4,h5,h6⟩
    .refine .inl ⟨?_,?_,λv=>?_⟩
     .simp only[lkG,if_neg q,h3]
     .simp only[iO,hq,h4];rfl
     .simp only[upG,if_neg q,h5];rfl
    .refine .inr ⟨i+1,v,m,?_,h4,?_,λu=>?_⟩
     .simp only[iO,hq,h3];rfl
     .simp only[lkG,if_neg q,h5]
     .simp only[upG,if_neg q,h6,List.set_cons_succ]
structure EsG(κ:α->AV)(es:List (AV×AV×Nat))(c:Nat)(l:List (α×AV)):Prop where
 ent:EntG κ es l
 nod:(l.map (·.1)).Nodup
 st1:(es.map (·.2.2)).Pairwise (·<·)
 st2:∀x∈es,x.2.2<c
def MapG(κ:α->AV)(h:AH)(mb:Nat)(l:List (α×AV)):Prop:=∃es c,h.get mb=some (.mapo es c)/\EsG κ es c l
theorem MapG.nil{h:AH}{mb c:Nat}(hg:h.get mb=some (.mapo [] c)):MapG κ h mb []:=⟨[],c,hg,rfl,.nil,.nil,λx hx=>by cases hx⟩
theorem MapG.cong{h':AH}{mb:Nat}{l:List (α×AV)}(m:MapG κ h mb l)(hg:h'.get mb=h.get mb):MapG κ h' mb l:=by
 obtain⟨es,c,h1,h2⟩:=m;exact⟨es,c,by rw[hg];exact h1,h2⟩
theorem MapG.lt{mb:Nat}{l:List (α×AV)}(m:MapG κ h mb l):mb<h.next:=by
 obtain⟨es,c,h1,_⟩:=m;exact AH.lt_of_get h1
theorem MapG.len{h:AH}{mb:Nat}{l:List (α×AV)}(m:MapG κ h mb l):sA h (.mp mb)=some (.int .i64 (l.length:Nat)):=by
 obtain⟨es,c,h1,h2⟩:=m;have:=h2.ent.len;simp only[sA,h1,this]
theorem MapG.nod{h:AH}{mb:Nat}{l:List (α×AV)}(m:MapG κ h mb l):(l.map (·.1)).Nodup:=by
 obtain⟨es,c,h1,h2⟩:=m;exact h2.nod
theorem MapG.look(hk:KeyE e κ){mb:Nat}{l:List (α×AV)}(m:MapG κ h mb l)(z:AV)(k:α):oD h e false z (.mp mb) (κ k)=some ((lkG l k).getD z):=by
 obtain⟨es,c,h1,h2⟩:=m;rcases sE hk h2.ent k with⟨q1,q2,_⟩|⟨i,v,n,q1,q2,q3,_⟩
 .simp only[oD,h1,hk.ok,q2,if_true,q1];rfl
 .simp only[oD,h1,hk.ok,q1,if_true,q3];rfl
theorem MapG.look2(hk:KeyE e κ){mb:Nat}{l:List (α×AV)}(m:MapG κ h mb l)(z:AV)(k:α):oD h e true z (.mp mb) (κ k)=some (.tup [(lkG l k).getD z,.bool (lkG l k).isSome]):=by
 obtain⟨es,c,h1,h2⟩:=m;rcases sE hk h2.ent k with⟨q1,q2,_⟩|⟨i,v,n,q1,q2,q3,_⟩
 .simp only[oD,h1,hk.ok,q2,if_true,q1];rfl
 .simp only[oD,h1,hk.ok,q1,if_true,q3];rfl
theorem EsG.set{es:List (AV×AV×Nat)}{c i n:Nat}{l:List (α×AV)}{k:α}{v u:AV}(h:EsG κ es c l)(hi:es[i]?=some (κ k,v,n))(hu:upG l k u=l.set i (k,u)):EsG κ (es.set i (κ k,u,n)) c (upG l k u):=by
 refine⟨?_,tR h.nod,?_,λx hx=>?_⟩
 .unfold EntG;rw[hu,tB,tB,h.ent]
 .have:(es.set i (κ k,u,n)).map (·.2.2)=es.map (·.2.2):=by
   rw[tB];refine du λj=>?_;rw[dK];split
   .rename_i e
    subst e;have hl:=(aG.1 hi).1;rw[aE,hi,ah,if_pos hl];rfl
   .rfl
  rw[this];exact h.st1
 .rcases List.mem_or_eq_of_mem_set hx with hx|rfl
  .exact h.st2 x hx
  .have:=h.st2 _ (dJ hi);exact this
theorem EsG.add{c:Nat}{l:List (α×AV)}{k:α}(h:EsG κ es c l)(hu:upG l k v=l++[(k,v)]):EsG κ (es++[(κ k,v,c)]) (c+1) (upG l k v):=by
 refine⟨?_,tR h.nod,?_,λx hx=>?_⟩
 .unfold EntG;rw[hu,dn,dn,h.ent];rfl
 .rw[dn,xi];refine⟨h.st1,by simp,λa ha b hb=>?_⟩;simp only[bI,List.map_nil,cV]at hb;subst hb;obtain⟨x,hx,rfl⟩:=bA.1 ha;exact h.st2 x hx
 .rcases aw.1 hx with hx|hx
  .have:=h.st2 x hx;omega
  .rw[cV]at hx;subst hx;show c<c+1;omega
theorem MapG.up(hk:KeyE e κ){mb:Nat}{l:List (α×AV)}(m:MapG κ h mb l)(k:α)(v:AV):∃h',tG h e (.mp mb) (κ k) v=some (.un,h')/\MapG κ h' mb (upG l k v)/\∃o,Upd h h' mb o:=by
 obtain⟨es,c,h1,h2⟩:=m;rcases sE hk h2.ent k with⟨q1,q2,q3⟩|⟨i,w,n,q1,q2,q3,q4⟩
 .have u:=Md (o:=.mapo (es++[(κ k,v,c)]) (c+1)) h1;exact⟨_,by simp only[tG,h1,hk.ok,q2,if_true],⟨_,_,u.get,h2.add (q3 v)⟩,_,u⟩
 .have u:=Md (o:=.mapo (es.set i (κ k,v,n)) c) h1;exact⟨_,by simp only[tG,h1,hk.ok,q1,if_true],⟨_,_,u.get,h2.set q2 (q4 v)⟩,_,u⟩
theorem zH:∀{es:List (AV×AV×Nat)}{i n:Nat}{k v:AV},(es.map (·.2.2)).Pairwise (·<·)->es[i]?=some (k,v,n)->qu ((n:Nat):Int) es=some (i,k,n)
 |(a,b,m)::r,0,n,k,v,hp,hi=>by
   simp only[aP,aa,aj]at hi;obtain⟨rfl,rfl,rfl⟩:=hi;simp only[qu,if_true]
 |(a,b,m)::r,i+1,n,k,v,hp,hi=>by
   rw[bP]at hi;rw[bI,dm]at hp;have:=hp.1 n (bA.2 ⟨_,dJ hi,rfl⟩);have hne:¬((m:Nat):Int)=((n:Nat):Int):=by have this:m<n:=this;omega
   simp only[qu,if_neg hne,zH hp.2 hi,aF]
theorem MapG.men(hk:KeyE e κ){mb:Nat}{l:List (α×AV)}(m:MapG κ h mb l)(z:AV)(k:α):∃h1 n,vP h e z (.mp mb) (κ k)=some (.tup [(lkG l k).getD z,.int .i64 ((n:Nat):Int)],h1)/\(∃o,Upd h h1 mb o)/\oD h1 e false z (.mp mb) (κ k)=some ((lkG l k).getD z) /\
 ∀v,∃h2,ym h1 (.mp mb) (.int .i64 ((n:Nat):Int)) v=some (.un,h2)/\MapG κ h2 mb (upG l k v)/\∃o,Upd h1 h2 mb o:=by
 obtain⟨es,c,h1,h2⟩:=m;rcases sE hk h2.ent k with⟨q1,q2,q3⟩|⟨i,w,n,q1,q2,q3,q4⟩
 .have u:=Md (o:=.mapo (es++[(κ k,z,c)]) (c+1)) h1;have E:=h2.add (q3 z);have m2:MapG κ (h.put mb (.mapo (es++[(κ k,z,c)]) (c+1))) mb (upG l k z):=⟨_,_,u.get,E⟩
  refine⟨_,c,by simp only[vP,h1,hk.ok,q2,if_true,q1];rfl,⟨_,u⟩,by rw[m2.look hk,kB,if_pos rfl,q1];rfl,λv=>?_⟩;have hi:(es++[(κ k,z,c)])[es.length]?=some (κ k,z,c):=by rw[aX (ab _),eF];rfl
  have u2:=Md (o:=.mapo ((es++[(κ k,z,c)]).set es.length (κ k,v,c)) (c+1)) u.get;refine⟨_,by simp only[ym,u.get,zH E.st1 hi],⟨_,_,u2.get,?_⟩,_,u2⟩;have hs:=h2.add (q3 v);have:(es++[(κ k,z,c)]).set es.length (κ k,v,c)=es++[(κ k,v,c)]:=by
   rw[tK _ _ (ab _),eF];rfl
  rw[this];exact hs
 .have u:=Md (o:=.mapo (es.set i (κ k,w,n)) c) h1;have E:=h2.set q2 (q4 w);have m2:MapG κ (h.put mb (.mapo (es.set i (κ k,w,n)) c)) mb (upG l k w):=⟨_,_,u.get,E⟩
  refine⟨_,n,by simp only[vP,h1,hk.ok,q1,if_true,q3,cX],⟨_,u⟩,by rw[m2.look hk,kB,if_pos rfl,q3],λv=>?_⟩;have hl:=(aG.1 q2).1;have hi:(es.set i (κ k,w,n))[i]?=some (κ k,w,n):=cL hl;have u2:=Md (o:=.mapo ((es.set i (κ k,w,n)).set i (κ k,v,n)) c) u.get;refine⟨_,by simp only[ym,u.get,zH E.st1 hi],⟨_,_,u2.get,?_⟩,_,u2⟩;rw[List.set_set];exact h2.set q2 (q4 v)
end
end Go.Proofs.YtmibmlioidpogaaGreatDoor
