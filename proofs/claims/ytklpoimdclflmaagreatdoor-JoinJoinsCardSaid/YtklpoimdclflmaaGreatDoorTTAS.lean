/- The parts of a good graph are good. -/
import Derived.Test.YtklpoimdclflmaaGreatDoorTTAR
set_option linter.all false
namespace Go.Proofs.YtklpoimdclflmaaGreatDoor
open Go.Am
open Go.Blk (Gr Lst canon IsBlock Cls Rel)
variable {es:List Int}{l:Nat->Nat}{v:Int}
def tN{g:Gr}(hl:Lst g l){b:List Nat}(hb:b∈canon g.m l):IsBlock g b:=by
 unfold canon at hb;obtain⟨i,hi,rfl⟩:=bp.1 hb;rw[bB,aX,beq_iff_eq]at hi;refine⟨λe=>?_,λj hj k hk=>?_,λj hj k r=>?_⟩
 .have:i∈(List.range g.m).filter λk=>l k==i:=by rw[bB,aX,beq_iff_eq];exact hi
  rw[e]at this;cases this
 .rw[bB,aX,beq_iff_eq]at hj hk;exact(hl.iff hj.1 hk.1).1 (hj.2.trans hk.2.symm)
 .rw[bB,aX,beq_iff_eq]at hj |-;have hk:k<g.m:=by obtain⟨x,_,q,_⟩:=r;exact q.1
  exact⟨hk,(hl.same j k hj.1 hk r).symm.trans hj.2⟩
def DI:∀(l:List Int) (v:Int),l.Pairwise (·<·)->v∈l->l[l.countP λu=>decide (u<v)]?=some v
 |[],v,_,h=>by cases h
 |a::l,v,hp,h=>by
   obtain⟨p1,p2⟩:=dh.1 hp;by_cases e:v=a
   .subst e;have:(v::l).countP (λu=>decide (u<v))=0:=by
     rw[kX];intro u hu;rcases aF.1 hu with rfl|hu
     .simp
     .have:=p1 u hu;simp only[aK];omega
    rw[this];rfl
   .have hm:v∈l:=by
     rcases aF.1 h with q|q
     .exact absurd q e
     .exact q
    have:=p1 v hm;rw[gr (by simp only[aK];omega),cJ];exact DI l v p2 hm
def lh{n:Nat}{E:List (Int×Int)}(h:v∈vsM n E es):(vsM n E es)[dn n E es v]?=some v:=DI _ v (tf n E es) h
def nG{n:Nat}{E:List (Int×Int)}(h:v∈vsM n E es):dn n E es v<(vsM n E es).length:=(au.1 (lh h)).1
def oT{n:Nat}{E:List (Int×Int)}{w:Int}(h1:v∈vsM n E es)(h2:w∈vsM n E es)(e:dn n E es v=dn n E es w):v=w:=by
 have a:=lh h1;have b:=lh h2;rw[e,b]at a;exact(Option.some.inj a).symm
def Hp{l:List Nat}(hn:l.Nodup)(h:∀a∈l,∀b∈l,a=b):l.length<=1:=by
 match l,hn,h with
 |[],_,_=>simp
 |[a],_,_=>simp
 |a::b::r,hn,h =>
   have:=h a (by simp) b (by simp);subst this;simp at hn
def tJ{E:List (Int×Int)}{x:Int}:∀(i:Nat),(dB (λe=>decide (e.2=x)) E i).length=0↔∀e∈E,e.2≠x:=by
 induction E with
 |nil=>intro i;simp[dB]
 |cons e E ih =>
   intro i;unfold dB;by_cases q:e.2=x
   .simp[q]
   .simp only[q,decide_false,bT,if_false];rw[ih (i+1)];constructor
    .intro h e' he';rcases aF.1 he' with rfl|he'
     .exact q
     .exact h e' he'
    .exact λh e' he'=>h e' (aN _ he')
def jI{n:Nat}{E:List (Int×Int)}(hg:ft (n:Nat) E)(hE:InG n E)(hL:∀i,i<E.length->tlE E i≠hdE E i)(hl:Lst (grE n E hE hL) l){b:List Nat}(hb:b∈canon E.length l) :
 ft (((vsM n E (nI b)).length:Nat):Int) (fo n E (nI b)):=by
 obtain⟨k1,k2,k3,k4⟩:=eG hb;obtain⟨hm,_,hnd,⟨rk,hrk⟩,hsrc⟩:=hg;obtain⟨m1,m2,m3,m4⟩:=iX hm;have hbk:=tN (g:=grE n E hE hL) hl hb;have hvl:=oM n E (nI b);have hsl:(fo n E (nI b)).length=b.length:=by unfold fo;rw[ah,fj]
 have hend:=λi (hi:i∈b)=>jN hE k2 hi;have hsub:∀e,e∈fo n E (nI b)↔∃i∈b,e=(((dn n E (nI b) (tlE E i:Nat):Nat):Int),((dn n E (nI b) (hdE E i:Nat):Nat):Int)):=λe=>by
  unfold fo nI;rw[bp];constructor
  .rintro⟨j,h1,rfl⟩;obtain⟨i,h2,rfl⟩:=bp.1 h1;exact⟨i,h2,by rw[mq hE (k2 i h2)]⟩
  .rintro⟨i,h1,rfl⟩;exact⟨_,bp.2 ⟨i,h1,rfl⟩,by rw[mq hE (k2 i h1)]⟩
 obtain⟨i0,hi0⟩:∃i,i∈b:=by
  cases b with
  |nil=>exact absurd rfl k1
  |cons a r=>exact⟨a,aM ..⟩
 have hpos:0<(vsM n E (nI b)).length:=List.length_pos_of_mem (hend i0 hi0).1;refine⟨?_,?_,?_,?_,?_⟩
 .unfold fC;simp only[aU,aK,bK];refine⟨⟨⟨om,om⟩,by rw[hsl];omega⟩,λe he=>?_⟩;obtain⟨i,hi,rfl⟩:=(hsub e).1 he;have h1:=nG (hend i hi).1;have h2:=nG (hend i hi).2;simp only[okE,aU,aK];omega
 .intro e he;obtain⟨i,hi,rfl⟩:=(hsub e).1 he;intro q;have q:dn n E (nI b) (tlE E i:Nat)=dn n E (nI b) (hdE E i:Nat):=by simp only at q;omega
  have:=oT (hend i hi).1 (hend i hi).2 q;exact hL i (k2 i hi) om
 .have key:fo n E (nI b)=b.map λi=>(((dn n E (nI b) (tlE E i:Nat):Nat):Int),((dn n E (nI b) (hdE E i:Nat):Nat):Int)):=by
   unfold fo
   conv=>lhs;arg 2;unfold nI
   rw[de];refine cT λi hi=>?_;show(((dn n E (nI b) (edM E ((i:Nat):Int)).1:Nat):Int),((dn n E (nI b) (edM E ((i:Nat):Int)).2:Nat):Int))=_;rw[mq hE (k2 i hi)]
  rw[key];unfold List.Nodup;rw[eN];refine List.Pairwise.imp_of_mem ?_ k4;intro i k hi hk hne e;simp only[aq]at e;have e1:=oT (hend i hi).1 (hend k hk).1 om;have e2:=oT (hend i hi).2 (hend k hk).2 om;have q1:=(hE i (k2 i hi)).1;have q2:=(hE k (k2 k hk)).1;have:E[i]'(k2 i hi)=E[k]'(k2 k hk):=by rw[q1,q2,e1,e2]
  exact hne ((tY hnd).1 this)
 .refine⟨λj=>rk ((vsM n E (nI b)).getD j.toNat 0),λe he=>?_⟩;obtain⟨i,hi,rfl⟩:=(hsub e).1 he;have h1:=lh (hend i hi).1;have h2:=lh (hend i hi).2;simp only[aO];rw[aA,aA,h1,h2];have:=hrk _ (ar (k2 i hi));rw[(hE i (k2 i hi)).1]at this;exact this
 .rw[aO];unfold gU;rw[ah];refine Hp (List.nodup_range.filter _) λa ha c hc=>?_;rw[bB,aX,beq_iff_eq]at ha hc;obtain⟨s,hs⟩:∃s,∀v,v<n->v≠s->∃i,i<E.length/\hdE E i=v:=by
   have hsr:∀v,v<n->(¬ ∃i,i<E.length/\hdE E i=v)->((v:Nat):Int)∈gU n E:=λv hv hno=>by
    unfold gU;refine bp.2 ⟨v,?_,rfl⟩;rw[bB,aX,beq_iff_eq];refine⟨hv,(tJ 0).2 λe he q=>hno ?_⟩;obtain⟨i,hi,rfl⟩:=iW he;rw[(hE i hi).1]at q;exact⟨i,hi,by simp only at q;omega⟩
   rw[aO]at hsrc
   match hsl:gU n E,hsrc with
   |[],_=>exact⟨0,λv hv _=>Classical.byContradiction λh=>by have:=hsr v hv h;rw[hsl]at this;cases this⟩
   |[z],_=>exact⟨z.toNat,λv hv hne=>Classical.byContradiction λh=>by
    have:=hsr v hv h;rw[hsl,eC]at this;omega⟩
  have hr:∀i,i<E.length->rk ((tlE E i:Nat):Int)<rk ((hdE E i:Nat):Int):=λi hi=>by
   have:=hrk _ (ar hi);rw[(hE i hi).1]at this;exact this
  have key:∀a,a<(vsM n E (nI b)).length/\(dr (fo n E (nI b)) ((a:Nat):Int)).length=0->∃v:Nat,(vsM n E (nI b))[a]?=some ((v:Nat):Int)/\(∃e∈b,(grE n E hE hL).inc e v)/\∀i∈b,hdE E i≠v:=by
   rintro a ⟨h1,h2⟩;have hv:=ar h1;have hv2:∀x∈vsM n E (nI b),(0<=x/\x<(n:Nat))/\x∈iG E (nI b):=λx hx=>by
    unfold vsM at hx;rw[bB,fA,aK]at hx;exact hx
   have hv':=hv2 _ hv;obtain⟨v,ev⟩:∃v:Nat,(vsM n E (nI b))[a]=((v:Nat):Int):=⟨((vsM n E (nI b))[a]).toNat,om⟩
   refine⟨v,by rw[aj h1,ev],?_,λi hi q=>?_⟩
   .have h3:=hv'.2;rw[ev]at h3;have h4:=BE hE k2 v;rw[aH h3,Kj]at h4;obtain⟨e,he,hq⟩:=h4;simp only[dm,aK]at hq;exact⟨e,he,k2 e he,hq⟩
   .refine(tJ 0).1 h2 _ ((hsub _).2 ⟨i,hi,rfl⟩) ?_;have h5:=lh (hend i hi).2;rw[q,<-ev]at h5;have hra:dn n E (nI b) ((v:Nat):Int)=a:=by
     rw[<-ev];have hlt:dn n E (nI b) (vsM n E (nI b))[a]<(vsM n E (nI b)).length:=nG hv;have hp:=tf n E (nI b);have e1:(vsM n E (nI b))[dn n E (nI b) (vsM n E (nI b))[a]]=(vsM n E (nI b))[a]:=by
      have:=lh hv;rw[aj hlt]at this;exact Option.some.inj this
     rw[iu]at hp;rcases mI (dn n E (nI b) (vsM n E (nI b))[a]) a with h|h|h
     .have:=hp _ _ hlt h1 h;omega
     .exact h
     .have:=hp _ _ h1 hlt h;omega
    show((dn n E (nI b) ((hdE E i:Nat):Int):Nat):Int)=_;rw[q,hra]
  obtain⟨v,v1,⟨e,v2,v3⟩,v4⟩:=key a ha;obtain⟨w,w1,⟨f,w2,w3⟩,w4⟩:=key c hc;have hvw:v=w:=Go.Blk.one_source (g:=grE n E hE hL) (r:=λx=>rk ((x:Nat):Int)) hr hs hbk v2 v3 v4 w2 w3 w4;subst hvw;obtain⟨a1,a2⟩:=au.1 v1;obtain⟨c1,c2⟩:=au.1 w1;have hp:=tf n E (nI b);rw[iu]at hp;rcases mI a c with h|h|h
  .have:=hp _ _ a1 c1 h;omega
  .exact h
  .have:=hp _ _ c1 a1 h;omega
open Go.Am
open Go.Blk (Gr Lst canon)
def inb(b:List Nat)(i:Int):Bool:=decide (i∈nI b)
def Fq(b:List Nat)(i:Int):Int:=eM (i==·) (nI b) 0
def wj(b:List Nat)(l:List Int):List Int:=(l.filter (inb b)).map (Fq b)
def oG(n:Nat)(E:List (Int×Int))(b:List Nat)(order:List Int):List Int:=(order.filter λx=>decide (x∈vsM n E (nI b))).map λx=>((dn n E (nI b) x:Nat):Int)
def sU(n:Nat)(E:List (Int×Int))(b:List Nat)(outs:List (List Int)):List (List Int):=(vsM n E (nI b)).map λx=>wj b (outs.getD x.toNat [])
def tw{P:Int->Bool}:∀{A:List Int}{h:Int}{t:List Int},(∀z∈A,P z=false)->P h=true->(A++h::t).takeWhile (λz=>!P z)=A
 |[],h,t,_,hh=>by simp[hh]
 |a::A,h,t,ha,hh=>by
   have h1:=ha a (aM ..);have h2:=tw (A:=A) (t:=t) (λz hz=>ha z (aN _ hz)) hh;rw[bX,List.takeWhile_cons_of_pos (by simp[h1]),h2]
def Jr{P:Int->Bool}{A1 X1 C1 A2 X2 C2:List Int}(e:A1++X1++C1=A2++X2++C2)(a1:∀z∈A1,P z=false)(c1:∀z∈C1,P z=false)(a2:∀z∈A2,P z=false)(c2:∀z∈C2,P z=false)
 (n1:X1≠[]) (x1:∀z∈X1,P z=true) (h2:∃h t,X2=h::t/\P h=true) (t2:∃t z,X2=t++[z]/\P z=true):A1=A2/\X1=X2/\C1=C2:=by
 obtain⟨h,t,rfl,hh⟩:=h2;obtain⟨t',z,ez,hz⟩:=t2;obtain⟨h1,t1,rfl⟩:∃h1 t1,X1=h1::t1:=by
  cases X1 with
  |nil=>exact absurd rfl n1
  |cons a r=>exact⟨a,r,rfl⟩
 have hh1:=x1 h1 (aM ..);have k1:=tw (P:=P) (A:=A1) (h:=h1) (t:=t1++C1) a1 hh1;have k2:=tw (P:=P) (A:=A2) (h:=h) (t:=t++C2) a2 hh;have e':A1++h1::(t1++C1)=A2++h::(t++C2):=by simpa using e
 rw[e',k2]at k1;subst k1;have e2:h1::(t1++C1)=h::(t++C2):=List.append_cancel_left e';have e3:(h1::t1)++C1=(h::t)++C2:=e2;have hlast:∃s w,h1::t1=s++[w]/\P w=true:=by
  refine⟨(h1::t1).dropLast,(h1::t1).getLast (by simp),(List.dropLast_concat_getLast (by simp)).symm,x1 _ (List.getLast_mem _)⟩
 obtain⟨s,w,es,hw⟩:=hlast;rw[es,ez]at e3;have e4:=congrArg List.reverse e3;simp only[List.reverse_append,List.reverse_cons,Kh,cr,bL,bX]at e4;have q1:=tw (P:=P) (A:=C1.reverse) (h:=w) (t:=s.reverse) (λz hz=>c1 z (List.mem_reverse.1 hz)) hw;have q2:=tw (P:=P) (A:=C2.reverse) (h:=z) (t:=t'.reverse) (λz hz=>c2 z (List.mem_reverse.1 hz)) hz;rw[e4,q2]at q1;have hC:C1=C2:=by have:=congrArg List.reverse q1;simpa using this.symm
 refine⟨rfl,?_,hC⟩;subst hC;rw[<-es,<-ez]at e3;exact List.append_cancel_right e3
def eds(R:List It):List Int:=(R.filter λi=>decide (0<=i.1)).map (·.1)
def yY(A B:List It):eds (A++B)=eds A++eds B:=by simp[eds]
def yB{R:List It}{j:Int}:j∈eds R↔∃i∈R,0<=i.1/\i.1=j:=by
 unfold eds;rw[bp];constructor
 .rintro⟨i,h1,h2⟩;rw[bB,aK]at h1;exact⟨i,h1.1,h1.2,h2⟩
 .rintro⟨i,h1,h2,h3⟩;exact⟨i,by rw[bB,aK];exact⟨h1,h2⟩,h3⟩
section
variable {n:Nat}{E:List (Int×Int)}{b:List Nat}
def HX{i:Int}:i∈nI b↔∃k∈b,i=((k:Nat):Int):=by
 unfold nI;rw[bp];exact⟨λ⟨k,h1,h2⟩=>⟨k,h1,h2.symm⟩,λ⟨k,h1,h2⟩=>⟨k,h1,h2.symm⟩⟩
def Lv{i:Nat}(h:i∈b):Fq b ((i:Nat):Int)=((b.idxOf i:Nat):Int):=by
 unfold Fq;rw[Ei h 0,bN]
def Nk(hE:InG n E)(hb:∀i∈b,i<E.length){k:Nat}(hk:k<b.length):(fo n E (nI b))[k]?=some (((dn n E (nI b) (tlE E b[k]:Nat):Nat):Int),((dn n E (nI b) (hdE E b[k]:Nat):Nat):Int)):=by
 unfold fo;rw[aV];have:(nI b)[k]?=some ((b[k]:Nat):Int):=by
  unfold nI;rw[aV,aj hk];rfl
 rw[this];simp only[aQ];rw[mq hE (hb _ (ar hk))]
def gT(hE:InG n E){x:Nat}{i:Int}:i∈dr E ((x:Nat):Int)↔∃k:Nat,i=k/\k<E.length/\hdE E k=x:=by
 rw[rM];constructor
 .rintro⟨k,rfl,t,ht⟩;obtain⟨h3,h4⟩:=au.1 ht;have:=(hE k h3).1;rw[h4]at this;simp only[aq]at this;exact⟨k,rfl,h3,om⟩
 .rintro⟨k,rfl,h3,rfl⟩;exact⟨k,rfl,_,by rw[aj h3,(hE k h3).1]⟩
def gV(hE:InG n E){x:Nat}{i:Int}:i∈dJ E ((x:Nat):Int)↔∃k:Nat,i=k/\k<E.length/\tlE E k=x:=by
 rw[fp];constructor
 .rintro⟨k,rfl,t,ht⟩;obtain⟨h3,h4⟩:=au.1 ht;have:=(hE k h3).1;rw[h4]at this;simp only[aq]at this;exact⟨k,rfl,h3,om⟩
 .rintro⟨k,rfl,h3,rfl⟩;exact⟨k,rfl,_,by rw[aj h3,(hE k h3).1]⟩
end
end Go.Proofs.YtklpoimdclflmaaGreatDoor
namespace Go.Jn
inductive Run(m:Nat)(hd:Nat->Nat)(O:Nat->List Nat):List Nat->List Nat->List Nat->Prop
 |nil {R:List Nat}:Run m hd O [] R R
 |step {x:Nat}{q A I C R':List Nat} (hn:I.Nodup) (hi:∀e,e∈I↔e<m/\hd e=x) (t:Run m hd O q (A++O x++C) R'):Run m hd O (x::q) (A++I++C) R'
def Run.app{m:Nat}{hd:Nat->Nat}{O:Nat->List Nat}{q q' R R1 R2:List Nat}(h:Run m hd O q R R1)(h':Run m hd O q' R1 R2):Run m hd O (q++q') R R2:=by
 induction h with
 |nil=>exact h'
 |step hn hi _ ih=>exact .step hn hi (ih h')
structure Blks where
 nB:Nat
 src:Nat->Nat
 ord:Nat->List Nat
 ot:Nat->Nat->List Nat
variable (b:Blks)
def Blks.W:Nat->Nat->List Nat
 |0,x=>[x]
 |f+1,x=>x::(List.range b.nB).flatMap λk=>if b.src k=x then(b.ord k).flatMap (Blks.W f)else []
def Blks.O(x:Nat):List Nat:=(List.range b.nB).flatMap λk=>b.ot k x
structure Good(m:Nat)(hd:Nat->Nat)(rank:Nat->Nat)(M:Nat):Prop where
 rk:∀k,k<b.nB->∀y∈b.ord k,rank (b.src k)<rank y/\rank y<=M
 par:∀k k',k<b.nB->k'<b.nB->∀y∈b.ord k,y∈b.ord k'->k=k'
 off:∀k k',k<b.nB->k'<b.nB->k≠k'->∀y∈b.ord k,b.src k'=y\/b.ot k' y=[]
 run:∀k,k<b.nB->Run m hd (b.ot k) (b.ord k) (b.ot k (b.src k)) []
 nd:∀k,k<b.nB->(b.ord k).Nodup
variable {b}{m:Nat}{hd:Nat->Nat}{rank:Nat->Nat}{M:Nat}
def fm_one{β:Type}{f:Nat->List β}{k:Nat}:∀{n:Nat},k<n->(∀j,j<n->j≠k->f j=[])->(List.range n).flatMap f=f k
 |0,h,_=>by omega
 |n+1,h,hz=>by
   rw[cP,br];by_cases e:k=n
   .subst e;have:(List.range k).flatMap f=[]:=jc.2 λj hj=>hz j (by have:=aX.1 hj;omega) (by have:=aX.1 hj;omega);rw[this];simp
   .rw[fm_one (n:=n) om λj hj=>hz j om];simp[hz n om om]
def pN{x:Nat}{sub:Nat->List Nat}(h:∀k,k<b.nB->b.src k=x->∀A C,Run m hd b.O (sub k) (A++b.ot k x++C) (A++C)):∀(ks:List Nat) (A C:List Nat),(∀k∈ks,k<b.nB) ->
 Run m hd b.O (ks.flatMap λk=>if b.src k=x then sub k else []) (A++ks.flatMap (λk=>b.ot k x)++C) (A++ks.flatMap (λk=>if b.src k=x then []else b.ot k x)++C)
 |[],A,C,_=>.nil
 |k::ks,A,C,hk=>by
   have hk0:=hk k (aM ..);have hk':=λj hj=>hk j (aN _ hj);rw[bH,bH,bH];by_cases q:b.src k=x
   .rw[if_pos q,if_pos q,cr];have h1:=h k hk0 q A (ks.flatMap (λk=>b.ot k x)++C);rw[<-bL A];rw[bL (A++b.ot k x)];refine h1.app ?_;rw[<-bL];exact pN h ks A C hk'
   .rw[if_neg q,if_neg q,cr,<-bL A,<-bL A];exact pN h ks (A++b.ot k x) C hk'
def Hy(g:Good b m hd rank M){f k:Nat}(hk:k<b.nB)(hw:∀y∈b.ord k,∀A C,Run m hd b.O ((b.W f y).tail) (A++b.O y++C) (A++b.ot k y++C)){q R R':List Nat}(r:Run m hd (b.ot k) q R R')(hq:∀y∈q,y∈b.ord k) :
 ∀A C,Run m hd b.O (q.flatMap (b.W f)) (A++R++C) (A++R'++C):=by
 induction r with
 |nil=>intro A C;exact .nil
 |@step x q A' I C' R' hn hi t ih =>
   intro A C;have hx:=hq x (aM ..);have hW:b.W f x=x::(b.W f x).tail:=by cases f<;>rfl
   rw[bH,hW,bX];have e1:A++(A'++I++C')++C=(A++A')++I++(C'++C):=by simp only[bL]
   rw[e1];refine .step hn hi ?_;refine(hw x hx (A++A') (C'++C)).app ?_;have e2:A++A'++b.ot k x++(C'++C)=A++(A'++b.ot k x++C')++C:=by simp only[bL]
   rw[e2];exact ih (λy hy=>hq y (aN _ hy)) A C
def hang(g:Good b m hd rank M):∀(f:Nat),(∀k,k<b.nB->M<f+rank (b.src k)+1->∀A C,Run m hd b.O ((b.ord k).flatMap (b.W f)) (A++b.ot k (b.src k)++C) (A++C)) /\
 ∀k,k<b.nB->∀y∈b.ord k,M<f+rank y->∀A C,Run m hd b.O ((b.W f y).tail) (A++b.O y++C) (A++b.ot k y++C)
 |0=>by
   have h2:∀k,k<b.nB->∀y∈b.ord k,M<0+rank y->∀A C,Run m hd b.O ((b.W 0 y).tail) (A++b.O y++C) (A++b.ot k y++C):=λk hk y hy h=>by
    have:=(g.rk k hk y hy).2;omega
   refine⟨λk hk h A C=>?_,h2⟩;have r:=Hy g hk (f:=0) (λy hy=>by
    have:=g.rk k hk y hy;exact h2 k hk y hy om) (g.run k hk) (λy hy=>hy) A C
   simpa using r
 |f+1=>by
   obtain⟨ih1,_⟩:=hang g f;have h2:∀k,k<b.nB->∀y∈b.ord k,M<f+1+rank y->∀A C,Run m hd b.O ((b.W (f+1) y).tail) (A++b.O y++C) (A++b.ot k y++C):=λk hk y hy h A C=>by
    have e:=pN (b:=b) (m:=m) (hd:=hd) (x:=y) (sub:=λk=>(b.ord k).flatMap (b.W f)) (λk' hk' hs A C=>by
     have:=ih1 k' hk' (by rw[hs];omega) A C;rwa [hs]at this) (List.range b.nB) A C λk hk=>aX.1 hk
    have hone:(List.range b.nB).flatMap (λk'=>if b.src k'=y then []else b.ot k' y)=b.ot k y:=by
     rw[fm_one (k:=k) hk λj hj hne=>?_]
     .rw[if_neg];intro hs;have:=(g.rk k hk y hy).1;rw[hs]at this;omega
     .split
      .rfl
      .rcases g.off k j hk hj (Ne.symm hne) y hy with q|q
       .exact absurd q ‹_›
       .exact q
    rw[hone]at e;exact e
   refine⟨λk hk h A C=>?_,h2⟩;have r:=Hy g hk (f:=f+1) (λy hy=>by
    have:=g.rk k hk y hy;exact h2 k hk y hy om) (g.run k hk) (λy hy=>hy) A C
   simpa using r
def whole_run(g:Good b m hd rank M){s f:Nat}(hs:∀k,k<b.nB->b.src k=s\/b.ot k s=[])(h0:∀e,¬(e<m/\hd e=s))(hf:M<f+rank s+1):Run m hd b.O (b.W (f+1) s) [] []:=by
 have e:=pN (b:=b) (m:=m) (hd:=hd) (x:=s) (sub:=λk=>(b.ord k).flatMap (b.W f)) (λk' hk' hs A C=>by
  have:=(hang g f).1 k' hk' (by rw[hs];omega) A C;rwa [hs]at this) (List.range b.nB) [] [] λk hk=>aX.1 hk
 have hz:(List.range b.nB).flatMap (λk'=>if b.src k'=s then []else b.ot k' s)=[]:=jc.2 λk hk=>by
  split
  .rfl
  .exact(hs k (aX.1 hk)).resolve_left ‹_›
 rw[hz]at e;have h1:Run m hd b.O (s::(b.W (f+1) s).tail) ([]++[]++[]) []:=.step fk (λe=>⟨λh=>(by cases h),λh=>absurd h (h0 e)⟩) e;exact h1
variable {b:Blks}{m:Nat}{hd:Nat->Nat}{rank:Nat->Nat}{M:Nat}
def Blks.ch(b:Blks)(x:Nat):List Nat:=(List.range b.nB).flatMap λk=>if b.src k=x then b.ord k else []
def mem_ch{x y:Nat}:y∈b.ch x↔∃k,k<b.nB/\b.src k=x/\y∈b.ord k:=by
 unfold Blks.ch;rw[cM];constructor
 .rintro⟨k,hk,hy⟩;split at hy
  .exact⟨k,aX.1 hk,‹_›,hy⟩
  .cases hy
 .rintro⟨k,hk,hs,hy⟩;exact⟨k,aX.2 hk,by rw[if_pos hs];exact hy⟩
def zt{f x:Nat}:b.W (f+1) x=x::(b.ch x).flatMap (b.W f):=by
 show x::_=_;congr 1;unfold Blks.ch;rw[Ds];congr 1;funext k;split<;>rfl
def Dn{f x:Nat}:x∈b.W f x:=by cases f<;>simp[Blks.W]
section
variable {x y:Nat}
variable (g:Good b m hd rank M)
include g
def kJ(h:y∈b.ch x):rank x<rank y/\rank y<=M:=by
 obtain⟨k,hk,rfl,hy⟩:=mem_ch.1 h;exact g.rk k hk y hy
def BH:∀(f x:Nat),M<f+rank x->b.W (f+1) x=b.W f x
 |0,x,h=>by
   rw[zt];have:b.ch x=[]:=dj.2 λy hy=>by have:=kJ g hy;omega
   rw[this];rfl
 |f+1,x,h=>by
   rw[zt,zt];congr 1;have:∀(l:List Nat),(∀y∈l,y∈b.ch x)->l.flatMap (b.W (f+1))=l.flatMap (b.W f):=λl=>by
    induction l with
    |nil=>intro _;rfl
    |cons y l ih =>
      intro hl;rw[bH,bH,BH f y (by have:=kJ g (hl y (aM ..));omega),ih λz hz=>hl z (aN _ hz)]
   exact this _ λy hy=>hy
def W_eq(x:Nat):b.W (M+1) x=x::(b.ch x).flatMap (b.W (M+1)):=by
 rw[<-BH g (M+1) x om,zt]
def W_ind{P:Nat->Prop}(h:∀x,(∀y∈b.ch x,P y)->P x)(x:Nat):P x:=by
 have:∀d x,M<d+rank x->P x:=λd=>by
  induction d with
  |zero=>intro x hx;exact h x λy hy=>by have:=kJ g hy;omega
  |succ d ih=>intro x hx;exact h x λy hy=>ih y (by have:=kJ g hy;omega)
 exact this (M+1) x om
def xf:y∈b.W (M+1) x↔y=x\/∃z∈b.ch x,y∈b.W (M+1) z:=by
 rw[W_eq g,aF,cM]
def zu:∀y∈b.W (M+1) x,y=x\/rank x<rank y:=by
 refine W_ind g (P:=λx=>∀y∈b.W (M+1) x,y=x\/rank x<rank y) (λx ih y hy=>?_) x;rcases(xf g).1 hy with h|⟨z,hz,hy⟩
 .exact .inl h
 .have:=(kJ g hz).1;rcases ih z hz y hy with rfl|h
  .exact .inr this
  .exact .inr om
def NT{z:Nat}(hy:y∈b.W (M+1) x)(hz:z∈b.ch y):z∈b.W (M+1) x:=by
 revert hy;refine W_ind g (P:=λx=>y∈b.W (M+1) x->z∈b.W (M+1) x) (λx ih hy=>?_) x;rcases(xf g).1 hy with rfl|⟨w,hw,hy⟩
 .exact(xf g).2 (.inr ⟨z,hz,Dn⟩)
 .exact(xf g).2 (.inr ⟨w,hw,ih w hw hy⟩)
def W_up(hy:y∈b.W (M+1) x)(hne:y≠x):∃p,p∈b.W (M+1) x/\y∈b.ch p:=by
 revert hy hne;refine W_ind g (P:=λx=>y∈b.W (M+1) x->y≠x->∃p,p∈b.W (M+1) x/\y∈b.ch p) (λx ih hy hne=>?_) x;rcases(xf g).1 hy with rfl|⟨w,hw,hy⟩
 .exact absurd rfl hne
 .by_cases e:y=w
  .subst e;exact⟨x,Dn,hw⟩
  .obtain⟨p,h1,h2⟩:=ih w hw hy e;exact⟨p,(xf g).2 (.inr ⟨w,hw,h1⟩),h2⟩
def CU{x':Nat}(h:y∈b.ch x)(h':y∈b.ch x'):x=x':=by
 obtain⟨k,hk,rfl,hy⟩:=mem_ch.1 h;obtain⟨k',hk',rfl,hy'⟩:=mem_ch.1 h';rw[g.par k k' hk hk' y hy hy']
def zw{z z':Nat}(hz:z∈b.ch x)(hz':z'∈b.ch x)(hne:z≠z'):∀y,y∈b.W (M+1) z->y∈b.W (M+1) z'->False:=by
 have key:∀(d y:Nat),rank y<d->y∈b.W (M+1) z->y∈b.W (M+1) z'->False:=λd=>by
  induction d with
  |zero=>intro y h;omega
  |succ d ih =>
    intro y hy h h';have top:∀{z z':Nat},z∈b.ch x->z'∈b.ch x->z≠z'->z∈b.W (M+1) z'->False:=fun {z z'} hz hz' hne h=>by
     obtain⟨p,h1,h2⟩:=W_up g h hne;obtain rfl:=CU g h2 hz;have:=(kJ g hz').1;rcases zu g p h1 with e|e
     .subst e;omega
     .omega
    by_cases e:y=z
    .subst e;exact top hz hz' hne h'
    by_cases e':y=z'
    .subst e';exact top hz' hz (Ne.symm hne) h
    obtain⟨p,p1,p2⟩:=W_up g h e;obtain⟨p',q1,q2⟩:=W_up g h' e';obtain rfl:=CU g p2 q2;exact ih p (by have:=(kJ g p2).1;omega) p1 q1
 exact λy=>key (rank y+1) y om
omit g in
def fm_nodup{f:Nat->List Nat}:∀{l:List Nat},l.Nodup->(∀x∈l,(f x).Nodup)->(∀x∈l,∀y∈l,x≠y->∀z,z∈f x->z∈f y->False)->(l.flatMap f).Nodup
 |[],_,_,_=>fk
 |x::l,hn,h1,h2=>by
   obtain⟨hx,hn'⟩:=cn.1 hn;rw[bH];refine bQ.2 ⟨h1 x (aM ..),fm_nodup hn' (λy hy=>h1 y (aN _ hy)) λy hy z hz=>h2 y (aN _ hy) z (aN _ hz),λy hy z hz e=>?_⟩;subst e;obtain⟨w,hw,hz⟩:=cM.1 hz;exact h2 x (aM ..) w (aN _ hw) (λe=>hx (e▸hw)) y hy hz
def Bw(x:Nat):(b.ch x).Nodup:=by
 unfold Blks.ch;refine fm_nodup oq (λk hk=>?_) λk hk k' hk' hne y hy hy'=>?_
 .split
  .exact g.nd k (aX.1 hk)
  .exact fk
 .split at hy
  .split at hy'
   .exact hne (g.par k k' (aX.1 hk) (aX.1 hk') y hy hy')
   .cases hy'
  .cases hy
def W_nodup(x:Nat):(b.W (M+1) x).Nodup:=by
 refine W_ind g (P:=λx=>(b.W (M+1) x).Nodup) (λx ih=>?_) x;rw[W_eq g];refine cn.2 ⟨λh=>?_,fm_nodup (Bw g x) ih λz hz z' hz' hne=>zw g hz hz' hne⟩;obtain⟨z,hz,h⟩:=cM.1 h;have:=(kJ g hz).1;rcases zu g x h with e|e
 .subst e;omega
 .omega
def W_all{s n:Nat}(hp:∀v,v<n->v≠s->∃k,k<b.nB/\v∈b.ord k/\b.src k<n):∀v,v<n->v∈b.W (M+1) s:=by
 have key:∀(d v:Nat),rank v<d->v<n->v∈b.W (M+1) s:=λd=>by
  induction d with
  |zero=>intro v h;omega
  |succ d ih =>
    intro v hd hv;by_cases e:v=s
    .subst e;exact Dn
    .obtain⟨k,hk,hy,hs⟩:=hp v hv e;exact NT g (ih (b.src k) (by have:=(g.rk k hk v hy).1;omega) hs) (mem_ch.2 ⟨k,hk,rfl,hy⟩)
 exact λv hv=>key (rank v+1) v om hv
def W_filter{k:Nat}(hk:k<b.nB):∀x,(b.W (M+1) x).filter (λy=>decide (y=b.src k\/y∈b.ord k))=if b.src k∈b.W (M+1) x then b.src k::b.ord k else if x∈b.ord k then [x]else []:=by
 refine W_ind g (λx ih=>?_);have fm:∀(l:List Nat),(∀y∈l,y∈b.ch x)->(l.flatMap (b.W (M+1))).filter (λy=>decide (y=b.src k\/y∈b.ord k))=l.flatMap λy=>if b.src k∈b.W (M+1) y then b.src k::b.ord k else if y∈b.ord k then [y]else []:=λl=>by
  induction l with
  |nil=>intro _;rfl
  |cons y l ihl =>
    intro hl;rw[bH,cB,ih y (hl y (aM ..)),ihl λz hz=>hl z (aN _ hz),bH]
 rw[W_eq g,fx,fm _ λy hy=>hy];by_cases e:b.src k=x
 ·
  subst e;have hno:∀y∈b.ch (b.src k),b.src k∉b.W (M+1) y:=λy hy h=>by
   have:=(kJ g hy).1;rcases zu g _ h with e|e
   .rw[e]at this;omega
   .omega
  rw[if_pos (by simp),if_pos (aM ..)];congr 1;unfold Blks.ch;rw[Ds,fm_one (k:=k) hk λj hj hne=>?_]
  .rw[if_pos rfl];have:∀l:List Nat,(∀y∈l,y∈b.ord k)->(l.flatMap λy=>if b.src k∈b.W (M+1) y then b.src k::b.ord k else if y∈b.ord k then [y]else [])=l:=λl=>by
    induction l with
    |nil=>intro _;rfl
    |cons y l ihl =>
      intro hl;have hy:=hl y (aM ..);rw[bH,if_neg (hno y (mem_ch.2 ⟨k,hk,rfl,hy⟩)),if_pos hy,ihl λz hz=>hl z (aN _ hz)];rfl
   exact this _ λy hy=>hy
  .refine jc.2 λy hy=>?_;split at hy
   .rename_i hs
    rw[if_neg (hno y (mem_ch.2 ⟨j,hj,hs,hy⟩)),if_neg λh=>hne (g.par j k hj hk y hy h)]
   .cases hy
 .have hyk:∀y∈b.ch x,y∉b.ord k:=λy hy h=>e (CU g (mem_ch.2 ⟨k,hk,rfl,h⟩) hy);by_cases hin:b.src k∈(b.ch x).flatMap (b.W (M+1))
  .rw[if_pos (aN _ hin)];obtain⟨z,hz,hzk⟩:=cM.1 hin;have hxo:x∉b.ord k:=λh=>by
    have h1:=(g.rk k hk x h).1;have h2:=(kJ g hz).1;rcases zu g _ hzk with e|e
    .rw[e]at h1;omega
    .omega
   rw[if_neg (by simp[hxo,Ne.symm e])];have:∀l:List Nat,l.Nodup->(∀y∈l,y∈b.ch x)->z∈l->(l.flatMap λy=>if b.src k∈b.W (M+1) y then b.src k::b.ord k else if y∈b.ord k then [y]else [])=b.src k::b.ord k:=λl=>by
    induction l with
    |nil=>intro _ _ h;cases h
    |cons y l ihl =>
      intro hn hl hzl;obtain⟨hy0,hn'⟩:=cn.1 hn;have hy:=hl y (aM ..);rw[bH];by_cases eq:y=z
      .subst eq;rw[if_pos hzk];have:(l.flatMap λy=>if b.src k∈b.W (M+1) y then b.src k::b.ord k else if y∈b.ord k then [y]else [])=[]:=jc.2 λw hw=>by
        have hwc:=hl w (aN _ hw);rw[if_neg λh=>zw g hy hwc (λe=>hy0 (e▸hw)) _ hzk h,if_neg (hyk w hwc)]
       rw[this,bF]
      .rw[if_neg λh=>zw g hy hz eq _ h hzk,if_neg (hyk y hy),cr];exact ihl hn' (λw hw=>hl w (aN _ hw)) ((aF.1 hzl).resolve_left (Ne.symm eq))
   exact this _ (Bw g x) (λy hy=>hy) hz
  .rw[if_neg (c:=b.src k∈x::_) (λh=>(aF.1 h).elim e hin)];have:((b.ch x).flatMap λy=>if b.src k∈b.W (M+1) y then b.src k::b.ord k else if y∈b.ord k then [y]else [])=[]:=jc.2 λw hw=>by
    rw[if_neg λh=>hin (cM.2 ⟨w,hw,h⟩),if_neg (hyk w hw)]
   rw[this];by_cases hx:x∈b.ord k
   .rw[if_pos (by simp[hx]),if_pos hx]
   .rw[if_neg (by simp[hx,Ne.symm e]),if_neg hx]
end
def Run.map{m m':Nat}{hd hd':Nat->Nat}{O O':Nat->List Nat}{φ ν:Nat->Nat}(inj:∀e e',e<m'->e'<m'->φ e=φ e'->e=e'){q R R':List Nat}(r:Run m' hd' O' q R R')
 (hi:∀y∈q,∀e,(e<m/\hd e=ν y)↔∃e',(e'<m'/\hd' e'=y)/\φ e'=e) (ho:∀y∈q,O (ν y)=(O' y).map φ):Run m hd O (q.map ν) (R.map φ) (R'.map φ):=by
 induction r with
 |nil=>exact .nil
 |@step x q A I C R' hn hI t ih =>
   have hx:=aM (a:=x) (l:=q);have ih:=ih (λy hy=>hi y (aN _ hy)) λy hy=>ho y (aN _ hy);rw[bO,bS,bS];refine .step ?_ (λe=>?_) ?_
   .have:∀l:List Nat,l.Nodup->(∀e∈l,e<m')->(l.map φ).Nodup:=λl=>by
     induction l with
     |nil=>intro _ _;exact fk
     |cons a l ih =>
       intro hn hl;obtain⟨h1,h2⟩:=cn.1 hn;refine cn.2 ⟨λhm=>?_,ih h2 λe he=>hl e (aN _ he)⟩;obtain⟨e,he,hee⟩:=bp.1 hm;exact h1 (inj e a (hl e (aN _ he)) (hl a (aM ..)) hee▸he)
    exact this I hn λe he=>((hI e).1 he).1
   .rw[bp,hi x hx e];constructor
    .rintro⟨e',h1,h2⟩;exact⟨e',(hI e').1 h1,h2⟩
    .rintro⟨e',h1,h2⟩;exact⟨e',(hI e').2 h1,h2⟩
   .rw[ho x hx,<-bS,<-bS];exact ih
def Run.count{m:Nat}{hd:Nat->Nat}{O:Nat->List Nat}{q R R':List Nat}(r:Run m hd O q R R'):∀e,R'.count e+(if e<m/\hd e∈q then q.count (hd e)else 0)=R.count e+(q.flatMap O).count e:=by
 induction r with
 |nil=>intro e;simp
 |@step x q A I C R' hn hI t ih =>
   intro e;have:=ih e;rw[gq,gq]at this;rw[gq,gq,bH,gq,px];have hc:I.count e=if e<m/\hd e=x then 1 else 0:=by
    by_cases h:e∈I
    .have h1:=List.nodup_iff_count.1 hn e;have h2:=qS.2 h;rw[if_pos ((hI e).1 h)];omega
    .rw[oI h,if_neg λq=>h ((hI e).2 q)]
   rw[hc];by_cases hm:e<m
   .by_cases hx:hd e=x
    .subst hx;simp only[hm,aF,true_or,and_true,if_true,true_and,beq_self_eq_true]at this |-;by_cases hq:hd e∈q
     .simp only[hq,if_true]at this;omega
     .simp only[hq,if_false]at this;rw[oI hq];omega
    .have hbx:(x==hd e)=false:=by simp[Ne.symm hx]
     simp only[hm,aF,hx,false_or,and_true,if_false,true_and,hbx]at this |-;by_cases hq:hd e∈q
     .simp only[hq,if_true]at this |-;simp;omega
     .simp only[hq,if_false]at this |-;omega
   .simp only[hm,false_and,if_false]at this |-;omega
end Go.Jn
namespace Go.Proofs.YtklpoimdclflmaaGreatDoor
open Go.Am
section
variable {n:Nat}{E:List (Int×Int)}
def zX(hE:InG n E){outs:List (List Int)}(hone:∀a b:Nat,a<n->b<n->(dr E a).length=0->(dr E b).length=0->a=b)(hout:∀x:Int,0<=x/\x<n->OutsOk E x (outs.getD x.toNat [])) :
 ∀(q pl:List Int) (row:List It) (ends:List (List It)) (i:Nat) (r:List (List It)×List It),Inv n E row pl->nF n E outs q pl row ends i=.inl r->Go.Jn.Run E.length (hdE E) (λx=>(outs.getD x []).map Int.toNat) (q.map Int.toNat) (eR row) (eR r.2)
 |[],_,row,ends,_,r,_,h=>by
   simp only[nF,Sum.inl.injEq]at h;subst h;exact .nil
 |x::q,pl,row,ends,i,r,v,h=>by
   unfold nF at h;by_cases q1:ip n E row pl x=true
   .rw[if_pos q1]at h;obtain⟨h1,h2,h3⟩:=pE.1 q1;have ho:=hout x h1;have v':=v.next ho h2 h3 hone h1;have ih:=zX hE hone hout q _ _ _ _ r v' h;obtain⟨m,rfl⟩:∃m:Nat,x=m:=⟨x.toNat,om⟩
    have hpos:∀i∈outs.getD (Int.toNat (m:Int)) [],0<=i:=λi hi=>by
     obtain⟨k,rfl,_⟩:=fp.1 (ho.mem.1 hi);omega
    rw[bO];rcases rF.1 h3 with⟨z0,z1⟩|⟨A,X,C,c,z1,z2⟩
    .rw[pJ z1,pq,rX hpos]at ih;refine Go.Jn.Run.step (A:=[]) (I:=[]) (C:=eR row) (x:=m) fk (λe=>⟨λhe=>(by cases he),λ⟨a,b⟩=>?_⟩) (by simpa using ih);have:((e:Nat):Int)∈dr E (m:Int):=rM.2 ⟨e,rfl,_,by rw[Jc hE a,b]⟩;rw[aW.1 z0]at this;cases this
    .rw[c.next,pq,pq,rX hpos]at ih;have hrow:eR row=eR A++eR X++eR C:=by rw[c.eq,pq,pq]
     have nr:=v.er;rw[hrow];rw[hrow,bL,bQ]at nr;have nX:=(bQ.1 nr.2.1).1;have hX:∀i∈X,i∈row:=λi hi=>by rw[c.eq];simp[hi]
     have inX:∀i∈X,i.2.2=m->∃k:Nat,i.1=k/\E[k]?=some (i.2.1,(m:Int)):=λi hi hm=>by
      rcases v.it i (hX i hi)with⟨_,b⟩|⟨k,a,b,_⟩
      .omega
      .exact⟨k,a,by rw[b,hm]⟩
     refine Go.Jn.Run.step (I:=eR X) (x:=m) nX (λe=>⟨λhe=>?_,λ⟨a,b⟩=>?_⟩) ih
     .obtain⟨i,hi,he⟩:=CM.1 he;rcases v.it i (hX i hi)with⟨a,_⟩|⟨k,a,b,_⟩
      .omega
      .obtain rfl:k=e:=om;obtain⟨p1,_,p3⟩:=vf hE b;refine⟨p1,?_⟩;rcases z2 i hi with y|y<;>omega
     .refine Classical.byContradiction λhno=>?_;have l1:((X.filter λi=>decide (i.2.2=((m:Nat):Int))).map (·.1)).length=(dr E (m:Int)).length:=by
       rw[ah,<-List.countP_eq_length_filter];exact z1
      have l2:((X.filter λi=>decide (i.2.2=((m:Nat):Int))).map (·.1)).Nodup:=by
       have s1:(X.filter λi=>decide (i.2.2=((m:Nat):Int))).Sublist (row.filter λi=>decide (0<=i.1)):=by
        have:(X.filter λi=>decide (i.2.2=((m:Nat):Int)))=(X.filter λi=>decide (0<=i.1)).filter λi=>decide (i.2.2=((m:Nat):Int)):=by
         rw[Dt];refine mJ λi hi=>?_;by_cases hm:i.2.2=((m:Nat):Int)
         .obtain⟨k,hk,_⟩:=inX i hi hm;have:0<=i.1:=om;simp[hm,this]
         .simp[hm]
        rw[this,c.eq,bL,cB,cB];exact List.filter_sublist.trans ((List.sublist_append_left ..).trans (List.sublist_append_right ..))
       exact(s1.map _).nodup v.nd
      have l3:=qA (l:=((e:Nat):Int)::(X.filter λi=>decide (i.2.2=((m:Nat):Int))).map (·.1)) (m:=dr E (m:Int)) (cn.2 ⟨λhm=>?_,l2⟩) λy hy=>?_
      .rw[bd,l1]at l3;omega
      .obtain⟨i,hi,hie⟩:=bp.1 hm;exact hno (CM.2 ⟨i,(bB.1 hi).1,hie⟩)
      .rcases aF.1 hy with rfl|hy
       .exact rM.2 ⟨e,rfl,_,by rw[Jc hE a,b]⟩
       .obtain⟨i,hi,rfl⟩:=bp.1 hy;rw[bB,aK]at hi;obtain⟨k,hk,hk2⟩:=inX i hi.1 hi.2;exact rM.2 ⟨k,hk,_,hk2⟩
   .rw[if_neg q1]at h;cases h
def Jm(R:List It):(eR R).map (λe=>((e:Nat):Int))=eds R:=by
 unfold eR eds;rw[de];refine cT λi hi=>?_;rw[bB,aK]at hi;show((i.1.toNat:Nat):Int)=i.1;omega
def yy{l:List Nat}(h:l.Nodup):(l.map λe=>((e:Nat):Int)).Nodup:=by
 unfold List.Nodup;rw[eN];exact List.Pairwise.imp (fun {a b} hne e=>hne om) h
def Hx(hE:InG n E){outs:List (List Int)}(hone:∀a b:Nat,a<n->b<n->(dr E a).length=0->(dr E b).length=0->a=b)(hout:∀x:Int,0<=x/\x<n->OutsOk E x (outs.getD x.toNat [])){O:Nat->List Nat}(hO:∀x,x<n->O x=(outs.getD x []).map Int.toNat){q R R':List Nat}(r:Go.Jn.Run E.length (hdE E) O q R R') :
 ∀(pl:List Int) (row:List It) (ends:List (List It)) (i:Nat),Inv n E row pl->eR row=R->(∀x∈q,x<n/\((x:Nat):Int)∉pl)->q.Nodup->(∀x∈q,row=[]/\q.head?=some x\/∃e,e<E.length/\hdE E e=x) ->
   ∃r,nF n E outs (q.map λx=>((x:Nat):Int)) pl row ends i=.inl r:=by
 induction r with
 |nil=>intro pl row ends i _ _ _ _ _;exact⟨_,rfl⟩
 |@step x q A I C R' hn hI t ih =>
   intro pl row ends i v hrow hq hnd hins;obtain⟨hx,hxp⟩:=hq x (aM ..);obtain⟨hxq,hnd'⟩:=cn.1 hnd;have hx0:(0:Int)<=((x:Nat):Int)/\((x:Nat):Int)<n:=⟨om,om⟩
   have ho:=hout x hx0;rw[aO]at ho;have hpos:∀i∈outs.getD x [],0<=i:=λi hi=>by
    obtain⟨k,rfl,_⟩:=fp.1 (ho.mem.1 hi);omega
   have key:Aj E row ((x:Nat):Int)=true/\eR (jJ E ((x:Nat):Int) (outs.getD x []) row)=A++O x++C:=by
    have inI:∀i∈row,i.2.2=((x:Nat):Int)->∃k:Nat,i.1=k/\k∈I:=λi hi h=>by
     rcases v.it i hi with⟨_,b⟩|⟨k,a,b,_⟩
     .omega
     .obtain⟨p1,_,p3⟩:=vf hE b;exact⟨k,a,(hI k).2 ⟨p1,om⟩⟩
    have hIn:∀k∈I,∃i∈row,i.1=((k:Nat):Int)/\i.2.2=((x:Nat):Int):=λk hk=>by
     have hm:k∈eR row:=by rw[hrow];simp[hk]
     obtain⟨i,hi,he⟩:=CM.1 hm;refine⟨i,hi,he,?_⟩;rcases v.it i hi with⟨a,_⟩|⟨k',a,b,_⟩
     .omega
     .obtain rfl:k'=k:=om;obtain⟨_,_,p3⟩:=vf hE b;rw[p3,((hI k').1 hk).2]
    rcases hins x (aM ..)with⟨hr0,_⟩|⟨e0,he0,hh0⟩
    ·
     subst hr0;have hz:A++I++C=[]:=hrow.symm;obtain⟨hz1,rfl⟩:=mK.1 hz;obtain⟨rfl,rfl⟩:=mK.1 hz1;have h0:(dr E ((x:Nat):Int)).length=0:=by
      rw[aW,dj];intro j hj;obtain⟨k,rfl,h1,h2⟩:=(gT hE).1 hj;have:=(hI k).2 ⟨h1,h2⟩;cases this
     refine⟨rF.2 (.inl ⟨h0,λi hi=>by cases hi⟩),?_⟩;rw[pJ (λi hi=>by cases hi),pq,rX hpos,hO x hx];rfl
    .have hI0:e0∈I:=(hI e0).2 ⟨he0,hh0⟩;rcases qI ((x:Nat):Int) row with h|⟨A',X,C',c⟩
     .obtain⟨i,hi,_,h2⟩:=hIn e0 hI0;exact absurd h2 (h i hi)
     have e1:=Jm row;rw[hrow]at e1;have e2:eds row=eds A'++eds X++eds C':=by rw[c.eq,yY,yY]
     have memR:∀{i:It},(i∈A'\/i∈X\/i∈C')->i∈row:=fun {i} h=>by
      rw[c.eq];simp only[aZ];rcases h with h|h|h
      .exact .inl (.inl h)
      .exact .inl (.inr h)
      .exact .inr h
     let P:Int->Bool:=λz=>decide (z.toNat∈I/\0<=z)
     have pI:∀i∈row,0<=i.1->(P i.1=true↔i.2.2=((x:Nat):Int)):=λi hi h0=>by
      show decide _=true↔_;rw[aK];constructor
      .rintro⟨h1,_⟩;rcases v.it i hi with⟨a,_⟩|⟨k,a,b,_⟩
       .omega
       .obtain⟨_,_,p3⟩:=vf hE b;rw[a,aO]at h1;rw[p3,((hI k).1 h1).2]
      .intro h;obtain⟨k,a,b⟩:=inI i hi h;exact⟨by rw[a,aO];exact b,h0⟩
     have nd:=v.er;rw[hrow,bL,bQ]at nd;have nd2:=bQ.1 nd.2.1
     have dec:=Jr (P:=P) (A1:=A.map λe=>((e:Nat):Int)) (X1:=I.map λe=>((e:Nat):Int)) (C1:=C.map λe=>((e:Nat):Int)) (A2:=eds A') (X2:=eds X) (C2:=eds C') (by rw[<-bS,<-bS,e1,e2])
      (λz hz=>by
       obtain⟨e,he,rfl⟩:=bp.1 hz;refine aw λh=>?_;rw[aO]at h;exact nd.2.2 e he e (cW _ h.1) rfl)
      (λz hz=>by
       obtain⟨e,he,rfl⟩:=bp.1 hz;refine aw λh=>?_;rw[aO]at h;exact nd2.2.2 e h.1 e he rfl)
      (λz hz=>by
       obtain⟨i,hi,h0,rfl⟩:=yB.1 hz;refine Bool.eq_false_iff.2 λh=>c.na i hi ((pI i (memR (.inl hi)) h0).1 h))
      (λz hz=>by
       obtain⟨i,hi,h0,rfl⟩:=yB.1 hz;refine Bool.eq_false_iff.2 λh=>c.nc i hi ((pI i (memR (.inr (.inr hi))) h0).1 h))
      (λh=>by rw[kQ]at h;rw[h]at hI0;cases hI0)
      (λz hz=>by
       obtain⟨e,he,rfl⟩:=bp.1 hz;exact aH ⟨by rw[aO];exact he,om⟩)
      (by
       obtain⟨a,X',rfl,ha⟩:=c.hd;obtain⟨k,hk,hkI⟩:=inI a (memR (.inr (.inl (aM ..)))) ha;refine⟨a.1,eds X',?_,(pI a (memR (.inr (.inl (aM ..)))) om).2 ha⟩;unfold eds;rw[fx,if_pos (aH om),bO])
      (by
       obtain⟨X',a,rfl,ha⟩:=c.tl;have hm:a∈X'++[a]:=by simp
       obtain⟨k,hk,hkI⟩:=inI a (memR (.inr (.inl hm))) ha;refine⟨eds X',a.1,?_,(pI a (memR (.inr (.inl hm))) om).2 ha⟩;rw[yY];congr 1;unfold eds;rw[fx,if_pos (aH om)];rfl)
     obtain⟨d1,d2,d3⟩:=dec;have tn:∀{l:List Nat}{Y:List It},(l.map λe=>((e:Nat):Int))=eds Y->eR Y=l:=fun {l Y} h=>by
      rw[<-Jm]at h;have:=congrArg (List.map Int.toNat) h;rw[de,de]at this;have e3:(Int.toNat ∘ λe:Nat=>((e:Nat):Int))=id:=funext λe=>aO e;rw[e3,ma,ma]at this;exact this.symm
     have bare:∀i∈X,i.2.2=((x:Nat):Int)\/i.2.2=-1:=λi hi=>by
      rcases v.it i (memR (.inr (.inl hi)))with⟨_,b⟩|⟨k,a,_,_⟩
      .exact .inr b
      .left;have h0:0<=i.1:=om;have:i.1∈eds X:=yB.2 ⟨i,hi,h0,rfl⟩;rw[<-d2]at this;obtain⟨e,he,hee⟩:=bp.1 this;exact(pI i (memR (.inr (.inl hi))) h0).1 (aH ⟨by rw[<-hee,aO];exact he,h0⟩)
     have hcnt:iq ((x:Nat):Int) X=(dr E ((x:Nat):Int)).length:=by
      have h1:iq ((x:Nat):Int) X=(eds X).length:=by
       unfold iq eds;rw[ah,<-List.countP_eq_length_filter];refine List.countP_congr λi hi=>?_;rw[aK,aK];constructor
       .intro h;obtain⟨k,a,_⟩:=inI i (memR (.inr (.inl hi))) h;omega
       .intro h;rcases bare i hi with q|q
        .exact q
        .rcases v.it i (memR (.inr (.inl hi)))with⟨a,_⟩|⟨k,a,b,_⟩
         .omega
         .obtain⟨_,_,p3⟩:=vf hE b;omega
      have h2:(I.map λe=>((e:Nat):Int)).Perm (dr E ((x:Nat):Int)):=(kG (yy hn) (iT _ _ _)).2 λj=>by
       show _↔j∈dr E ((x:Nat):Int);rw[gT hE,bp];constructor
       .rintro⟨e,he,rfl⟩;exact⟨e,rfl,((hI e).1 he).1,((hI e).1 he).2⟩
       .rintro⟨k,rfl,h1,h2⟩;exact⟨k,(hI k).2 ⟨h1,h2⟩,rfl⟩
      rw[h1,<-d2,h2.length_eq]
     refine⟨rF.2 (.inr ⟨A',X,C',c,hcnt,bare⟩),?_⟩;rw[c.next,pq,pq,rX hpos,tn d1,tn d3,hO x hx]
   obtain⟨k1,k2⟩:=key;rw[bO];unfold nF;rw[if_pos (pE.2 ⟨hx0,hxp,k1⟩),aO];refine ih _ _ _ _ (v.next ho hxp k1 hone hx0) k2 (λy hy=>⟨(hq y (aN _ hy)).1,λh=>?_⟩) hnd' λy hy=>?_
   .rcases aZ.1 h with h|h
    .exact(hq y (aN _ hy)).2 h
    .rw[eC]at h;have:y=x:=om;exact hxq (this▸hy)
   .rcases hins y (aN _ hy)with⟨_,h⟩|h
    .simp only[List.head?_cons,aa]at h;exact absurd (h▸hy) hxq
    .exact .inr h
end
end Go.Proofs.YtklpoimdclflmaaGreatDoor
