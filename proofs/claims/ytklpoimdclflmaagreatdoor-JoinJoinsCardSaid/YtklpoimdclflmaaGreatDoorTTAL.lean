/- The least edges of blocks, round by round -/
import Derived.Test.YtklpoimdclflmaaGreatDoorTTAK
set_option linter.all false
namespace Go.Proofs.YtklpoimdclflmaaGreatDoor
open Go.Blk
def grE(n:Nat)(E:List (Int×Int))(hE:InG n E)(hl:∀i,i<E.length->tlE E i≠hdE E i):Gr:=⟨E.length,n,tlE E,hdE E,λi hi=>⟨(hE i hi).2.1,(hE i hi).2.2,hl i hi⟩⟩
section
variable {n:Nat}{E:List (Int×Int)} (hE:InG n E) (hl:∀i,i<E.length->tlE E i≠hdE E i)
def mT{x u:Nat}(hu:u≠x)(hun:u<n)(y:Nat) :
 goN E.length (tlE E) (hdE E) (λi=>!(decide (tlE E i=x))&&!(decide (hdE E i=x))) n (λv=>decide (v=u)) y=true↔Conn (grE n E hE hl) (·≠x) u y:=by
 rw[go_ok (λi hi=>(hE i hi).2) hun];exact JD (g:=grE n E hE hl) hu
def iO{x u v:Nat}(hu:u≠x)(hv:v≠x)(hun:u<n)(hvn:v<n) :
 fK n E (λv=>decide (v=x)) u=fK n E (λv=>decide (v=x)) v↔Conn (grE n E hE hl) (·≠x) u v:=by
 have ku:(!(decide (u=x)))=true:=by simpa using hu
 have kv:(!(decide (v=x)))=true:=by simpa using hv
 unfold fK;simp only[ku,kv,Bool.and_true];constructor
 .intro h;obtain⟨y1,a1,_,_,a2,_⟩:=sJ (n:=n) (p:=λy=>goN E.length (tlE E) (hdE E) (λi=>!(decide (tlE E i=x))&&!(decide (hdE E i=x))) n (λv=>decide (v=u)) y) n (ab _) ⟨u,om,hun,(mT hE hl hu hun u).2 (.refl hu)⟩;obtain⟨y2,b1,_,_,b2,_⟩:=sJ (n:=n) (p:=λy=>goN E.length (tlE E) (hdE E) (λi=>!(decide (tlE E i=x))&&!(decide (hdE E i=x))) n (λz=>decide (z=v)) y) n (ab _) ⟨v,om,hvn,(mT hE hl hv hvn v).2 (.refl hv)⟩;have e:y1=y2:=by
   have:=a1.symm.trans (h.trans b1);omega
  subst e;exact((mT hE hl hu hun y1).1 a2).trans ((mT hE hl hv hvn y1).1 b2).symm
 .intro h;refine uU (λy _=>?_) n (ab _);rw[dM,mT hE hl hu hun,mT hE hl hv hvn];exact⟨λq=>h.symm.trans q,λq=>h.trans q⟩
end
variable {D D':Nat->Nat->Nat->Prop}{g:Gr}{l l0:Nat->Nat}{more:Bool}
def tP(m:Nat)(l:Nat->Nat):Nat:=((List.range m).map l).sum
def pC(m:Nat)(l:Nat->Nat):tP (m+1) l=tP m l+l m:=by
 unfold tP;rw[cP,bS,List.sum_append];simp
def yi{l l':Nat->Nat}:∀m,(∀i,i<m->l i<=l' i)->tP m l<=tP m l'
 |0,_=>ab _
 |m+1,h=>by
   rw[pC,pC];have:=yi m λi hi=>h i om;have:=h m om;omega
def DA{l l':Nat->Nat}:∀m,(∀i,i<m->l i<=l' i)->(∃i,i<m/\l i<l' i)->tP m l<tP m l'
 |0,_,⟨i,hi,_⟩=>by omega
 |m+1,h,⟨i,hi,hlt⟩=>by
   rw[pC,pC];have h1:=yi m λi hi=>h i om;have h2:=h m om;rcases eW i m with q|q
   .have:=DA m (λi hi=>h i om) ⟨i,q,hlt⟩;omega
   .have:i=m:=om;subst this;omega
structure InvL(g:Gr)(l:Nat->Nat):Prop where
 cls:∀i,i<g.m->Cls g i (l i)
 le:∀i,i<g.m->l i<=i
def Lk(g:Gr)(x i k:Nat):Prop:=g.inc i x/\g.inc k x/\Conn g (·≠x) (g.oth i x) (g.oth k x)
def upL(l:Nat->Nat)(i k:Nat):Nat->Nat:=λj=>if j=k then min (l i) (l k)else if j=i then min (l i) (l k)else l j
structure Rnd(g:Gr)(l0 l:Nat->Nat)(more:Bool)(D:Nat->Nat->Nat->Prop):Prop where
 inv:InvL g l
 le:∀i,i<g.m->l i<=l0 i
 yes:more=true->tP g.m l<tP g.m l0
 no:more=false->(∀i,i<g.m->l i=l0 i)/\∀x i k,D x i k->Lk g x i k->l0 i=l0 k
def Rnd.up{x i k:Nat}(h:Rnd g l0 l more D)(hk:Lk g x i k)(hne:l i≠l k):Rnd g l0 (upL l i k) true D':=by
 obtain⟨a,b,c⟩:=hk;have hm:Cls g i k:=.one ⟨x,a,b,c⟩;have hi:=a.1;have hk:=b.1;have le:∀j,j<g.m->upL l i k j<=l j:=λj _=>by
  unfold upL;split
  .next e=>subst e;omega
  .split
   .next e=>subst e;omega
   .omega
 refine⟨⟨λj hj=>?_,λj hj=>cu (le j hj) (h.inv.le j hj)⟩,λj hj=>cu (le j hj) (h.le j hj),λ_=>?_,λe=>by cases e⟩
 .have ci:=h.inv.cls i hi;have ck:=h.inv.cls k hk;unfold upL;split
  .next e =>
   subst e;rcases Nat.le_total (l i) (l j)with q|q
   .rw[cD q];exact hm.symm.trans ci
   .rw[tW q];exact ck
  .split
   .next e =>
    subst e;rcases Nat.le_total (l j) (l k)with q|q
    .rw[cD q];exact ci
    .rw[tW q];exact hm.trans ck
   .exact h.inv.cls j hj
 .refine du (DA g.m le ?_) (yi g.m h.le);rcases Nat.lt_or_gt_of_ne hne with q|q
  .exact⟨k,hk,by unfold upL;rw[if_pos rfl];omega⟩
  .refine⟨i,hi,?_⟩;unfold upL;split
   .next e=>subst e;omega
   .rw[if_pos rfl];omega
def Rnd.keep(h:Rnd g l0 l more D)(hD:∀x i k,D' x i k->D x i k\/(Lk g x i k->l i=l k)):Rnd g l0 l more D':=by
 refine⟨h.inv,h.le,h.yes,λe=>?_⟩;obtain⟨a,b⟩:=h.no e;refine⟨a,λx i k hd hk=>?_⟩;rcases hD x i k hd with q|q
 .exact b x i k q hk
 .rw[<-a i hk.1.1,<-a k hk.2.1.1];exact q hk
def Rnd.lst(h:Rnd g l0 l false D)(hD:∀x i k,x<g.n->i<g.m->k<g.m->D x i k):Lst g l:=by
 obtain⟨a,b⟩:=h.no rfl;refine⟨h.inv.cls,h.inv.le,λi k hi hk r=>?_⟩;rw[a i hi,a k hk];obtain⟨x,r1,r2,r3⟩:=r;exact b x i k (hD x i k (inc_lt r1) hi hk) ⟨r1,r2,r3⟩
end Go.Proofs.YtklpoimdclflmaaGreatDoor
namespace Go.Proofs.YtklpoimdclflmaaGreatDoor
open Go.Am
def eR(row:List It):List Nat:=(row.filter λi=>decide (0<=i.1)).map λi=>i.1.toNat
def pq{a b:List It}:eR (a++b)=eR a++eR b:=by
 unfold eR;rw[cB,bS]
def CM{a:List It}{e:Nat}:e∈eR a↔∃i∈a,i.1=(e:Nat):=by
 unfold eR;rw[bp];constructor
 .rintro⟨i,hi,rfl⟩;rw[bB,aK]at hi;exact⟨i,hi.1,om⟩
 .rintro⟨i,hi,he⟩;exact⟨i,bB.2 ⟨hi,aH om⟩,om⟩
def pK:∀{l:List Int},(∀i∈l,0<=i)->l.Nodup->(l.map Int.toNat).Nodup
 |[],_,_=>fk
 |a::l,h,n=>by
   obtain⟨n1,n2⟩:=cn.1 n;refine cn.2 ⟨λhm=>?_,pK (λi hi=>h i (aN _ hi)) n2⟩;obtain⟨b,hb,e⟩:=bp.1 hm;have h1:=h a (aM ..);have h2:=h b (aN _ hb);obtain rfl:b=a:=om;exact n1 hb
def Inv.er{n:Nat}{es:List (Int×Int)}{row:List It}{pl:List Int}(v:Inv n es row pl):(eR row).Nodup:=by
 have:=pK (l:=(row.filter λi=>decide (0<=i.1)).map (·.1)) (λi hi=>by
  obtain⟨j,hj,rfl⟩:=bp.1 hi;rw[bB,aK]at hj;exact hj.2) v.nd
 rwa [de]at this
def rX{es:List (Int×Int)}{x:Int}{l:List Int}(h:∀i∈l,0<=i):eR (eV es x l)=l.map Int.toNat:=by
 unfold eV;split
 .rename_i hl
  subst hl;rfl
 .unfold eR;rw[BK.2 λi hi=>by
   obtain⟨k,hk,rfl⟩:=bp.1 hi;exact aH (h k hk),de]
  rfl
section
variable {n:Nat}{E:List (Int×Int)}{hE:InG n E}{hL:∀i,i<E.length->tlE E i≠hdE E i}
def vf{e:Nat}{t d:Int}(hE:InG n E)(h:E[e]?=some (t,d)):e<E.length/\t=(tlE E e:Nat)/\d=(hdE E e:Nat):=by
 obtain⟨hl,h⟩:=au.1 h;have:=(hE e hl).1;rw[h,aq]at this;exact⟨hl,this.1,this.2⟩
def Jc{e:Nat}(hE:InG n E)(h:e<E.length):E[e]?=some (((tlE E e:Nat):Int),((hdE E e:Nat):Int)):=by
 rw[aj h,(hE e h).1]
end
open Go.Am
variable {b bytes c esz k lo m o:Nat}{cs:List AV}{d:Array Int}{es l xs:List Int}{h:AH}{t z:Int}{v:AV}
def dd(x:Int):List Int->List Int
 |[]=>[]
 |y::r=>if y=x then dd x r else y::dd y r
def oA:List Int->List Int
 |[]=>[]
 |x::r=>x::dd x r
def za(y:Int):∀(x:Int) (l:List Int),dd x (l++[y])=dd x l++if (x::l).getLast (by simp)=y then []else [y]
 |x,[]=>by
   show(if y=x then dd x []else y::dd y [])=[]++if x=y then []else [y]
   by_cases q:y=x
   .subst q;simp[dd]
   .have q2:¬x=y:=λe=>q e.symm;simp[q,q2,dd]
 |x,z::l=>by
   simp only[bX,dd];rw[List.getLast_cons (by simp)];split
   .rename_i e
    subst e;exact za y z l
   .rw[za y z l];rfl
def Gh{y:Int}(hl:l≠[]):oA (l++[y])=oA l++if l.getLast hl=y then []else [y]:=by
 cases l with
 |nil=>exact absurd rfl hl
 |cons x r =>
   simp only[bX,oA];rw[za]
def xQ(h0:0<k)(hk:k<d.size):oA (d.toList.take (k+1))=oA (d.toList.take k)++if d[k]! = d[k-1]! then []else [d[k]!]:=by
 have hk':k<d.toList.length:=by rw[bU];exact hk
 have hne:d.toList.take k≠[]:=by
  intro e;have:=congrArg List.length e;rw[aS,bU,bm]at this;omega
 rw[aI hk',Gh hne];have e1:(d.toList.take k).getLast hne=d[k-1]!:=by
  rw[List.getLast_eq_getElem,List.getElem_take,getElem!_pos d _ om];simp only[aS,bU,cD (vU hk)];rfl
 have e2:d.toList[k]=d[k]!:=by rw[getElem!_pos d _ hk];rfl
 rw[e1,e2];by_cases q:d[k]! = d[k-1]!
 .rw[if_pos q.symm,if_pos q]
 .rw[if_neg (λe=>q e.symm),if_neg q]
def GX{n k:Nat}(hg:h.get b=some (jT cs o d))(hk:k<n)(hn:n<=c):slV h 1 (.sl b o n c) (some (.int .i64 (k:Nat))) none none=some (.sl b (o+k) (n-k) (c-k)):=by
 have h2:=iU (k:=.i64) (vU hk);unfold jT at hg;simp only[slV,hg,if_true,tb,h2,aQ,jC,bT,if_false];rw[if_neg om,aP]
def Nm{n k:Nat}(hg:h.get b=some (jT cs o d))(hk:k<=c):slV h 1 (.sl b o n c) none (some (.int .i64 (k:Nat))) none=some (.sl b o k c):=by
 have h2:=iU (k:=.i64) hk;unfold jT at hg;simp only[slV,hg,if_true,tb,h2,aQ,pV,eB,GE,ite_self]
def Li(hg:h.get b=some (jT cs o d))(hr:o+d.size<=cs.length)(hk:k<d.size) :
 ∃h' d',Cb h [.int .i64 0] (.sl b (o+k) (d.size-k) c)=some (.un,h')/\Upd h h' b (jT cs o d')/\d'.size=d.size/\d'.toList.take k=d.toList.take k:=by
 have hr':o+(iR d).length<=cs.length:=by rw[im];exact hr
 have e0:cq [AV.int .i64 0] (d.size-k)=List.replicate (d.size-k) (.int .i64 0):=eQ _;have ez:(cq [AV.int .i64 0] (d.size-k)).all AV.one=true:=by
  rw[e0,bK];intro x hx;rw[List.eq_of_mem_replicate hx];rfl
 refine⟨_,(d.toList.take k++List.replicate (d.size-k) 0).toArray,?_,Oi hg,?_,?_⟩
 .unfold Cb;simp only;rw[if_neg om,if_pos ez,dw hg,if_pos (by rw[iK hr',e0,cA];omega)];simp only[aQ,aa,aq,true_and];congr 2;refine cV λi=>?_;have l1:(iR d).length=d.size:=im d;have l2:o+k+(cq [AV.int .i64 0] (d.size-k)).length<=(dG cs o (iR d)).length:=by rw[iK hr',e0,cA];omega
  have l4:(iR (d.toList.take k++List.replicate (d.size-k) 0).toArray).length=d.size:=by
   rw[im];simp only[dg,aJ,aS,bU,cA];omega
  rw[fE l2,fE hr',fE (by rw[l4];omega),l1,l4,e0,cA];unfold iR;simp only[bS,List.map_replicate,List.getElem?_append,ah,aS,bU,cz];rw[cD (vU hk)];by_cases q1:o<=i/\i<o+d.size
  .rw[if_pos q1,if_pos q1];by_cases q2:i-o<k
   .rw[if_pos q2,if_neg om,gI,cS,if_pos q2]
   .rw[if_neg q2,if_pos om,if_pos om,if_pos om]
  .rw[if_neg q1,if_neg q1,if_neg om]
 .simp only[dg,aJ,aS,bU,cA];omega
 .simp only[BJ];rw[List.take_append_of_le_length (by rw[aS,bU];omega),NW,Nat.min_self]
def CR(hg:h.get b=some (jT cs o d))(hr:o+d.size<=cs.length)(hc:d.size<=c)(hs:d.size<2^38) :
 C prg 59 [.sl b o d.size c] h λr h'=>∃(d':Array Int) (m:Nat),r=.sl b o m c/\m<=d.size/\d'.size=d.size/\Upd h h' b (jT cs o d')/\d'.toList.take m=oA d.toList:=by
 refine Oj rfl ?_;refine ae (ak (Mi0) ?_);refine ae (ae (ak (Mi0) ?_));refine cF (t:=decide (d.size<2)) (by simp only[am,aL,simprocAttr];exact congrArg AV.bool (by simp only[decide_eq_decide];omega)) (λq=>?_) λq=>?_
 .have q:d.size<2:=aY q;refine ae (ak (Mi0) ?_);refine bu ⟨_,(by simp only[rs,rf59,am,aL,simprocAttr]<;>rfl),d,d.size,rfl,ab _,rfl,Upd.refl hg,?_⟩;rw[<-bU,bt];rw[<-bU]at q
  match d.toList,q with
  |[],_=>rfl
  |[x],_=>rfl
  |x::y::r,q=>simp only[bd]at q;omega
 have q:¬d.size<2:=bo q;refine bz (ae (ae (ak (M0) ?_)))
 refine dl (hG (λn ts h1=>∃k:Nat,n=d.size-k/\1<=k/\k<=d.size/\h1=h/\oA (d.toList.take k)=d.toList.take k/\db ts 0=.sl b o d.size c/\db ts 3=.int .i64 (k:Nat)) ?_ (n:=d.size-1)
  ⟨1,rfl,ab _,om,rfl,?_,Zi0,Z1 @vX⟩)
 .rintro n ts h1 ⟨k,rfl,k1,k2,rfl,hk,e0,e3⟩;refine ae (ae (ak (M2 e0 e3) ?_));refine cF (t:=decide (k<d.size)) (Z1 @bE) (λp=>?_) λp=>?_
  .have p:k<d.size:=aY p;have w1:IntKind.i64.wrap (((k:Nat):Int)-1)=((k-1:Nat):Int):=by rw[fU om om];omega
   have i1:fe ((k:Nat):Int) d.size=some k:=cK p;have i2:fe ((k-1:Nat):Int) d.size=some (k-1):=cK om;have r1:=sC (i:=k) hg hr p;have r2:=sC (i:=k-1) hg hr om;refine bz (ae (dl (ae (ak (M8 e0 e3 w1 i1 i2 r1 r2 @aP) ?_))));have hkt:=xQ (d:=d) k1 p;refine cF (t:=decide (d[k]! = d[k-1]!)) (Z0) (λz=>?_) λz=>?_
   .have z:d[k]! = d[k-1]!:=aY z;rw[if_pos z,bF,hk]at hkt;have s1:=GX hg p hc;refine ae (ak (by simp only[am,aL,simprocAttr,e0,e3,dQ,bW,s1]<;>rfl) ?_);refine ae (ae (ak (M0) ?_))
    refine dl (hG (λn ts h2=>∃(m x:Nat) (d2:Array Int),n=d.size-k-x/\1<=x/\x<=d.size-k/\k<=m/\m<k+x/\Upd h1 h2 b (jT cs o d2)/\d2.size=d.size/\d2.toList.take m=oA (d.toList.take (k+x))/\(∀y,k+x<=y+1->y<d.size->d2[y]! = d[y]!) /\
     db ts 0=.sl b o d.size c/\db ts 3=.int .i64 (m:Nat)/\db ts 4=.sl b (o+k) (d.size-k) (c-k)/\db ts 5=.int .i64 (x:Nat)) ?_ (n:=d.size-k-1)
     ⟨k,1,d,rfl,ab _,om,ab _,om,Upd.refl hg,rfl,hkt.symm,λ_ _ _=>rfl,Z1 e0,Z1 e3,Z0,Z1 @vX⟩)
    clear e0 e3;rintro n ts h2 ⟨m,x,d2,rfl,x1,x2,m1,m2,hu,hz,hd,hsame,e0,e3,e4,e5⟩;refine ae (ae (ak (M2 e4 e5) ?_));refine cF (t:=decide (x<d.size-k)) (Z1 @bE) (λy=>?_) λy=>?_
    .have y:x<d.size-k:=aY y;have w2:IntKind.i64.wrap (((x:Nat):Int)-1)=((x-1:Nat):Int):=by rw[fU om om];omega
     have w3:IntKind.i64.wrap (((x:Nat):Int)+1)=((x+1:Nat):Int):=fU om om;have i3:fe ((x:Nat):Int) (d.size-k)=some x:=cK y;have i4:fe ((x-1:Nat):Int) (d.size-k)=some (x-1):=cK om;have r3:ai h2 b (o+k+x) 1=some [.int .i64 d2[k+x]!]:=by rw[fF];exact sC (i:=k+x) hu.get om om
     have r4:ai h2 b (o+k+(x-1)) 1=some [.int .i64 d2[k+(x-1)]!]:=by rw[fF];exact sC (i:=k+(x-1)) hu.get om om
     rw[hsame _ om om]at r3 r4;have hct:=xQ (d:=d) (k:=k+x) om om;rw[show k+x-1=k+(x-1) by omega]at hct;refine bz (ae (dl (ae (ak (M8 e4 e5 w2 i3 i4 r3 r4 @aP) ?_))));refine cF (t:=!decide (d[k+x]! = d[k+(x-1)]!)) (Z0) (λu=>?_) λu=>?_
     .have u:¬d[k+x]! = d[k+(x-1)]!:=by simpa using u
      rw[if_neg u]at hct;have i5:fe ((m:Nat):Int) d.size=some m:=cK om;obtain⟨h3,wr,u3⟩:=BO (i:=m) (x:=d[k+x]!) hu.get om om;have w4:IntKind.i64.wrap (((m:Nat):Int)+1)=((m+1:Nat):Int):=fU om om;refine ae (ak (M10 e0 e3 e4 e5 i3 i5 r3 wr @aP @aP) ?_);refine ak (M2 e3 w4) ?_;refine ak (M2 e5 w3) ?_;refine⟨d.size-k-(x+1),om,m+1,x+1,d2.setIfInBounds m d[k+x]!,rfl,om,om,om,om,hu.trans u3,by simpa using hz,?_,λy hy1 hy2=>?_,Z1 e0,Z2 e3 w4,Z1 e4,Z2 e5 w3⟩
      .rw[<-fF,hct,<-hd,Array.toList_setIfInBounds];rw[List.take_set,aI (by rw[bU];omega)];rw[wm _ _ (by rw[aS,bU];omega)];have em:m-(d2.toList.take m).length=0:=by rw[aS,bU];omega
       rw[em];rfl
      .rw[<-hsame y om hy2];rw[getElem!_pos _ _ (by simpa using(by omega:y<d2.size)),getElem!_pos d2 _ om,Array.getElem_setIfInBounds,if_neg om]
     .have u:d[k+x]! = d[k+(x-1)]!:=by simpa using u
      rw[if_pos u,bF]at hct;refine bz ?_;refine ak (M2 e5 w3) ?_;exact⟨d.size-k-(x+1),om,m,x+1,d2,rfl,om,om,m1,om,hu,hz,by rw[<-fF,hct,hd],λy hy1 hy2=>hsame y om hy2,Z1 e0,Z1 e3,Z1 e4,Z2 e5 w3⟩
    .have y:¬x<d.size-k:=bo y;have ex:k+x=d.size:=om;rw[ex,<-bU,bt]at hd;refine fM ⟨λ_=>?_,λe=>absurd rfl e⟩;have s2:=GX (n:=d.size) (k:=m) hu.get om hc;obtain⟨h3,d3,c3,u3,z3,t3⟩:=Li (k:=m) (c:=c-m) hu.get om om;rw[hz]at c3;have s3:=Nm (n:=d.size) (k:=m) (c:=c) u3.get om;refine ae (ak (by simp only[am,aL,simprocAttr,e0,e3,dQ,bW,s2,c3]<;>rfl) ?_);refine ae (ak (by simp only[am,aL,simprocAttr,e0,e3,dQ,bW,s3]<;>rfl) ?_);exact bu ⟨_,(by simp only[rs,rf59,am,aL,simprocAttr]<;>rfl),d3,m,rfl,om,om,hu.trans u3,by rw[t3,hd]⟩
   .have z:¬d[k]! = d[k-1]!:=bo z;rw[if_neg z,hk]at hkt;have w3:IntKind.i64.wrap (((k:Nat):Int)+1)=((k+1:Nat):Int):=fU om om;refine bz ?_;refine ak (M2 e3 w3) ?_;refine⟨d.size-(k+1),om,k+1,rfl,om,om,rfl,?_,Z1 e0,Z2 e3 w3⟩;rw[hkt,aI (by rw[bU];exact p),getElem!_pos d _ p];rfl
  .have p:¬k<d.size:=bo p;refine fM ⟨λ_=>?_,λe=>absurd rfl e⟩;refine ae (ak (M1 e0) ?_);have ek:k=d.size:=om;refine bu ⟨_,(by simp only[rs,rf59,am,aL,simprocAttr]<;>rfl),d,d.size,rfl,ab _,rfl,Upd.refl hg,?_⟩;rw[ek,<-bU,bt]at hk;rw[<-bU,bt,hk]
 .match hl:d.toList,(by rw[bU];omega:2<=d.toList.length)with
  |x::r,_=>rfl
open Go.Am
def edM(E:List (Int×Int))(i:Int):Int×Int:=E.getD i.toNat (0,0)
def iG(E:List (Int×Int))(es:List Int):List Int:=es.flatMap λi=>[(edM E i).1,(edM E i).2]
def vsM(n:Nat)(E:List (Int×Int))(es:List Int):List Int:=(jX n).filter λv=>decide (v∈iG E es)
def dn(n:Nat)(E:List (Int×Int))(es:List Int)(v:Int):Nat:=(vsM n E es).countP λu=>decide (u<v)
def fo(n:Nat)(E:List (Int×Int))(es:List Int):List (Int×Int):=es.map λi=>(((dn n E es (edM E i).1:Nat):Int),((dn n E es (edM E i).2:Nat):Int))
def Ml{n:Int}{E:List (Int×Int)}(hm:fC n E=true)(hs:∀i∈es,0<=i/\i<(E.length:Nat)):∀v∈iG E es,0<=v/\v<n:=by
 intro v hv;unfold iG at hv;rw[cM]at hv;obtain⟨i,hi,hv⟩:=hv;obtain⟨h1,h2⟩:=hs i hi;unfold fC at hm;simp only[aU,bK]at hm;have hk:i.toNat<E.length:=om;have he:edM E i=E[i.toNat]:=by unfold edM;rw[aA,aj hk];rfl
 have:=hm.2 _ (ar hk);rw[<-he]at this;simp only[okE,yv,aU,dZ,Bool.or_eq_false_iff,ce,aK]at this;simp only[aF,bA,or_false]at hv;rcases hv with rfl|rfl<;>omega
def CN(z:Int):∀(x:Int) (l:List Int),(z=x\/z∈dd x l)↔(z=x\/z∈l)
 |x,[]=>by simp[dd]
 |x,y::r=>by
   unfold dd;split
   .rename_i e
    subst e;rw[CN z y r,aF];constructor
    .rintro (h|h)
     .exact .inl h
     .exact .inr (.inr h)
    .rintro (h|h|h)
     .exact .inl h
     .exact .inl h
     .exact .inr h
   .rw[aF,aF,CN z y r]
def JE:z∈oA l↔z∈l:=by
 cases l with
 |nil=>rfl
 |cons x r=>simp only[oA,aF];exact CN z x r
def Jt:∀(x:Int) (l:List Int),(x::l).Pairwise (·<=·)->(x::dd x l).Pairwise (·<·)
 |x,[],_=>by simp[dd]
 |x,y::r,h=>by
   unfold dd;split
   .rename_i e
    subst e;exact Jt y r (List.Pairwise.of_cons h)
   .rename_i e
    have h1:=Jt y r (List.Pairwise.of_cons h);have h2:x<=y:=(dh.1 h).1 y (aM ..);have h3:x<y:=om;refine dh.2 ⟨λz hz=>?_,h1⟩;rcases aF.1 hz with rfl|hz
    .exact h3
    .have:=(dh.1 h1).1 z hz;omega
def Mn(h:l.Pairwise (·<=·)):(oA l).Pairwise (·<·):=by
 cases l with
 |nil=>exact List.Pairwise.nil
 |cons x r=>exact Jt x r h
def uA:∀{l m:List Int},l.Pairwise (·<·)->m.Pairwise (·<·)->(∀x,x∈l↔x∈m)->l=m
 |[],[],_,_,_=>rfl
 |[],y::m,_,_,h=>by have:=(h y).2 (aM ..);cases this
 |x::l,[],_,_,h=>by have:=(h x).1 (aM ..);cases this
 |x::l,y::m,h1,h2,h=>by
   obtain⟨a1,a2⟩:=dh.1 h1;obtain⟨b1,b2⟩:=dh.1 h2;have e:x=y:=by
    have hx:=(h x).1 (aM ..);have hy:=(h y).2 (aM ..);rcases aF.1 hx with q|q
    .exact q
    .rcases aF.1 hy with p|p
     .exact p.symm
     .have:=a1 y p;have:=b1 x q;omega
   subst e;rw[uA a2 b2 λz=>?_];have hz:=h z;rw[aF,aF]at hz;constructor
   .intro q;rcases hz.1 (.inr q)with p|p
    .have:=a1 z q;omega
    .exact p
   .intro q;rcases hz.2 (.inr q)with p|p
    .have:=b1 z q;omega
    .exact p
def yK(xs:List Int):(fQ xs).Pairwise (·<=·):=by
 have:=iY (le:=λx y=>decide (x<=y)) (λa b c h1 h2=>by simp only[aK]at *;omega) (λa b=>by simp only[dm,aK];omega) xs;exact this.imp λh=>aY h
def FL:z∈fQ xs↔z∈xs:=(kP xs _).mem_iff
def tf(n:Nat)(E:List (Int×Int))(es:List Int):(vsM n E es).Pairwise (·<·):=by
 unfold vsM;refine List.Pairwise.filter _ ?_;unfold jX;rw[eN];exact List.pairwise_lt_range.imp λh=>by omega
def HV{n:Int}{E:List (Int×Int)}(hm:fC n E=true)(hs:∀i∈es,0<=i/\i<(E.length:Nat)):oA (fQ (iG E es))=vsM n.toNat E es:=by
 refine uA (Mn (yK _)) (tf _ _ _) λx=>?_;rw[JE,FL];unfold vsM;rw[bB,fA];constructor
 .intro hx;have:=Ml hm hs x hx;exact⟨⟨this.1,om⟩,aH hx⟩
 .exact λhx=>aY hx.2
def EA(n:Nat):jX (n+1)=jX n++[((n:Nat):Int)]:=by
 unfold jX;rw[cP,bS];rfl
def Dy(n:Nat)(E:List (Int×Int))(es:List Int):vsM (n+1) E es=vsM n E es++if ((n:Nat):Int)∈iG E es then [((n:Nat):Int)]else []:=by
 unfold vsM;rw[EA,cB];congr 1;by_cases q:((n:Nat):Int)∈iG E es
 .simp[q]
 .simp[q]
open Go.Am
def FY{E:List (Int×Int)}(hk:k<es.length):iG E (es.take (k+1))=iG E (es.take k)++[(edM E es[k]).1,(edM E es[k]).2]:=by
 unfold iG;rw[aI hk,br];rfl
def vC(E:List (Int×Int)):∀es:List Int,(iG E es).length=2*es.length
 |[]=>rfl
 |i::r=>by
   have:=vC E r;unfold iG at *
   rw[bH,aJ,this];simp only[bd,bm];omega
def zM{n:Nat}{E:List (Int×Int)}{F:List Int}(hk:k<es.length):((es.take (k+1)).map λi=>(((dn n E F (edM E i).1:Nat):Int),((dn n E F (edM E i).2:Nat):Int)))=((es.take k).map λi=>(((dn n E F (edM E i).1:Nat):Int),((dn n E F (edM E i).2:Nat):Int)))++[(((dn n E F (edM E es[k]).1:Nat):Int),((dn n E F (edM E es[k]).2:Nat):Int))]:=by
 rw[aI hk,bS];rfl
def Jo{E:List (Int×Int)}{i:Int}(hm:i=(m:Nat))(h:m<E.length):edM E i=E[m]:=by
 subst hm;unfold edM;rw[aO,aA,aj h];rfl
def MF(hg:h.get b=some (jT cs 0 d))(hr:0+d.size<=cs.length)(hm:m<=d.size)(hc:m<=c):SlI h (.sl b 0 m c) (d.toList.take m):=by
 have hr':0+(iR d).length<=cs.length:=by rw[im];exact hr
 have hl:=iK hr';have hlt:(d.toList.take m).length=m:=by rw[aS,bU];omega
 refine .inr ⟨b,0,c,_,false,by rw[ah,hlt],hg,by rw[ah,hlt];exact hc,by rw[ah,hl,hlt];omega,λi x hi=>?_⟩;rw[aV]at hi;obtain⟨y,hy,rfl⟩:=aG.1 hi;have him:i<m:=by have:=(au.1 hy).1;omega
 rw[cS,if_pos him]at hy;have hk:(dG cs 0 (iR d))[0+i]?=some (.int .i64 y):=by
  rw[fE hr',if_pos ⟨om,by rw[im];omega⟩,show 0+i-0=i by omega];unfold iR;rw[aV,hy];rfl
 obtain⟨hlt2,hk2⟩:=au.1 hk;refine⟨om,?_⟩;rw[aP,cj hlt2,hk2];rfl
open Go.Am
def KC{x:Int}:C prg 80 [.int .i64 x] h λv h'=>v=.bool false/\h'=h:=by
 refine Oj rfl ?_;refine ae (ak (Mi0) ?_);have e:(!decide (x=x))=false:=by simp
 refine ae (ak (Mi1 e) ?_);exact bu ⟨.bool false,(by simp only[rs,rf80,am,aL,simprocAttr,bV,decide_true]<;>rfl),rfl,rfl⟩
def zb{i:Nat}(hi:i<=xs.length)(h1:∀k (hk:k<xs.length),k<i->xs[k]<t)(h2:∀k (hk:k<xs.length),i<=k->¬xs[k]<t):(xs.countP λu=>decide (u<t))=i:=by
 have e:=Du (p:=λu=>decide (u<t)) (l₁:=xs.take i) (l₂:=xs.drop i);rw[cH]at e;rw[e];have a:(xs.take i).countP (λu=>decide (u<t))=(xs.take i).length:=by
  rw[List.countP_eq_length];intro u hu;obtain⟨k,hk,rfl⟩:=iI.1 hu;rw[aS]at hk;rw[List.getElem_take];exact aH (h1 k om om)
 have b:(xs.drop i).countP (λu=>decide (u<t))=0:=by
  rw[kX];intro u hu;obtain⟨k,hk,rfl⟩:=iI.1 hu;rw[cI]at hk;rw[List.getElem_drop];simpa using h2 (i+k) om om
 rw[a,b,aS];omega
def qN(hv:SlI h v xs)(hs:xs.Pairwise (·<=·))(hl:xs.length<2^40) :
 C prg 47 [v,.int .i64 t] h λr h'=>r=.tup [.int .i64 ((xs.countP (λu=>decide (u<t)):Nat):Int),.bool (decide (t∈xs))]/\h'=h:=by
 have el:=hv.len;rw[ah]at el;have hle:∀i j (hi:i<xs.length) (hj:j<xs.length),i<=j->xs[i]<=xs[j]:=λi j hi hj hij=>by
  rcases eW i j with q|q
  .exact iu.1 hs i j hi hj q
  .have:i=j:=om;subst this;exact Int.le_refl _
 refine Oj rfl ?_;refine ae (ak (Mi0) ?_);refine ae (ak (Mi1 el) ?_);refine ae (ak (Mi0) ?_)
 refine ae (dl (hG (λn ts h1=>∃i j:Nat,n=j-i/\i<=j/\j<=xs.length/\h1=h/\(∀k (hk:k<xs.length),k<i->xs[k]<t)/\(∀k (hk:k<xs.length),j<=k->¬xs[k]<t) /\
  db ts 0=v/\db ts 1=.int .i64 t/\db ts 6=.int .i64 (xs.length:Nat)/\db ts 7=.int .i64 (i:Nat)/\db ts 8=.int .i64 (j:Nat)) ?_ (n:=xs.length)
  ⟨0,xs.length,rfl,dv _,ab _,rfl,λk hk q=>absurd q (gz _),λk hk q=>by omega,Zi0,Zi0,Zi0,Zi1 @bh,Zi0⟩))
 rintro n ts h1 ⟨i,j,rfl,hij,hj,rfl,q1,q2,e0,e1,e6,e7,e8⟩;refine ae (ae (ak (M2 e7 e8) ?_));refine cF (t:=decide (i<j)) (Z1 @bE) (λq=>?_) λq=>?_
 .have q:i<j:=aY q;have w1:IntKind.i64.wrap (((i:Nat):Int)+((j:Nat):Int))=((i+j:Nat):Int):=by rw[fU om om];omega
  have w2:IntKind.u64.wrap ((i+j:Nat):Int)=((i+j:Nat):Int):=Nj om;have w3:fq .shr .no (.int .u64 ((i+j:Nat):Int)) (.int .u64 1)=some (.int .u64 (((i+j)/2:Nat):Int)):=Lg (k:=1) om;have w4:IntKind.i64.wrap (((i+j)/2:Nat):Int)=(((i+j)/2:Nat):Int):=fU om om;refine bz (dl (ae (ak (M6 e7 e8 w1 w2 w3 w4) ?_)));have hm:(i+j)/2<xs.length:=om;have hm1:i<=(i+j)/2:=om;have hm2:(i+j)/2<j:=om;generalize (i+j)/2=m at *
  obtain⟨b1,p1,a1,r1,_⟩:=hv.at1 (cm (f:=eI) hm);refine ae (bM (bj 5 (M4 e0 e1 a1 r1) rfl (Z4 e0 e1 a1 r1) (M4 e0 e1 a1 r1) (LJ) λv h' hq=>?_));obtain⟨rfl,rfl⟩:=hq;refine bI (by simp only[am,aL,simprocAttr];rfl) ?_;refine cF (t:=Go.Sort.ltInt xs[m] t) (Z0) (λp=>?_) λp=>?_
  .have p:xs[m]<t:=aY p;have w5:IntKind.i64.wrap (((m:Nat):Int)+1)=((m+1:Nat):Int):=fU om om;refine ak (M1 w5) ?_;refine⟨j-(m+1),om,m+1,j,rfl,om,hj,rfl,λk hk hk2=>?_,q2,Z1 e0,Z1 e1,Z1 e6,Z1 w5,Z1 e8⟩;have:=hle k m hk hm om;omega
  .have p:¬xs[m]<t:=bo p;refine ak (M0) ?_;refine⟨m-i,om,i,m,rfl,om,om,rfl,q1,λk hk hk2=>?_,Z1 e0,Z1 e1,Z1 e6,Z1 e7,Z0⟩;have:=hle m k hm hk om;omega
 .have q:¬i<j:=bo q;have:j=i:=om;subst this;have ec:=zb hj q1 q2;refine fM ⟨λ_=>?_,λe=>absurd rfl e⟩;by_cases c1:j<xs.length
  .have d1:decide (((j:Nat):Int)<((xs.length:Nat):Int))=true:=aH om;obtain⟨b1,p1,a1,r1,_⟩:=hv.at1 (cm (f:=eI) c1);by_cases c2:xs[j]=t
   .have d2:decide (xs[j]=t)=true:=aH c2;refine ae (bM (fB 16 (M8 e0 e1 e6 e7 d1 a1 r1 d2) rfl (Z2 d1 d2) (fB 2 (M2 d1 d2) rfl (Z2 d1 d2) ?_)));refine bI (M2 d1 d2) ?_;refine bu ⟨_,(by simp only[rs,rf47,am,aL,simprocAttr]<;>rfl),?_,rfl⟩;rw[ec,aH (c2▸ar c1)]
   .have d2:decide (xs[j]=t)=false:=aw c2;refine ae (bM (bj 16 (M8 e0 e1 e6 e7 d1 a1 r1 d2) rfl (Z8 e0 e1 e6 e7 d1 a1 r1 d2) (M8 e0 e1 e6 e7 d1 a1 r1 d2) (KC) λv h' hq=>?_));obtain⟨rfl,rfl⟩:=hq;refine fB 2 (M2 d1 d2) rfl (Z2 d1 d2) ?_;refine bI (M2 d1 d2) ?_;refine bu ⟨_,(by simp only[rs,rf47,am,aL,simprocAttr]<;>rfl),?_,rfl⟩;rw[ec,aw];intro hm;obtain⟨k,hk,ek⟩:=iI.1 hm;have f1:=q2 j c1 (ab _);by_cases hkj:k<j
    .have:=q1 k hk hkj;omega
    .have:=hle j k c1 hk om;omega
  .have d1:decide (((j:Nat):Int)<((xs.length:Nat):Int))=false:=aw om;refine ae (bM (fB 16 (M5 e0 e1 e6 e7 d1) rfl (Z1 d1) (fB 2 (M1 d1) rfl (Z1 d1) ?_)));refine bI (M1 d1) ?_;refine bu ⟨_,(by simp only[rs,rf47,am,aL,simprocAttr]<;>rfl),?_,rfl⟩;rw[ec,aw];intro hm;obtain⟨k,hk,ek⟩:=iI.1 hm;have:=q1 k hk om;omega
open Go.Am
def appN{new:List AV}{x:Nat}(hv:IsSl h esz lo v cs)(hlo:lo<=h.next)(he:0<esz)(hm:0<m)(hx:h.get x=some (.cells new esz false))(hn:new.length=m*esz)(ho:new.all AV.one=true)
 (hb:(cs.length/esz+m)*bytes<bf) (hc:cs.length/esz+m<bf):∃v' h',gh h esz bytes v (.sl x 0 m m)=some (v',h')/\IsSl h' esz lo v' (cs++new)/\Ext lo h h'/\v'=.sl h.next 0 (cs.length/esz+m) (cs.length/esz+m)/\h'.next=h.next+1:=by
 have hr:ai h x 0 (m*esz)=some new:=by
  rw[aR hx,if_pos om,df,<-hn,bt]
 have hm0:¬m=0:=om;rcases hv with⟨rfl,rfl⟩|⟨b,n,h1,rfl,h3,h4⟩
 .refine⟨.sl h.next 0 m m,h.new (.cells new esz false),?_,.inr ⟨h.next,m,hlo,rfl,by rw[AH.get_new];simp,by simpa using hn⟩,Oe hlo,by simp,by simp⟩;simp only[gh,fz,hr,aQ,ho,if_true,hm0,if_false];simp only[bm,vT,bN]at hb hc;rw[if_pos ⟨hb,hc⟩]
 .have hnn:cs.length/esz=n:=by rw[h4,cQ _ he]
  rw[hnn]at hb hc;have hr2:ai h b 0 (n*esz)=some cs:=by
   rw[aR h3,if_pos om,df,<-h4,bt]
  refine⟨.sl h.next 0 (n+m) (n+m),(h.put b .dead).new (.cells (cs++new) esz false),?_,.inr ⟨h.next,n+m,hlo,rfl,by rw[AH.get_new,AH.next_put];simp,by rw[aJ,hn,h4,dF]⟩,?_,by rw[hnn],by simp⟩
  .simp only[gh,fz,hr,aQ,ho,if_true,hm0,if_false];rw[if_neg om,if_pos ⟨hb,hc⟩,h3,hr2];simp only[if_true]
  .exact(Og h1).trans (Oe (by simpa using hlo))
def apps{w:AV}{xs:List (List AV)}(hv:IsSl h esz lo v cs)(hlo:lo<=h.next)(he:0<esz)(hw:Sl h esz w xs)(ho:xs.flatten.all AV.one=true)
 (hb:(cs.length/esz+xs.length)*bytes<bf) (hc:cs.length/esz+xs.length<bf):∃v' h',gh h esz bytes v w=some (v',h')/\IsSl h' esz lo v' (cs++xs.flatten)/\Ext lo h h'/\h.next<=h'.next/\(∀c,c<h.next->(∀b n,v=.sl b 0 n n->c≠b)->h'.get c=h.get c):=by
 obtain⟨hs,hfl⟩:=hw.src;by_cases h0:xs.length=0
 .have hx0:xs=[]:=aW.1 h0;subst hx0;refine⟨v,h,?_,by simpa using hv,Oh,ab _,λ_ _ _=>rfl⟩;rcases hv with⟨rfl,rfl⟩|⟨b,n,h1,rfl,h3,h4⟩
  .simp only[gh,hs,ho,if_true,bm]
  .simp only[gh,hs,ho,if_true,bm]
 .rcases hv with⟨rfl,rfl⟩|⟨b,n,h1,rfl,h3,h4⟩
  .refine⟨.sl h.next 0 xs.length xs.length,h.new (.cells xs.flatten esz false),?_,.inr ⟨h.next,xs.length,hlo,rfl,by rw[AH.get_new];simp,by simpa using hfl⟩,Oe hlo,by simp,λc hc _=>by rw[AH.get_new,if_neg om]⟩;simp only[gh,hs,ho,if_true,h0,if_false];simp only[bm,vT,bN]at hb hc;rw[if_pos ⟨hb,hc⟩]
  .have hnn:cs.length/esz=n:=by rw[h4,cQ _ he]
   rw[hnn]at hb hc;have hr2:ai h b 0 (n*esz)=some cs:=by
    rw[aR h3,if_pos om,df,<-h4,bt]
   refine⟨.sl h.next 0 (n+xs.length) (n+xs.length),(h.put b .dead).new (.cells (cs++xs.flatten) esz false),?_,.inr ⟨h.next,n+xs.length,hlo,rfl,by rw[AH.get_new,AH.next_put];simp,by rw[aJ,hfl,h4,dF]⟩,?_,by simp,?_⟩
   .simp only[gh,hs,ho,if_true,h0,if_false];rw[if_neg om,if_pos ⟨hb,hc⟩,h3,hr2];simp only[if_true]
   .exact(Og h1).trans (Oe (by simpa using hlo))
   .intro c hc hne;rw[AH.get_new,AH.next_put,if_neg om,AH.get_put _ _ _ _ (AH.lt_of_get h3),if_neg (Ne.symm (hne b n rfl))]
end Go.Proofs.YtklpoimdclflmaaGreatDoor
