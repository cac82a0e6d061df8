/- The definition's side -/
import Derived.Test.YtklpoimdclflmaaGreatDoorTTAU
import Derived.Test.YtklpoimdclflmaaGreatDoorTTAS
set_option linter.all false
namespace Go.Proofs.YtklpoimdclflmaaGreatDoor
open Go.Am
def rI{n:Nat}{es:List (Int×Int)}(hl:(gU n es).length<=1):∀a b:Nat,a<n->b<n->(dr es a).length=0->(dr es b).length=0->a=b:=by
 intro a b ha hb h1 h2;refine Decidable.byContradiction λhne=>?_;have mem:∀c:Nat,c<n->(dr es c).length=0->((c:Nat):Int)∈gU n es:=λc hc h=>by
  unfold gU;exact bp.2 ⟨c,bB.2 ⟨aX.2 hc,by simpa using h⟩,rfl⟩
 have:=qA (l:=[((a:Nat):Int),((b:Nat):Int)]) (m:=gU n es) (by simp;omega) (λx hx=>by
  simp only[aF,bA,or_false]at hx;rcases hx with rfl|rfl
  .exact mem a ha h1
  .exact mem b hb h2)
 simp only[bd,bm]at this;omega
def Lm{h:AH}{n:Int}{ev ordv outv:AV}{es:List (Int×Int)}{order:List Int}{outs:List (List Int)}(he:SlE h ev es)(hl0:es.length<2^30)(hp:SlI h ordv order)(hq:SlL h outv outs)(hl:order.length<=200)(hl2:outs.length<=200)(hl3:∀l∈outs,l.length<=200) :
 C prg 26 [.agg [.int .i64 n,ev],.agg [ordv,outv]] h λr h'=>Ext h.next h h' /\
   ((¬(ft n es/\PlanP n.toNat es order outs)/\r=.tup ([.nils,.nils]++tlR 1 0))\/((ft n es/\PlanP n.toNat es order outs)/\RunR h' r n.toNat es order outs tlR)):=by
 obtain⟨ec,eo⟩:=he.cells;obtain⟨oc,oo⟩:=hp.cells;obtain⟨qc,qo⟩:=hq.cells;have lp:=hp.len;rw[ah]at lp;refine Oj rfl ?_;refine ae (ak (Mi0) ?_);have ga:∀c,((h.new (.cells [.int .i64 n,ev] 2 false)).new (.cells [ordv,outv] 2 false)).get c=if c=h.next+1 then some (.cells [ordv,outv] 2 false)else if c=h.next then some (.cells [.int .i64 n,ev] 2 false)else h.get c:=λc=>by
  rw[AH.get_new,AH.get_new];rfl
 have x0:Ext h.next h ((h.new (.cells [.int .i64 n,ev] 2 false)).new (.cells [ordv,outv] 2 false)):=(Oe (ab _)).trans (Oe (by simp));have n0:((h.new (.cells [.int .i64 n,ev] 2 false)).new (.cells [ordv,outv] 2 false)).next=h.next+2:=rfl;generalize ((h.new (.cells [.int .i64 n,ev] 2 false)).new (.cells [ordv,outv] 2 false))=h1 at *
 have gG:h1.get h.next=some (.cells [.int .i64 n,ev] 2 false):=by rw[ga,if_neg om,if_pos rfl]
 have gP:h1.get (h.next+1)=some (.cells [ordv,outv] 2 false):=by rw[ga,if_pos rfl]
 have rG:ai h1 h.next 0 2=some [.int .i64 n,ev]:=by rw[aR gG];rfl
 have rP:ai h1 (h.next+1) 0 2=some [ordv,outv]:=by rw[aR gP];rfl
 refine ae (ae (bM (bj 2 (Mi2 rG rP) rfl (Zi2 rG rP) (Mi2 rG rP) (Nu (he.ext x0 (ab _)) hl0 (hp.ext x0 (ab _)) (hq.ext x0) hl hl2 hl3) λr h2 hq'=>?_)));obtain⟨⟨bb,rfl,hbb⟩,x2⟩:=hq';have X2:=x0.trans (x2.mono x0.nx);have n2:=x2.nx;refine bI (M0) ?_;cases bb with
 |false =>
   refine cZ (Z0) (ae (ak (M0) ?_));exact bu ⟨.tup [.nils,.nils,.int .i64 1,.int .i64 0],(by simp only[rs,rf26,am,aL,simprocAttr]<;>rfl),X2,.inl ⟨λhh=>(by have:=hbb.2 hh;cases this),rfl⟩⟩
 |true =>
 obtain⟨hgood,hP⟩:=hbb.1 rfl;have hm:=hgood.1;obtain⟨nn,rfl⟩:∃nn:Nat,n=nn:=⟨n.toNat,by
  simp only[fC,aU,aK]at hm;omega⟩
 obtain⟨m1,m2,m3,m4⟩:=iX hm;have hone:=rI hgood.2.2.2.2;rw[aO]at hP hone |-;refine dC (Z0) (bz ?_);have gG2:h2.get h.next=some (.cells [.int .i64 (nn:Nat),ev] 2 false):=by rw[x2.gt _ om];exact gG
 have gP2:h2.get (h.next+1)=some (.cells [ordv,outv] 2 false):=by rw[x2.gt _ om];exact gP
 have rG2:ai h2 h.next 0 2=some [.int .i64 (nn:Nat),ev]:=by rw[aR gG2];rfl
 refine ae (ak (Mi1 rG2) ?_);have x3:Ext h2.next h2 (h2.new (.cells [.int .i64 (nn:Nat),ev,.nils,.nils] 4 false)):=Oe (ab _);have g3:(h2.new (.cells [.int .i64 (nn:Nat),ev,.nils,.nils] 4 false)).get h2.next=some (.cells [.int .i64 (nn:Nat),ev,.nils,.nils] 4 false):=by rw[AH.get_new,if_pos rfl]
 have n3:(h2.new (.cells [.int .i64 (nn:Nat),ev,.nils,.nils] 4 false)).next=h2.next+1:=rfl;generalize h2.new (.cells [.int .i64 (nn:Nat),ev,.nils,.nils] 4 false)=h3 at *
 have rn3:ai h3 h.next 0 1=some [.int .i64 (nn:Nat)]:=bq (by rw[x3.gt _ om];exact gG2) rfl;refine ae (ak (by simp only[am,aL,simprocAttr,bV,rn3,oY m2]<;>rfl) ?_);have x4:Ext h3.next h3 (h3.new (.cells (cq [.nils] nn) 1 false)):=Oe (ab _);have g4:(h3.new (.cells (cq [.nils] nn) 1 false)).get h3.next=some (.cells (cq [.nils] nn) 1 false):=by rw[AH.get_new,if_pos rfl]
 have n4:(h3.new (.cells (cq [.nils] nn) 1 false)).next=h3.next+1:=rfl;generalize h3.new (.cells (cq [.nils] nn) 1 false)=h4 at *
 have Y4:Ext h2.next h2 h4:=x3.trans (x4.mono om);have X4:=X2.trans (Y4.mono X2.nx);have hf4:IsRef h4 h2.next nn es [] [] ev .nils .nils:=by
  have e2:=he.ext X2 (ab _);refine⟨by rw[x4.gt _ om];exact g3,he.ext X4 (ab _),.inl ⟨rfl,.inl rfl⟩,.inl ⟨rfl,.inl rfl⟩,λb o m c hb=>?_,λb o m c hb=>(by cases hb),λb o m c hb=>(by cases hb),hm⟩;have:=e2.lt hb;omega
 obtain⟨hperm,hol,hout⟩:=hP;have hrl:(cq [AV.nils] nn).length=nn:=by rw[eQ,cA]
 have keepP:∀{h':AH},Ext h2.next h2 h'->h'.get (h.next+1)=some (.cells [ordv,outv] 2 false):=λhx=>by rw[hx.gt _ om];exact gP2
 refine ae (ae (ak (Mi0) ?_))
 refine dX (α:=List It×List (List It)×List AV×AV×AV) (N:=order.length) (λk _=>[(3,.ptr (h.next+1) 0),(8,.ptr h2.next 0),(9,.sl h3.next 0 nn nn),(10,.int .i64 (k:Nat))])
  (λk a h'=>nF nn es outs (order.drop k) (order.take k) a.1 a.2.1 k=nF nn es outs order [] [] (List.replicate nn []) 0/\Inv nn es a.1 (order.take k)/\IsRef h' h2.next nn es a.1 (order.take k) ev a.2.2.2.1 a.2.2.2.2/\(∀b o m c,a.2.2.2.1=.sl b o m c->h3.next<b)/\(∀b o m c,a.2.2.2.2=.sl b o m c->h3.next<b) /\
   h'.get h3.next=some (.cells a.2.2.1 1 false)/\a.2.2.1.length=nn/\a.2.1.length=nn /\
   (∀(i:Nat) (v:AV) (l:List It),a.2.2.1[i]?=some v->a.2.1[i]?=some l->SlT h' v l/\∀b o m c,v=.sl b o m c->h3.next<b)/\Ext h2.next h2 h'/\h4.next<=h'.next/\a.1.length<=300*k)
  ([],List.replicate nn [],cq [.nils] nn,.nils,.nils) (Oi1 @bh)
  ⟨by simp,by simpa using Inv.start,by simpa using hf4,λb o m c hb=>(by cases hb),λb o m c hb=>(by cases hb),g4,hrl,by simp,λi v l h1 h2=>?_,Y4,ab _,by simp⟩ ?_ ?_ ?_
 .simp only[eQ]at h1;rw[cz]at h1 h2;split at h1
  .rename_i hi
   rw[if_pos hi]at h2;simp only[aa]at h1 h2;subst h1 h2;exact⟨.inl ⟨rfl,.inl rfl⟩,λb o m c e=>by cases e⟩
  .cases h1
 .rintro k ⟨row,ends,ls,rv,pv⟩ ts h5 hk ⟨j1,jv,j2,jr,jp,j3,j4,j5,j6,jx,jn,jl⟩ ⟨e3,e8,e9,e10,-⟩;simp only at e3 e8 e9 e10;have ra:ai h5 (h.next+1) 0 1=some [ordv]:=bq (keepP jx) rfl;exact⟨_,(J5 e3 e10 ra lp @bE),I0,O4 e3 e8 e9 e10⟩
 .rintro k ⟨row,ends,ls,rv,pv⟩ ts h5 hk ⟨j1,jv,j2,jr,jp,j3,j4,j5,j6,jx,jn,jl⟩ ⟨e3,e8,e9,e10,-⟩;simp only at e3 e8 e9 e10 j1 jv j2 jr jp j3 j4 j5 j6 jl;have X5:Ext h.next h h5:=X2.trans (jx.mono X2.nx);have w1:=dW (k:=k) om;have ra:ai h5 (h.next+1) 0 1=some [ordv]:=bq (keepP jx) rfl;have rb:ai h5 (h.next+1) 1 1=some [outv]:=bq (keepP jx) rfl;obtain⟨b1,p1,a1,r1,_⟩:=(hp.ext X5 (ab _)).at1 (cm (f:=eI) hk);have hxm:order[k]∈jX nn:=hperm.mem_iff.1 (ar hk);obtain⟨hx0,hx1⟩:=fA.1 hxm;obtain⟨x,hx⟩:∃x:Nat,order[k]=x:=⟨order[k].toNat,om⟩
  rw[cj hk,wI]at j1;rw[hx]at r1 j1;have hxn:x<nn:=om;refine ae (ak (M5 e3 e10 ra a1 r1) ?_);obtain⟨b2,p2,w,a2,r2,sw,_⟩:=(hq.ext X5).at (k:=x) om;have hswl:∀b o m c,w=.sl b o m c->b≠h2.next:=by
   intro b o m c hb;obtain⟨b2',p2',w',a2',r2',sw',_⟩:=(hq.ext X2).at (k:=x) om;rw[a2]at a2';cases a2';rw[bi (jx.gt _ (by assumption)),r2']at r2;simp only[aa,cy,and_true]at r2;subst r2;have:=sw'.lt hb;omega
  have htl:(order.take k).length=k:=by rw[aS];omega
  have hlk:=hl3 _ (ar (show x<outs.length by omega));have hgd:outs.getD x []=outs[x]'om:=uh om;have ho:=hout x hxn;rw[hgd]at ho;refine ae (bM (bj 7 (M5 e3 e8 rb a2 r2) rfl (Z5 e3 e8 rb a2 r2) (M5 e3 e8 rb a2 r2) (EY (x:=((x:Nat):Int)) j2 sw hswl ho om om om) λr h6 hq'=>?_));rw[aO,hgd]at j1;have ix:fe ((x:Nat):Int) nn=some x:=cK hxn;rw[EX m4 jv]at hq';by_cases hrd:ip nn es row (order.take k) ((x:Nat):Int)=true
  .rw[if_pos hrd]at hq' j1;obtain⟨gv,rv',pv',rfl,sg,hgb,hf6,hrb,hpb,K6⟩:=hq';have n6:=K6.nx;refine bI (M0) ?_;refine ae (ae (ak (M0) ?_));refine dC (by simp only[am,aL,simprocAttr,decide_true,decide_false]) (bz ?_);have hfb5:=AH.lt_of_get j2.g;have gE6:h6.get h3.next=some (.cells ls 1 false):=by rw[K6.gt _ om om];exact j3
   obtain⟨gc,go⟩:=sg.cells;have wE:bP h6 h3.next x [gv]=some (h6.put h3.next (.cells (ls.set x gv) 1 false)):=ew gE6 om;refine ak (M6 e9 ix @aP wE gc go) ?_;have u:=Oi (o:=.cells (ls.set x gv) 1 false) gE6;have n7:(h6.put h3.next (.cells (ls.set x gv) 1 false)).next=h6.next:=rfl;generalize h6.put h3.next (.cells (ls.set x gv) 1 false)=h7 at *
   have X7:Ext h2.next h2 h7:=by
    refine jx.trans ⟨om,λc hc=>?_,λc hc=>?_⟩
    .rw[u.ne om,K6.gt c om om]
    .rw[u.ty,K6.ty c om]
   obtain⟨h1',h2',h3'⟩:=pE.1 hrd;have htk:order.take (k+1)=order.take k++[((x:Nat):Int)]:=by rw[aI hk,hx]
   have hf7:IsRef h7 h2.next nn es (jJ es ((x:Nat):Int) (outs[x]'om) row) (order.take k++[((x:Nat):Int)]) ev rv' pv':=by
    refine⟨by rw[u.ne om];exact hf6.g,?_,?_,?_,hf6.oe,hf6.or,hf6.op,hm⟩
    .refine he.ext X2 (ab _) |>.cong λb o m c hb=>X7.gt b ?_;exact(he.ext X2 (ab _)).lt hb
    .exact hf6.r.cong λb o m c hb=>u.ne (by have:=hrb b o m c hb;omega)
    .exact hf6.p.cong λb o m c hb=>u.ne (by have:=hpb b o m c hb;omega)
   refine⟨(jJ es ((x:Nat):Int) (outs[x]'om) row,ends.set x (lQ ((x:Nat):Int) row),ls.set x gv,rv',pv'),⟨by rw[htk];exact j1,by rw[htk];exact jv.next ho h2' h3' hone h1',by rw[htk];exact hf7,λb o m c hb=>(by have:=hrb b o m c hb;omega),λb o m c hb=>(by have:=hpb b o m c hb;omega),u.get,by simpa using j4,by simpa using j5,λi v l g1 g2=>?_,X7,om,?_⟩,_,(J2 e10 w1),O3 e3 e8 e9⟩
   .simp only at g1 g2;by_cases e:x=i
    .subst e;rw[dP om,aa]at g1 g2;subst g1 g2;exact⟨sg.cong λb o m c hb=>u.ne (by have:=hgb b o m c hb;omega),λb o m c hb=>by have:=hgb b o m c hb;omega⟩
    .rw[dq e]at g1 g2;obtain⟨s1,s2⟩:=j6 i v l g1 g2;refine⟨s1.cong λb o m c hb=>?_,s2⟩;have:=s2 b o m c hb;rw[u.ne om,K6.gt b (s1.lt hb) om]
   .have:=Ax (es:=es) (x:=((x:Nat):Int)) (outs:=outs[x]'om) (row:=row);simp only;omega
  .rw[if_neg hrd]at hq' j1;obtain⟨rfl,x6⟩:=hq';refine bI (M0) ?_;refine ae (ae (ak (M0) ?_));refine cZ (by simp only[am,aL,simprocAttr,decide_true,decide_false]) (ae (ak (M1 e10) ?_));exact bu ⟨.tup [.nils,.nils,.int .i64 3,.int .i64 (k:Nat)],(by simp only[rs,rf26,am,aL,simprocAttr,e10]<;>rfl),X5.trans (x6.mono X5.nx),.inr ⟨⟨hgood,hperm,hol,hout⟩,.inl ⟨k,j1.symm,rfl⟩⟩⟩
 .rintro⟨row,ends,ls,rv,pv⟩ ts h5 ⟨j1,jv,j2,jr,jp,j3,j4,j5,j6,jx,jn,jl⟩ ⟨e3,e8,e9,e10,-⟩;simp only at e8 e9 j1 jv j2 jr jp j3 j4 j5 j6 jl;rw[ou]at j1;have rr:ai h5 h2.next 2 1=some [rv]:=bq j2.g rfl;refine ae (ak (M3 e8 e9 rr) ?_);exact bu ⟨.tup [.sl h3.next 0 nn nn,rv,.int .i64 0,.int .i64 0],(by simp only[rs,rf26,am,aL,simprocAttr]<;>rfl),X2.trans (jx.mono X2.nx),.inr ⟨⟨hgood,hperm,hol,hout⟩,.inr ⟨ends,row,_,_,j1.symm,rfl,⟨ls,Od j3 j4 (ab _),by rw[j4,j5],λi v l h1 h2=>(j6 i v l h1 h2).1⟩,j2.r⟩⟩⟩
open Go.Am
open Go.Blk (Gr Lst canon)
section
variable {n:Nat}{E:List (Int×Int)}{b:List Nat}
def uI{a:Nat}(ha:a<(vsM n E (nI b)).length):dn n E (nI b) (vsM n E (nI b))[a]=a:=by
 have hv:=ar ha;have hlt:=nG hv;have hp:=tf n E (nI b);have e1:(vsM n E (nI b))[dn n E (nI b) (vsM n E (nI b))[a]]=(vsM n E (nI b))[a]:=by
  have:=lh hv;rw[aj hlt]at this;exact Option.some.inj this
 rw[iu]at hp;rcases mI (dn n E (nI b) (vsM n E (nI b))[a]) a with h|h|h
 .have:=hp _ _ hlt ha h;omega
 .exact h
 .have:=hp _ _ ha hlt h;omega
def su{x:Int}(h:x∈vsM n E (nI b)):0<=x/\x<(n:Nat):=by
 unfold vsM at h;rw[bB,fA]at h;exact h.1
end
end Go.Proofs.YtklpoimdclflmaaGreatDoor
namespace Go.Blk
variable {g:Gr}
def ins_one{r:Nat->Nat}(hr:∀i,i<g.m->r (g.tl i)<r (g.hd i)){s:Nat}(hs:∀v,v<g.n->v≠s->∃i,i<g.m/\g.hd i=v)(h0:∀i,i<g.m->g.hd i≠s){i k:Nat}(hi:i<g.m)(hk:k<g.m)(h:g.hd i=g.hd k):Rel g i k:=by
 have ii:g.inc i (g.hd i):=⟨hi,.inr rfl⟩
 have ik:g.inc k (g.hd i):=⟨hk,.inr h.symm⟩
 have oi:g.oth i (g.hd i)=g.tl i:=by unfold Gr.oth;omega
 have ok:g.oth k (g.hd i)=g.tl k:=by unfold Gr.oth;omega
 have near:∀j,j<g.m->g.hd j=g.hd i->Conn g (·≠g.hd i) (g.tl j) s:=λj hj e=>by
  have h1:=hr j hj;have h2:=g.ok j hj;refine qX hr hs (z:=g.hd i) (r (g.tl j)) (g.tl j) h2.1 (ab _) (λq=>?_) (by rw[e]at h1;omega) (Ne.symm (h0 i hi));rw[e]at h2;exact h2.2.2 q
 refine⟨g.hd i,ii,ik,?_⟩;rw[oi,ok];exact(near i hi rfl).trans (near k hk h.symm).symm
end Go.Blk
namespace Go.Proofs.YtklpoimdclflmaaGreatDoor
open Go.Am
section
variable {n:Nat}{E:List (Int×Int)}{b:List Nat}
def nmV(n:Nat)(E:List (Int×Int))(b:List Nat)(y:Nat):Nat:=((vsM n E (nI b)).getD y 0).toNat
def phB(b:List Nat)(e:Nat):Nat:=b.getD e 0
def wV{y:Nat}(hy:y<(vsM n E (nI b)).length):((nmV n E b y:Nat):Int)=(vsM n E (nI b))[y]:=by
 have:=(su (ar hy)).1;unfold nmV;rw[aA,aj hy,cL];omega
def Ct{y:Nat}(hy:y<(vsM n E (nI b)).length):((nmV n E b y:Nat):Int)∈vsM n E (nI b):=by
 rw[wV hy];exact ar hy
def pF{y:Nat}(hy:y<(vsM n E (nI b)).length):dn n E (nI b) (nmV n E b y:Nat)=y:=by
 rw[wV hy];exact uI hy
def pH{x:Nat}(hx:((x:Nat):Int)∈vsM n E (nI b)):nmV n E b (dn n E (nI b) (x:Nat))=x:=by
 unfold nmV;rw[aA,lh hx];simp
def jw:(fo n E (nI b)).length=b.length:=by unfold fo;rw[ah,fj]
def kL(hE:InG n E)(hb:∀i∈b,i<E.length){e:Nat}(he:e<b.length):tlE (fo n E (nI b)) e=dn n E (nI b) (tlE E b[e]:Nat)/\hdE (fo n E (nI b)) e=dn n E (nI b) (hdE E b[e]:Nat):=by
 have:=Nk hE hb he;unfold tlE hdE at *
 rw[aA,this];simp
def pZ{e:Nat}(he:e<b.length):phB b e=b[e]:=by
 unfold phB;rw[aA,aj he];rfl
def wS{E:List (Int×Int)}{m:Nat}(hE:InG m E){outs:List (List Int)}(hout:∀x:Nat,x<m->OutsOk E x (outs.getD x []))(e:Nat):∀q:List Nat,q.Nodup->(∀x∈q,x<m) ->
 (q.flatMap λx=>(outs.getD x []).map Int.toNat).count e=if e<E.length/\tlE E e∈q then 1 else 0
 |[],_,_=>by simp
 |x::q,hn,hq=>by
   obtain⟨h1,h2⟩:=cn.1 hn;have ho:=hout x (hq x (aM ..));have hpos:∀i∈outs.getD x [],0<=i:=λi hi=>by
    obtain⟨k,rfl,_⟩:=fp.1 (ho.mem.1 hi);omega
   have hnd:=pK hpos ho.nodup;have hmem:e∈(outs.getD x []).map Int.toNat↔e<E.length/\tlE E e=x:=by
    rw[bp];constructor
    .rintro⟨i,hi,rfl⟩;obtain⟨k,rfl,a,b⟩:=(gV hE).1 (ho.mem.1 hi);rw[aO];exact⟨a,b⟩
    .rintro⟨a,b⟩;exact⟨((e:Nat):Int),ho.mem.2 ((gV hE).2 ⟨e,rfl,a,b⟩),aO e⟩
   have hc:((outs.getD x []).map Int.toNat).count e=if e<E.length/\tlE E e=x then 1 else 0:=by
    by_cases h:e∈(outs.getD x []).map Int.toNat
    .have k1:=List.nodup_iff_count.1 hnd e;have k2:=qS.2 h;rw[if_pos (hmem.1 h)];omega
    .rw[oI h,if_neg λq=>h (hmem.2 q)]
   rw[bH,gq,hc,wS hE hout e q h2 λy hy=>hq y (aN _ hy)];by_cases hm:e<E.length
   .by_cases hx:tlE E e=x
    .subst hx;simp[hm,h1]
    .simp[hm,hx]
   .simp[hm]
def ME(hE:InG n E)(hb:∀i∈b,i<E.length)(hnd:b.Nodup)(hg':ft (((vsM n E (nI b)).length:Nat):Int) (fo n E (nI b)))(hins:∀i k,i<E.length->k∈b->hdE E i=hdE E k->i∈b)
 {order:List Int}{outs:List (List Int)}{r:List (List It)×List It} (hp:PlanP (vsM n E (nI b)).length (fo n E (nI b)) order outs) (hr:nF (vsM n E (nI b)).length (fo n E (nI b)) outs order [] [] (List.replicate (vsM n E (nI b)).length []) 0=.inl r)
 {O:Nat->List Nat} (hO:∀y,y<(vsM n E (nI b)).length->O (nmV n E b y)=(outs.getD y []).map λi=>phB b i.toNat) :
 ∃y0 q,order.map Int.toNat=y0::q/\(∀e,e<b.length->hdE (fo n E (nI b)) e≠y0)/\Go.Jn.Run E.length (hdE E) O (q.map (nmV n E b)) (O (nmV n E b y0)) []:=by
 have hE':InG (vsM n E (nI b)).length (fo n E (nI b)):=km hg'.1;have hone:=rI (n:=(vsM n E (nI b)).length) (es:=fo n E (nI b)) (by have:=hg'.2.2.2.2;rwa [aO]at this);have hout:∀x:Int,0<=x/\x<(vsM n E (nI b)).length->OutsOk (fo n E (nI b)) x (outs.getD x.toNat []):=λx hx=>by
  have:=hp.2.2 x.toNat om;rwa [kY hx.1]at this
 have run:=zX hE' hone hout order [] [] _ 0 r Inv.start hr;have hpos:∀i∈order,0<=i/\i<(vsM n E (nI b)).length:=λi hi=>fA.1 (hp.1.mem_iff.1 hi);have hnq:(order.map Int.toNat).Nodup:=pK (λi hi=>(hpos i hi).1) (hp.1.nodup_iff.2 (qk _));have hall:∀v,v<(vsM n E (nI b)).length->v∈order.map Int.toNat:=λv hv=>bp.2 ⟨((v:Nat):Int),hp.1.mem_iff.2 (fA.2 ⟨om,om⟩),aO v⟩;have hlt:∀x∈order.map Int.toNat,x<(vsM n E (nI b)).length:=λx hx=>by
  obtain⟨i,hi,rfl⟩:=bp.1 hx;have:=hpos i hi;omega
 have hpos0:0<(vsM n E (nI b)).length:=by
  have:=hg'.1;simp only[fC,aU,aK]at this;omega
 rw[jw]at run;have hR:eR r.2=[]:=by
  rw[dj];intro e he;have h1:=run.count e;have h2:=wS hE' (λx hx=>hp.2.2 x hx) e _ hnq hlt;rw[jw]at h2;rw[h2]at h1;have h3:=qS.2 he;have h0:(eR ([]:List It)).count e=0:=rfl;rw[h0]at h1;by_cases hm:e<b.length
  .have hE1:=(hE' e (by rw[jw];exact hm)).2;have m1:=hall _ hE1.1;have m2:=hall _ hE1.2;rw[if_pos ⟨hm,m2⟩,if_pos ⟨hm,m1⟩]at h1;have:=qS.2 m2;omega
  .rw[if_neg λq=>hm q.1,if_neg λq=>hm q.1]at h1;omega
 rw[hR]at run;generalize hqq:order.map Int.toNat=Q at *
 cases Q with
 |nil=>have:=hall 0 hpos0;cases this
 |cons y0 q =>
   have h0:eR ([]:List It)=[]:=rfl;rw[h0]at run;obtain⟨hnq1,hnq2⟩:=cn.1 hnq;have hy0:=hlt y0 (aM ..);generalize hz:([]:List Nat)=Z at run;cases run with
   |@step _ _ A I C _ hn hI t =>
     have hz:=hz.symm;obtain⟨hz1,rfl⟩:=mK.1 hz;obtain⟨rfl,rfl⟩:=mK.1 hz1;have hsrc:∀e,e<b.length->hdE (fo n E (nI b)) e≠y0:=λe he h=>by
      have:=(hI e).2 ⟨he,h⟩;cases this
     refine⟨y0,q,rfl,hsrc,?_⟩;have t:Go.Jn.Run b.length (hdE (fo n E (nI b))) (λx=>(outs.getD x []).map Int.toNat) q ((outs.getD y0 []).map Int.toNat) []:=by simpa using t
     have e1:O (nmV n E b y0)=((outs.getD y0 []).map Int.toNat).map (phB b):=by rw[hO y0 hy0,de];rfl
     rw[e1];refine Go.Jn.Run.map (φ:=phB b) (ν:=nmV n E b) (m':=b.length) (λe e' h1 h2 h3=>?_) t (λy hy e=>?_) λy hy=>?_
     .rw[pZ h1,pZ h2]at h3;exact(tY hnd).1 h3
     .have hyl:=hlt y (aN _ hy);constructor
      .rintro⟨h1,h2⟩;obtain⟨e0,k1,k2⟩:∃e0,e0<b.length/\hdE (fo n E (nI b)) e0=y:=by
        refine Classical.byContradiction λhno=>?_;have z1:(dr (fo n E (nI b)) ((y:Nat):Int)).length=0:=by
         rw[aW,dj];intro j hj;obtain⟨k,_,k1,k2⟩:=(gT hE').1 hj;rw[jw]at k1;exact hno ⟨k,k1,k2⟩
        have z2:(dr (fo n E (nI b)) ((y0:Nat):Int)).length=0:=by
         rw[aW,dj];intro j hj;obtain⟨k,_,k1,k2⟩:=(gT hE').1 hj;rw[jw]at k1;exact hsrc k k1 k2
        have:=hone y y0 hyl hy0 z1 z2;exact hnq1 (this▸hy)
       have hin:=ar k1;have hd0:hdE E b[e0]=nmV n E b y:=by
        rw[<-k2,(kL hE hb k1).2,pH (jN hE hb hin).2]
       have heb:=hins e b[e0] h1 hin (by rw[h2,hd0]);obtain⟨k,hk,rfl⟩:=iW heb;refine⟨k,⟨hk,?_⟩,pZ hk⟩;rw[(kL hE hb hk).2,h2,pF hyl]
      .rintro⟨e',⟨h1,h2⟩,rfl⟩;rw[pZ h1];have hin:=ar h1;refine⟨hb _ hin,?_⟩;rw[<-h2,(kL hE hb h1).2,pH (jN hE hb hin).2]
     .rw[hO y (hlt y (aN _ hy)),de];rfl
end
open Go.Am
open Go.Blk (Gr Lst canon IsBlock)
section
variable {n:Nat}{E:List (Int×Int)}
def ur(hg:ft (n:Nat) E)(hE:InG n E):∃s,s<n/\(∀i,i<E.length->hdE E i≠s)/\∀v,v<n->v≠s->∃i,i<E.length/\hdE E i=v:=by
 obtain⟨hm,_,_,⟨rk,hrk⟩,hsrc⟩:=hg;have hn:0<n:=by
  simp only[fC,aU,aK]at hm;omega
 rw[aO]at hsrc;have hone:=rI (n:=n) (es:=E) hsrc;have noins:∀{v:Nat},(¬ ∃i,i<E.length/\hdE E i=v)->(dr E ((v:Nat):Int)).length=0:=fun {v} h=>by
  rw[aW,dj];intro j hj;obtain⟨k,_,k1,k2⟩:=(gT hE).1 hj;exact h ⟨k,k1,k2⟩
 obtain⟨s,hs,h0⟩:∃s,s<n/\¬ ∃i,i<E.length/\hdE E i=s:=by
  refine Classical.byContradiction λhno=>?_;have key:∀d v,v<n->rk ((v:Nat):Int)<d->False:=λd=>by
   induction d with
   |zero=>intro v _ h;omega
   |succ d ih =>
     intro v hv hd;obtain⟨i,hi,he⟩:∃i,i<E.length/\hdE E i=v:=Classical.byContradiction λh=>hno ⟨v,hv,h⟩;have h1:=hrk _ (ar hi);rw[(hE i hi).1]at h1;simp only at h1;rw[he]at h1;exact ih _ (hE i hi).2.1 om
  exact key _ 0 hn (oj _)
 refine⟨s,hs,λi hi e=>h0 ⟨i,hi,e⟩,λv hv hne=>Classical.byContradiction λh=>hne ?_⟩;exact hone v s hv hs (noins h) (noins h0)
def jB(n:Nat)(E:List (Int×Int))(L:List (List Nat))(ps:List (List Int×List (List Int))):Go.Jn.Blks where
 nB:=L.length
 src:=λk=>nmV n E (L.getD k []) ((ps.getD k ([],[])).1.headD 0).toNat
 ord:=λk=>(ps.getD k ([],[])).1.tail.map λy=>nmV n E (L.getD k []) y.toNat
 ot:=λk x=>if ((x:Nat):Int)∈vsM n E (nI (L.getD k []))then((ps.getD k ([],[])).2.getD (dn n E (nI (L.getD k [])) (x:Nat)) []).map λi=>phB (L.getD k []) i.toNat else []
def fR(n:Nat)(E:List (Int×Int))(b:List Nat)(p:List Int×List (List Int)):Prop :=
 PlanP (vsM n E (nI b)).length (fo n E (nI b)) p.1 p.2/\∃r,nF (vsM n E (nI b)).length (fo n E (nI b)) p.2 p.1 [] [] (List.replicate (vsM n E (nI b)).length []) 0=.inl r
def mr{m:Nat}{l:Nat->Nat}{k k' e:Nat}(hk:k<(canon m l).length)(hk':k'<(canon m l).length)(h:e∈(canon m l)[k])(h':e∈(canon m l)[k']):k=k':=by
 unfold canon at *
 rw[dz]at h h';rw[ah]at hk hk';rw[bB,beq_iff_eq]at h h';have hnd:((List.range m).filter λi=>l i==i).Nodup:=List.nodup_range.filter _;exact(tY hnd).1 (h.2.symm.trans h'.2)
def LQ(hg:ft (n:Nat) E)(hE:InG n E)(hL:∀i,i<E.length->tlE E i≠hdE E i){l:Nat->Nat}(hl:Lst (grE n E hE hL) l){ps:List (List Int×List (List Int))}
 (hps:∀k (hk:k<(canon E.length l).length),fR n E (canon E.length l)[k] (ps.getD k ([],[]))) :
 ∃(rank:Nat->Nat) (M:Nat),Go.Jn.Good (jB n E (canon E.length l) ps) E.length (hdE E) rank M/\(∀v,v<n->rank v<=M) /\
   ∀k (hk:k<(canon E.length l).length),(∀x:Nat,((x:Nat):Int)∈vsM n E (nI (canon E.length l)[k])↔x=(jB n E (canon E.length l) ps).src k\/x∈(jB n E (canon E.length l) ps).ord k) /\
     (∀y∈(jB n E (canon E.length l) ps).ord k,∃e∈(canon E.length l)[k],hdE E e=y)/\(∀e∈(canon E.length l)[k],hdE E e≠(jB n E (canon E.length l) ps).src k) /\
     (∃y0 q,(ps.getD k ([],[])).1.map Int.toNat=y0::q/\(jB n E (canon E.length l) ps).src k=nmV n E (canon E.length l)[k] y0/\(jB n E (canon E.length l) ps).ord k=q.map (nmV n E (canon E.length l)[k])/\∀y∈y0::q,y<(vsM n E (nI (canon E.length l)[k])).length):=by
 obtain⟨s,hsn,hs0,hs1⟩:=ur hg hE;obtain⟨rk,hrk⟩:=hg.2.2.2.1;have hr:∀i,i<E.length->rk ((tlE E i:Nat):Int)<rk ((hdE E i:Nat):Int):=λi hi=>by
  have h1:=hrk _ (ar hi);rw[(hE i hi).1]at h1;exact h1
 obtain⟨M,hM⟩:∃M,∀v,v<n->rk ((v:Nat):Int)<=M:=by
  have:∀k,∃M,∀v,v<k->rk ((v:Nat):Int)<=M:=λk=>by
   induction k with
   |zero=>exact⟨0,λv h=>by omega⟩
   |succ k ih =>
     obtain⟨M,h⟩:=ih;refine⟨max M (rk ((k:Nat):Int)),λv hv=>?_⟩;by_cases e:v=k
     .subst e;exact Nat.le_max_right ..
     .exact cu (h v om) (Nat.le_max_left ..)
  exact this n
 have hins:∀k (hk:k<(canon E.length l).length) i j,i<E.length->j∈(canon E.length l)[k]->hdE E i=hdE E j->i∈(canon E.length l)[k]:=λk hk i j hi hj e=>by
  have hbk:=tN (g:=grE n E hE hL) hl (ar hk);obtain⟨_,k2,_,_⟩:=eG (ar hk);exact hbk.2.2 j hj i (Go.Blk.ins_one (g:=grE n E hE hL) (r:=λv=>rk ((v:Nat):Int)) hr hs1 hs0 (k2 j hj) hi e.symm)
 have blk:∀k (hk:k<(canon E.length l).length),∃y0 q,(ps.getD k ([],[])).1.map Int.toNat=y0::q/\(∀e,e<(canon E.length l)[k].length->hdE (fo n E (nI (canon E.length l)[k])) e≠y0)/\Go.Jn.Run E.length (hdE E) ((jB n E (canon E.length l) ps).ot k) (q.map (nmV n E (canon E.length l)[k])) ((jB n E (canon E.length l) ps).ot k (nmV n E (canon E.length l)[k] y0)) [] /\
  (y0::q).Perm (List.range (vsM n E (nI (canon E.length l)[k])).length):=λk hk=>by
  obtain⟨_,k2,_,k4⟩:=eG (ar hk);obtain⟨hp,r,hr'⟩:=hps k hk;have hgd:(canon E.length l).getD k []=(canon E.length l)[k]:=by rw[aA,aj hk];rfl
  obtain⟨y0,q,h1,h2,h3⟩:=ME hE k2 k4 (jI hg hE hL hl (ar hk)) (hins k hk) hp hr' (O:=(jB n E (canon E.length l) ps).ot k) λy hy=>by
   show(if _ then _ else _)=_;rw[hgd,if_pos (Ct hy),pF hy]
  refine⟨y0,q,h1,h2,h3,?_⟩;rw[<-h1];have:=hp.1.map Int.toNat;refine this.trans ?_;unfold jX;rw[de];have e3:(Int.toNat ∘ λe:Nat=>((e:Nat):Int))=id:=funext λe=>aO e;rw[e3,ma]
 have facts:∀k (hk:k<(canon E.length l).length),∃y0 q,(y0::q).Perm (List.range (vsM n E (nI (canon E.length l)[k])).length)/\(jB n E (canon E.length l) ps).src k=nmV n E (canon E.length l)[k] y0/\(jB n E (canon E.length l) ps).ord k=q.map (nmV n E (canon E.length l)[k]) /\
  (∀e,e<(canon E.length l)[k].length->hdE (fo n E (nI (canon E.length l)[k])) e≠y0)/\Go.Jn.Run E.length (hdE E) ((jB n E (canon E.length l) ps).ot k) ((jB n E (canon E.length l) ps).ord k) ((jB n E (canon E.length l) ps).ot k ((jB n E (canon E.length l) ps).src k)) []:=λk hk=>by
  obtain⟨y0,q,h1,h2,h3,h4⟩:=blk k hk;have hgd:(canon E.length l).getD k []=(canon E.length l)[k]:=by rw[aA,aj hk];rfl
  have es:(jB n E (canon E.length l) ps).src k=nmV n E (canon E.length l)[k] y0:=by
   show nmV n E ((canon E.length l).getD k []) _=_;rw[hgd];congr 1;cases hh:(ps.getD k ([],[])).1 with
   |nil=>rw[hh]at h1;cases h1
   |cons a t=>rw[hh,bO]at h1;exact(List.cons.inj h1).1
  have eo:(jB n E (canon E.length l) ps).ord k=q.map (nmV n E (canon E.length l)[k]):=by
   show List.map (λy:Int=>nmV n E ((canon E.length l).getD k []) y.toNat) _=_;rw[hgd];cases hh:(ps.getD k ([],[])).1 with
   |nil=>rw[hh]at h1;cases h1
   |cons a t =>
     rw[hh,bO]at h1;rw[<-(List.cons.inj h1).2,de];rfl
  refine⟨y0,q,h4,es,eo,h2,?_⟩;rw[es,eo];exact h3
 have mem:∀k (hk:k<(canon E.length l).length) (x:Nat),((x:Nat):Int)∈vsM n E (nI (canon E.length l)[k])↔x=(jB n E (canon E.length l) ps).src k\/x∈(jB n E (canon E.length l) ps).ord k:=λk hk x=>by
  obtain⟨y0,q,hp,es,eo,_,_⟩:=facts k hk;rw[es,eo,bp];constructor
  .intro hx;have hy:=hp.mem_iff.2 (aX.2 (nG hx));rcases aF.1 hy with h|h
   .left;rw[<-h,pH hx]
   .right;exact⟨_,h,pH hx⟩
  .rintro (rfl|⟨y,hy,rfl⟩)
   .exact Ct (aX.1 (hp.mem_iff.1 (aM ..)))
   .exact Ct (aX.1 (hp.mem_iff.1 (aN _ hy)))
 have inn:∀k (hk:k<(canon E.length l).length),∀y∈(jB n E (canon E.length l) ps).ord k,∃e∈(canon E.length l)[k],hdE E e=y:=λk hk y hy=>by
  obtain⟨y0,q,hp,es,eo,h0,_⟩:=facts k hk;obtain⟨_,k2,_,k4⟩:=eG (ar hk);have hg':=jI hg hE hL hl (ar hk);have hE':InG (vsM n E (nI (canon E.length l)[k])).length (fo n E (nI (canon E.length l)[k])):=km hg'.1;have hone:=rI (n:=(vsM n E (nI (canon E.length l)[k])).length) (es:=fo n E (nI (canon E.length l)[k])) (by have:=hg'.2.2.2.2;rwa [aO]at this);rw[eo]at hy;obtain⟨y',hy',rfl⟩:=bp.1 hy;have hnd:(y0::q).Nodup:=hp.nodup_iff.2 oq;have hyl:=aX.1 (hp.mem_iff.1 (aN y0 hy'));have hy0:=aX.1 (hp.mem_iff.1 (aM (a:=y0) (l:=q)));obtain⟨e0,k1,k2'⟩:∃e0,e0<(canon E.length l)[k].length/\hdE (fo n E (nI (canon E.length l)[k])) e0=y':=by
   refine Classical.byContradiction λhno=>?_;have z1:(dr (fo n E (nI (canon E.length l)[k])) ((y':Nat):Int)).length=0:=by
    rw[aW,dj];intro j hj;obtain⟨k,_,k1,k2⟩:=(gT hE').1 hj;rw[jw]at k1;exact hno ⟨k,k1,k2⟩
   have z2:(dr (fo n E (nI (canon E.length l)[k])) ((y0:Nat):Int)).length=0:=by
    rw[aW,dj];intro j hj;obtain⟨k,_,k1,k2⟩:=(gT hE').1 hj;rw[jw]at k1;exact h0 k k1 k2
   have:=hone y' y0 hyl hy0 z1 z2;exact(cn.1 hnd).1 (this▸hy')
  have hin:=ar k1;exact⟨_,hin,by rw[<-k2',(kL hE k2 k1).2,pH (jN hE k2 hin).2]⟩
 have non:∀k (hk:k<(canon E.length l).length),∀e∈(canon E.length l)[k],hdE E e≠(jB n E (canon E.length l) ps).src k:=λk hk e he h=>by
  obtain⟨y0,q,hp,es,_,h0,_⟩:=facts k hk;obtain⟨_,k2,_,_⟩:=eG (ar hk);have hy0:=aX.1 (hp.mem_iff.1 (aM (a:=y0) (l:=q)));obtain⟨j,hj,rfl⟩:=iW he;refine h0 j hj ?_;rw[(kL hE k2 hj).2,h,es,pF hy0]
 have nam:∀k (hk:k<(canon E.length l).length),∃y0 q,(ps.getD k ([],[])).1.map Int.toNat=y0::q/\(jB n E (canon E.length l) ps).src k=nmV n E (canon E.length l)[k] y0/\(jB n E (canon E.length l) ps).ord k=q.map (nmV n E (canon E.length l)[k])/\∀y∈y0::q,y<(vsM n E (nI (canon E.length l)[k])).length:=λk hk=>by
  obtain⟨y0,q,h1,_,_,h4⟩:=blk k hk;have hgd:(canon E.length l).getD k []=(canon E.length l)[k]:=by rw[aA,aj hk];rfl
  refine⟨y0,q,h1,?_,?_,λy hy=>aX.1 (h4.mem_iff.1 hy)⟩
  .show nmV n E ((canon E.length l).getD k []) _=_;rw[hgd];congr 1;cases hh:(ps.getD k ([],[])).1 with
   |nil=>rw[hh]at h1;cases h1
   |cons a t=>rw[hh,bO]at h1;exact(List.cons.inj h1).1
  .show List.map (λy:Int=>nmV n E ((canon E.length l).getD k []) y.toNat) _=_;rw[hgd];cases hh:(ps.getD k ([],[])).1 with
   |nil=>rw[hh]at h1;cases h1
   |cons a t =>
     rw[hh,bO]at h1;rw[<-(List.cons.inj h1).2,de];rfl
 have low:∀k (hk:k<(canon E.length l).length) (d x:Nat),rk ((x:Nat):Int)<d->((x:Nat):Int)∈vsM n E (nI (canon E.length l)[k])->rk (((jB n E (canon E.length l) ps).src k:Nat):Int)<=rk ((x:Nat):Int):=λk hk d=>by
  obtain⟨_,k2,_,_⟩:=eG (ar hk);induction d with
  |zero=>intro x h;omega
  |succ d ih =>
    intro x hd hx;rcases(mem k hk x).1 hx with rfl|ho
    .exact ab _
    .obtain⟨e,he,rfl⟩:=inn k hk x ho;have h1:=hr e (k2 e he);have:=ih (tlE E e) om (jN hE k2 he).1;omega
 refine⟨λv=>rk ((v:Nat):Int),M,⟨λk hk y hy=>?_,λk k' hk hk' y hy hy'=>?_,λk k' hk hk' hne y hy=>?_,λk hk=>?_,λk hk=>?_⟩,hM,λk hk=>⟨mem k hk,inn k hk,non k hk,nam k hk⟩⟩
 .obtain⟨_,k2,_,_⟩:=eG (ar hk);obtain⟨e,he,rfl⟩:=inn k hk y hy;have h1:=hr e (k2 e he);have:=low k hk _ (tlE E e) (oj _) (jN hE k2 he).1;exact⟨om,hM _ (hE e (k2 e he)).2.2⟩
 .obtain⟨e,he,rfl⟩:=inn k hk y hy;obtain⟨e',he',h2⟩:=inn k' hk' _ hy';obtain⟨_,k2,_,_⟩:=eG (ar hk);exact mr hk hk' he (hins k' hk' e e' (k2 e he) he' h2.symm)
 .by_cases hm:((y:Nat):Int)∈vsM n E (nI ((canon E.length l).getD k' []))
  .left;have hgd:(canon E.length l).getD k' []=(canon E.length l)[k']:=by rw[aA,aj hk'];rfl
   rw[hgd]at hm;rcases(mem k' hk' y).1 hm with h|h
   .exact h.symm
   .exfalso;obtain⟨e,he,rfl⟩:=inn k hk y hy;obtain⟨e',he',h2⟩:=inn k' hk' _ h;obtain⟨_,k2,_,_⟩:=eG (ar hk);exact hne (mr hk hk' he (hins k' hk' e e' (k2 e he) he' h2.symm))
  .right;exact if_neg hm
 .obtain⟨_,_,_,_,_,_,h⟩:=facts k hk;exact h
 .obtain⟨y0,q,hp,_,eo,_,_⟩:=facts k hk;have hnd:(y0::q).Nodup:=hp.nodup_iff.2 oq;have hql:∀y∈q,y<(vsM n E (nI (canon E.length l)[k])).length:=λy hy=>aX.1 (hp.mem_iff.1 (aN _ hy));rw[eo];have:∀q:List Nat,q.Nodup->(∀y∈q,y<(vsM n E (nI (canon E.length l)[k])).length)->(q.map (nmV n E (canon E.length l)[k])).Nodup:=λq=>by
   induction q with
   |nil=>intro _ _;exact fk
   |cons a q ih =>
     intro hn hq;obtain⟨h1,h2⟩:=cn.1 hn;refine cn.2 ⟨λhm=>?_,ih h2 λy hy=>hq y (aN _ hy)⟩;obtain⟨y,hy,e⟩:=bp.1 hm;have e1:=pF (hq y (aN _ hy));rw[e,pF (hq a (aM ..))]at e1;exact h1 (e1▸hy)
  exact this q (cn.1 hnd).2 hql
end
open Go.Am
open Go.Blk (Gr Lst canon IsBlock)
section
variable {n:Nat}{E:List (Int×Int)}
def xT{g:Gr}{l:Nat->Nat}(hl:Lst g l){e:Nat}(he:e<g.m):∃k,∃hk:k<(canon g.m l).length,e∈(canon g.m l)[k]:=by
 have hm:((List.range g.m).filter λk=>l k==l e)∈canon g.m l:=by
  unfold canon;refine bp.2 ⟨l e,?_,rfl⟩;rw[bB,aX,beq_iff_eq];exact⟨by have:=hl.le e he;omega,(hl.eqc he (hl.cls e he)).symm⟩
 obtain⟨k,hk,hkk⟩:=iW hm;refine⟨k,hk,?_⟩;rw[hkk,bB,aX,beq_iff_eq];exact⟨he,rfl⟩
def qC(b:Go.Jn.Blks)(M s:Nat):List Int:=(b.W (M+1) s).map λx=>((x:Nat):Int)
def oE(n:Nat)(b:Go.Jn.Blks):List (List Int):=(List.range n).map λx=>(b.O x).map λe=>((e:Nat):Int)
def yJ{b:Go.Jn.Blks}{x:Nat}(hx:x<n):(oE n b).getD x []=(b.O x).map λe=>((e:Nat):Int):=by
 unfold oE;rw[aA,aV,da hx];rfl
def qm(l:List Nat):(l.map λe=>((e:Nat):Int)).map Int.toNat=l:=by
 rw[de];have e3:(Int.toNat ∘ λe:Nat=>((e:Nat):Int))=id:=funext λe=>aO e;rw[e3,ma]
def IE(hg:ft (n:Nat) E)(hE:InG n E)(hL:∀i,i<E.length->tlE E i≠hdE E i){l:Nat->Nat}(hl:Lst (grE n E hE hL) l){ps:List (List Int×List (List Int))}
 (hps:∀k (hk:k<(canon E.length l).length),fR n E (canon E.length l)[k] (ps.getD k ([],[]))) {s:Nat} (hsn:s<n) (hs0:∀i,i<E.length->hdE E i≠s) :
 ∃(rank:Nat->Nat) (M:Nat),Go.Jn.Good (jB n E (canon E.length l) ps) E.length (hdE E) rank M/\(∀v,v<n->rank v<=M)/\(∀k (hk:k<(canon E.length l).length),(∀x:Nat,((x:Nat):Int)∈vsM n E (nI (canon E.length l)[k])↔x=(jB n E (canon E.length l) ps).src k\/x∈(jB n E (canon E.length l) ps).ord k) /\
  (∀y∈(jB n E (canon E.length l) ps).ord k,∃e∈(canon E.length l)[k],hdE E e=y)/\(∀e∈(canon E.length l)[k],hdE E e≠(jB n E (canon E.length l) ps).src k) /\
  (∃y0 q,(ps.getD k ([],[])).1.map Int.toNat=y0::q/\(jB n E (canon E.length l) ps).src k=nmV n E (canon E.length l)[k] y0/\(jB n E (canon E.length l) ps).ord k=q.map (nmV n E (canon E.length l)[k])/\∀y∈y0::q,y<(vsM n E (nI (canon E.length l)[k])).length)) /\
  PlanP n E (qC (jB n E (canon E.length l) ps) M s) (oE n (jB n E (canon E.length l) ps)) /\
  (∃r,nF n E (oE n (jB n E (canon E.length l) ps)) (qC (jB n E (canon E.length l) ps) M s) [] [] (List.replicate n []) 0=.inl r) /\
  ∀k (hk:k<(canon E.length l).length),oG n E (canon E.length l)[k] (qC (jB n E (canon E.length l) ps) M s)=(ps.getD k ([],[])).1/\sU n E (canon E.length l)[k] (oE n (jB n E (canon E.length l) ps))=(ps.getD k ([],[])).2:=by
 obtain⟨rank,M,good,hM,who⟩:=LQ hg hE hL hl hps;obtain⟨s',hsn',hs0',hs1'⟩:=ur hg hE;obtain rfl:s'=s:=Classical.byContradiction λh=>by
  obtain⟨i,hi,e⟩:=hs1' s hsn (Ne.symm h);exact hs0 i hi e
 generalize hJ:jB n E (canon E.length l) ps=J at *
 have hnB:J.nB=(canon E.length l).length:=by rw[<-hJ];rfl
 have hgd:∀k (hk:k<(canon E.length l).length),(canon E.length l).getD k []=(canon E.length l)[k]:=λk hk=>by rw[aA,aj hk];rfl
 have hot:∀k (hk:k<(canon E.length l).length) (x:Nat),J.ot k x=if ((x:Nat):Int)∈vsM n E (nI (canon E.length l)[k])then((ps.getD k ([],[])).2.getD (dn n E (nI (canon E.length l)[k]) (x:Nat)) []).map λi=>phB (canon E.length l)[k] i.toNat else []:=λk hk x=>by
  rw[<-hJ,<-hgd k hk];rfl
 have mot:∀k (hk:k<(canon E.length l).length) (x e:Nat),(e∈J.ot k x↔e∈(canon E.length l)[k]/\tlE E e=x)/\(J.ot k x).Nodup:=λk hk x e=>by
  obtain⟨_,k2,_,k4⟩:=eG (ar hk);obtain⟨hp,_⟩:=hps k hk;have hE':InG (vsM n E (nI (canon E.length l)[k])).length (fo n E (nI (canon E.length l)[k])):=km (jI hg hE hL hl (ar hk)).1;rw[hot k hk x];by_cases hx:((x:Nat):Int)∈vsM n E (nI (canon E.length l)[k])
  .rw[if_pos hx];have ho:=hp.2.2 _ (nG hx);have hmem:∀i,i∈(ps.getD k ([],[])).2.getD (dn n E (nI (canon E.length l)[k]) (x:Nat)) []↔∃j:Nat,i=j/\∃hj:j<(canon E.length l)[k].length,tlE E (canon E.length l)[k][j]=x:=λi=>by
    rw[ho.mem,gV hE'];constructor
    .rintro⟨j,rfl,h1,h2⟩;rw[jw]at h1;rw[(kL hE k2 h1).1]at h2;exact⟨j,rfl,h1,by have:=oT (jN hE k2 (ar h1)).1 hx h2;omega⟩
    .rintro⟨j,rfl,h1,h2⟩;exact⟨j,rfl,by rw[jw];exact h1,by rw[(kL hE k2 h1).1,h2]⟩
   refine⟨?_,?_⟩
   .rw[bp];constructor
    .rintro⟨i,hi,rfl⟩;obtain⟨j,rfl,hj,h2⟩:=(hmem i).1 hi;rw[aO,pZ hj];exact⟨ar hj,h2⟩
    .rintro⟨h1,h2⟩;obtain⟨j,hj,rfl⟩:=iW h1;exact⟨((j:Nat):Int),(hmem _).2 ⟨j,rfl,hj,h2⟩,by rw[aO,pZ hj]⟩
   .unfold List.Nodup;rw[eN];refine List.Pairwise.imp_of_mem (fun {i i'} hi hi' hne e=>hne ?_) ho.nodup;obtain⟨j,rfl,hj,_⟩:=(hmem i).1 hi;obtain⟨j',rfl,hj',_⟩:=(hmem i').1 hi';rw[aO,aO,pZ hj,pZ hj']at e;have:=(tY k4).1 e;omega
  .rw[if_neg hx];refine⟨⟨λh=>(by cases h),λ⟨h1,h2⟩=>?_⟩,fk⟩;exact absurd (h2▸(jN hE k2 h1).1) hx
 have mO:∀x e,e∈J.O x↔e<E.length/\tlE E e=x:=λx e=>by
  unfold Go.Jn.Blks.O;rw[cM];constructor
  .rintro⟨k,hk,he⟩;rw[aX,hnB]at hk;obtain⟨h1,h2⟩:=(mot k hk x e).1.1 he;exact⟨(eG (ar hk)).2.1 e h1,h2⟩
  .rintro⟨h1,h2⟩;obtain⟨k,hk,hm⟩:=xT (g:=grE n E hE hL) hl h1;exact⟨k,aX.2 (by rw[hnB];exact hk),(mot k hk x e).1.2 ⟨hm,h2⟩⟩
 have nO:∀x,(J.O x).Nodup:=λx=>by
  unfold Go.Jn.Blks.O;refine Go.Jn.fm_nodup oq (λk hk=>?_) λk hk k' hk' hne e he he'=>?_
  .rw[aX,hnB]at hk;exact(mot k hk x 0).2
  .rw[aX,hnB]at hk hk';exact hne (mr hk hk' ((mot k hk x e).1.1 he).1 ((mot k' hk' x e).1.1 he').1)
 have ho:∀x,x<n->OutsOk E ((x:Nat):Int) ((oE n J).getD x []):=λx hx=>by
  rw[yJ hx];refine(kG (yy (nO x)) (iT _ _ _)).2 λj=>?_;show _↔j∈dJ E ((x:Nat):Int);rw[gV hE,bp];constructor
  .rintro⟨e,he,rfl⟩;exact⟨e,rfl,((mO x e).1 he).1,((mO x e).1 he).2⟩
  .rintro⟨k,rfl,h1,h2⟩;exact⟨k,(mO x k).2 ⟨h1,h2⟩,rfl⟩
 have ordn:∀k (hk:k<(canon E.length l).length),∀y∈J.ord k,y<n:=λk hk y hy=>by
  have:=su (((who k hk).1 y).2 (.inr hy));omega
 have hsrc:∀k (hk:k<(canon E.length l).length),J.src k<n:=λk hk=>by
  have:=su (((who k hk).1 _).2 (.inl rfl));omega
 have hall:∀v,v<n->v∈J.W (M+1) s':=Go.Jn.W_all good λv hv hne=>by
  obtain⟨i,hi,rfl⟩:=hs1' v hv hne;obtain⟨k,hk,hm⟩:=xT (g:=grE n E hE hL) hl hi;have h1:=((who k hk).1 (hdE E i)).1 (jN hE (eG (ar hk)).2.1 hm).2;rcases h1 with h1|h1
  ·
   exact absurd h1 ((who k hk).2.2.1 i hm)
  .exact⟨k,by rw[hnB];exact hk,h1,hsrc k hk⟩
 have hWn:∀v∈J.W (M+1) s',v<n:=λv hv=>by
  by_cases e:v=s'
  .subst e;exact hsn
  .obtain⟨p,_,h2⟩:=Go.Jn.W_up good hv e;obtain⟨k,hk,_,h3⟩:=Go.Jn.mem_ch.1 h2;exact ordn k (by rw[<-hnB];exact hk) v h3
 have hnW:=Go.Jn.W_nodup good s';have hperm:(qC J M s').Perm (jX n):=(kG (yy hnW) (qk n)).2 λi=>by
  rw[fA,bp];constructor
  .rintro⟨v,hv,rfl⟩;have:=hWn v hv;omega
  .rintro⟨h1,h2⟩;exact⟨i.toNat,hall _ om,om⟩
 have hplan:PlanP n E (qC J M s') (oE n J):=⟨hperm,by unfold oE;rw[ah,cw],ho⟩
 have hone:=rI (n:=n) (es:=E) (by have:=hg.2.2.2.2;rwa [aO]at this);have hrun:=Go.Jn.whole_run good (s:=s') (f:=M) (λk hk=>by
  rw[hnB]at hk;by_cases hm:((s':Nat):Int)∈vsM n E (nI (canon E.length l)[k])
  .left;rcases((who k hk).1 s').1 hm with h|h
   .exact h.symm
   .obtain⟨e,he,h2⟩:=(who k hk).2.1 s' h;exact absurd h2 (hs0' e ((eG (ar hk)).2.1 e he))
  .right;rw[hot k hk,if_neg hm]) (λe ⟨h1,h2⟩=>hs0' e h1 h2) om
 have hhead:(J.W (M+1) s').head?=some s':=by rw[Go.Jn.W_eq good];rfl
 obtain⟨r,hr⟩:=Hx hE hone (outs:=oE n J) (λx hx=>by
  have:=ho x.toNat om;rwa [kY hx.1]at this) (O:=J.O) (λx hx=>by rw[yJ hx,qm]) hrun [] [] (List.replicate n []) 0 Inv.start rfl (λx hx=>⟨hWn x hx,by simp⟩) hnW λx hx=>by
   by_cases e:x=s'
   .subst e;exact .inl ⟨rfl,hhead⟩
   .exact .inr (hs1' x (hWn x hx) e)
 refine⟨rank,M,good,hM,who,hplan,⟨r,hr⟩,λk hk=>?_⟩;obtain⟨_,k2,_,k4⟩:=eG (ar hk);obtain⟨hp,_⟩:=hps k hk;obtain⟨y0,q,hy,es,eo,hlt⟩:=(who k hk).2.2.2;constructor
 ·
  unfold oG qC;rw[List.filter_map,de];have e1:(J.W (M+1) s').filter ((λx:Int=>decide (x∈vsM n E (nI (canon E.length l)[k]))) ∘ λx:Nat=>((x:Nat):Int))=J.src k::J.ord k:=by
   have:=Go.Jn.W_filter good (k:=k) (by rw[hnB];exact hk) s';rw[if_pos (hall _ (hsrc k hk))]at this;rw[<-this];refine mJ λy _=>?_;show decide _=decide _;rw[decide_eq_decide];exact(who k hk).1 y
  rw[e1,es,eo,<-bO,de,<-hy,de]
  conv=>rhs;rw[<-ma (ps.getD k ([],[])).1]
  refine cT λi hi=>?_;have hi0:=(fA.1 (hp.1.mem_iff.1 hi))
  show((dn n E (nI (canon E.length l)[k]) ((nmV n E (canon E.length l)[k] i.toNat:Nat):Int):Nat):Int)=i;rw[pF om];omega
 ·
  unfold sU;refine cV λj=>?_;rw[aV];by_cases hj:j<(vsM n E (nI (canon E.length l)[k])).length
  .have hm:=ar hj;obtain⟨q1,q2⟩:=su hm;obtain⟨x,ex⟩:∃x:Nat,(vsM n E (nI (canon E.length l)[k]))[j]=((x:Nat):Int):=⟨((vsM n E (nI (canon E.length l)[k]))[j]).toNat,om⟩
   have hxn:x<n:=om;have hrk:=uI hj;rw[ex]at hrk hm;have hj2:j<(ps.getD k ([],[])).2.length:=by rw[hp.2.1];exact hj
   rw[aj hj,ex,aj hj2,aQ,aO,yJ hxn];congr 1;unfold wj;have e2:((J.O x).map λe=>((e:Nat):Int)).filter (inb (canon E.length l)[k])=(J.ot k x).map λe=>((e:Nat):Int):=by
    rw[List.filter_map];congr 1;unfold Go.Jn.Blks.O;have:∀ks:List Nat,(∀k∈ks,k<(canon E.length l).length)->(ks.flatMap λk=>J.ot k x).filter ((inb (canon E.length l)[k]) ∘ λe:Nat=>((e:Nat):Int))=ks.flatMap λk'=>if k'=k then J.ot k x else []:=λks=>by
     induction ks with
     |nil=>intro _;rfl
     |cons k' ks ih =>
       intro hks;have hk':=hks k' (aM ..);rw[bH,cB,ih λz hz=>hks z (aN _ hz),bH];congr 1;split
       .rename_i e;subst e
        exact BK.2 λe he=>aH (HX.2 ⟨e,((mot k' hk' x e).1.1 he).1,rfl⟩)
       .rename_i hne
        refine List.filter_eq_nil_iff.2 λe he h=>hne ?_;obtain⟨e',h1,h2⟩:=HX.1 (aY h);have h2:((e:Nat):Int)=((e':Nat):Int):=h2;have:e=e':=om;subst this;exact mr hk' hk ((mot k' hk' x e).1.1 he).1 h1
    rw[this _ λk hk=>by rw[<-hnB];exact aX.1 hk,Go.Jn.fm_one (k:=k) (by rw[hnB];exact hk) λj _ hne=>if_neg hne,if_pos rfl]
   rw[e2,hot k hk,if_pos hm,hrk,de,de,aA,aj hj2,cL]
   conv=>rhs;rw[<-ma ((ps.getD k ([],[])).2[j])]
   refine cT λi hi=>?_;have hE':InG (vsM n E (nI (canon E.length l)[k])).length (fo n E (nI (canon E.length l)[k])):=km (jI hg hE hL hl (ar hk)).1;have hoj:=hp.2.2 j hj;rw[aA,aj hj2,cL]at hoj;obtain⟨a,rfl,ha,_⟩:=(gV hE').1 (hoj.mem.1 hi);rw[jw]at ha;show Fq (canon E.length l)[k] ((phB (canon E.length l)[k] ((a:Nat):Int).toNat:Nat):Int)=((a:Nat):Int)
   rw[aO,pZ ha,Lv (ar ha),k4.idxOf_getElem]
  .have hj2:¬j<(ps.getD k ([],[])).2.length:=by rw[hp.2.1];exact hj
   rw[bJ (Nat.le_of_not_lt hj),bJ (Nat.le_of_not_lt hj2)];rfl
end
end Go.Proofs.YtklpoimdclflmaaGreatDoor
