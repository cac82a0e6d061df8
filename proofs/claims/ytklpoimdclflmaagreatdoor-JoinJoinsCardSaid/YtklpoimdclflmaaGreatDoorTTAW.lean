/- Rows that grow, number by number; a graph's only source come -/
import Derived.Test.YtklpoimdclflmaaGreatDoorTTAV
set_option linter.all false
namespace Go.Proofs.YtklpoimdclflmaaGreatDoor
open Go.Am
open Go.Blk (Gr Lst canon IsBlock)
variable {f g:Nat->List Int}{x:Nat}
def jH(n:Nat)(f:Nat->List Int):List (List Int):=(List.range n).map f
def zZ{n:Nat}(hx:x<n):(jH n f)[x]?=some (f x):=by
 unfold jH;rw[aV,da hx];rfl
def wJ{n:Nat}{v:Int}(hx:x<n)(h1:g x=f x++[v])(h2:∀y,y≠x->g y=f y):(jH n f).set x (f x++[v])=jH n g:=by
 rw[<-h1];exact mA hx λy hy=>(h2 y hy).symm
def jG{n:Nat}(h:∀y,f y=g y):jH n f=jH n g:=by rw[funext h]
section
variable {n:Nat}{E:List (Int×Int)}{b:List Nat}{outs:List (List Int)}
def phI(b:List Nat)(i:Int):Int:=((phB b i.toNat:Nat):Int)
def iP(n:Nat)(E:List (Int×Int))(b:List Nat)(outs:List (List Int))(i t z:Nat):List Int :=
 if ((z:Nat):Int)∈vsM n E (nI b)then(if dn n E (nI b) (z:Nat)<i then(outs.getD (dn n E (nI b) (z:Nat)) []).map (phI b)else if dn n E (nI b) (z:Nat)=i then((outs.getD i []).take t).map (phI b)else [])else []
def AR(z:Nat):iP n E b outs 0 0 z=[]:=by
 unfold iP;split
 .rw[if_neg (gz _)];split<;>rfl
 .rfl
def AU(i z:Nat):iP n E b outs i (outs.getD i []).length z=iP n E b outs (i+1) 0 z:=by
 unfold iP;split
 .rw[bt];by_cases h:dn n E (nI b) (z:Nat)<i
  .rw[if_pos h,if_pos om]
  .by_cases h2:dn n E (nI b) (z:Nat)=i
   .rw[if_neg h,if_pos h2,if_pos om,h2]
   .have h3:¬dn n E (nI b) ((z:Nat):Int)<i+1:=om;rw[if_neg h,if_neg h2,if_neg h3];split<;>rfl
 .rfl
def AS{i t x:Nat}(hi:i<(vsM n E (nI b)).length)(hx:(vsM n E (nI b))[i]=((x:Nat):Int))(ht:t<(outs.getD i []).length) :
 iP n E b outs i (t+1) x=iP n E b outs i t x++[phI b ((outs.getD i [])[t])]/\∀y,y≠x->iP n E b outs i (t+1) y=iP n E b outs i t y:=by
 have hr:=uI hi;rw[hx]at hr;have hm:((x:Nat):Int)∈vsM n E (nI b):=hx▸ar hi;constructor
 .unfold iP;rw[if_pos hm,if_pos hm,hr,if_neg (Nat.lt_irrefl _),if_neg (Nat.lt_irrefl _),if_pos rfl,if_pos rfl,aI ht,bS];rfl
 .intro y hy;unfold iP;by_cases hy2:((y:Nat):Int)∈vsM n E (nI b)
  .have:dn n E (nI b) (y:Nat)≠i:=λe=>hy (by
    have:=oT hy2 hm (by rw[e,hr]);omega)
   rw[if_pos hy2,if_pos hy2,if_neg this,if_neg this]
  .rw[if_neg hy2,if_neg hy2]
def Ea{i t z:Nat}(h:∀l∈outs,l.length<=200):(iP n E b outs i t z).length<=200:=by
 have hg:∀j,(outs.getD j []).length<=200:=λj=>by
  rw[aA];cases q:outs[j]? with
  |none=>simp
  |some l=>exact h l (eP q)
 unfold iP;split
 .split
  .rw[ah];exact hg _
  .split
   .rw[ah,aS];have:=hg i;omega
   .simp
 .simp
end
section
variable {n:Nat}{E:List (Int×Int)}{B:List (List Nat)}{ps:List (List Int×List (List Int))}
def jU(n:Nat)(E:List (Int×Int))(B:List (List Nat))(ps:List (List Int×List (List Int)))(k z:Nat):List Int :=
 ((List.range k).flatMap λj=>(jB n E B ps).ot j z).map λe=>((e:Nat):Int)
def yb{k z:Nat}(hk:k<B.length)(hl:(ps.getD k ([],[])).2.length=(vsM n E (nI B[k])).length) :
 jU n E B ps k z++iP n E B[k] (ps.getD k ([],[])).2 (vsM n E (nI B[k])).length 0 z=jU n E B ps (k+1) z:=by
 unfold jU;rw[cP,br,bS];congr 1;have hgd:B.getD k []=B[k]:=by rw[aA,aj hk];rfl
 show _=List.map _ (List.flatMap _ [k]);rw[bH,eY,bF];show _=List.map _ (if ((z:Nat):Int)∈vsM n E (nI (B.getD k []))then((ps.getD k ([],[])).2.getD (dn n E (nI (B.getD k [])) (z:Nat)) []).map λi=>phB (B.getD k []) i.toNat else []);rw[hgd];unfold iP;split
 .rename_i hz
  rw[if_pos (nG hz),de];rfl
 .rfl
def BB{k z:Nat}(h:∀p∈ps,∀l∈p.2,l.length<=200):(jU n E B ps k z).length<=k*200:=by
 unfold jU;rw[ah];induction k with
 |zero=>simp
 |succ k ih =>
   rw[cP,br,aJ,bH,eY,bF,dF,oH];have:((jB n E B ps).ot k z).length<=200:=by
    show(if ((z:Nat):Int)∈vsM n E (nI (B.getD k []))then((ps.getD k ([],[])).2.getD (dn n E (nI (B.getD k [])) (z:Nat)) []).map λi=>phB (B.getD k []) i.toNat else []).length<=200;split
    .rw[ah];generalize dn n E (nI (B.getD k [])) (z:Nat)=j;rw[aA,aA];cases q:ps[k]? with
     |none=>simp
     |some p =>
       rw[cL];cases q2:p.2[j]? with
       |none=>simp
       |some l=>exact h p (eP q) l (eP q2)
    .simp
   omega
def BC:jH n (jU n E B ps B.length)=oE n (jB n E B ps):=rfl
end
variable {es:List (Int×Int)}{ev ordv outv:AV}{h:AH}{k lo o pb:Nat}{l order:List Int}
def qW{n s:Nat}(hE:InG n es)(hl:(gU n es).length<=1)(hs:s<n)(h0:∀i,i<es.length->hdE es i≠s):gU n es=[((s:Nat):Int)]:=by
 have hm:((s:Nat):Int)∈gU n es:=by
  unfold gU;refine bp.2 ⟨s,bB.2 ⟨aX.2 hs,?_⟩,rfl⟩;rw[beq_iff_eq,aW,dj];intro j hj;obtain⟨k,_,k1,k2⟩:=(gT hE).1 hj;exact h0 k k1 k2
 generalize gU n es=l at *
 match l,hl,hm with
 |[a],_,hm=>rw[eC]at hm;rw[hm]
 |a::b::r,hl,_=>simp at hl
 |[],_,hm=>cases hm
def ji(n:Nat)(E:List (Int×Int))(B:List (List Nat))(ps:List (List Int×List (List Int))):Prop :=
 ps.length=B.length/\∀k (hk:k<B.length),fR n E B[k] (ps.getD k ([],[]))
structure JK(n:Nat)(E:List (Int×Int))(B:List (List Nat))(ps:List (List Int×List (List Int)))(rank:Nat->Nat)(M:Nat):Prop where
 good:Go.Jn.Good (jB n E B ps) E.length (hdE E) rank M
 src:∀k (hk:k<B.length),∃y0 q,(ps.getD k ([],[])).1=((y0:Nat):Int)::q.map (λy=>((y:Nat):Int))/\(jB n E B ps).src k=nmV n E B[k] y0/\(jB n E B ps).ord k=q.map (nmV n E B[k])/\(∀y∈y0::q,y<(vsM n E (nI B[k])).length) /\
  gU (vsM n E (nI B[k])).length (fo n E (nI B[k]))=[((y0:Nat):Int)]
def jk_of{n:Nat}{E:List (Int×Int)}(hg:ft (n:Nat) E)(hE:InG n E)(hL:∀i,i<E.length->tlE E i≠hdE E i){l:Nat->Nat}(hl:Lst (grE n E hE hL) l){ps:List (List Int×List (List Int))}(ok:ji n E (canon E.length l) ps){s:Nat}(hsn:s<n)(hs0:∀i,i<E.length->hdE E i≠s) :
 ∃rank M,JK n E (canon E.length l) ps rank M/\PlanP n E (qC (jB n E (canon E.length l) ps) M s) (oE n (jB n E (canon E.length l) ps)) /\
   (∃r,nF n E (oE n (jB n E (canon E.length l) ps)) (qC (jB n E (canon E.length l) ps) M s) [] [] (List.replicate n []) 0=.inl r) /\
   ∀k (hk:k<(canon E.length l).length),oG n E (canon E.length l)[k] (qC (jB n E (canon E.length l) ps) M s)=(ps.getD k ([],[])).1/\sU n E (canon E.length l)[k] (oE n (jB n E (canon E.length l) ps))=(ps.getD k ([],[])).2:=by
 obtain⟨rank,M,good,hM,who,h1,h2,h3⟩:=IE hg hE hL hl ok.2 hsn hs0;refine⟨rank,M,⟨good,λk hk=>?_⟩,h1,h2,h3⟩;obtain⟨_,_,non,y0,q,e1,e2,e3,e4⟩:=who k hk;obtain⟨hp,_⟩:=ok.2 k hk;obtain⟨_,k2,_,k4⟩:=eG (ar hk);have hg':=jI hg hE hL hl (ar hk);have hE':InG (vsM n E (nI (canon E.length l)[k])).length (fo n E (nI (canon E.length l)[k])):=km hg'.1;refine⟨y0,q,?_,e2,e3,e4,qW hE' (by have:=hg'.2.2.2.2;rwa [aO]at this) (e4 _ (aM ..)) λi hi e=>?_⟩
 .have:(ps.getD k ([],[])).1=((ps.getD k ([],[])).1.map Int.toNat).map λy=>((y:Nat):Int):=by
   rw[de]
   conv=>lhs;rw[<-ma (ps.getD k ([],[])).1]
   refine cT λi hi=>?_;have:=(fA.1 (hp.1.mem_iff.1 hi)).1;show i=((i.toNat:Nat):Int)
   omega
  rw[this,e1,bO]
 .rw[jw]at hi;rw[(kL hE k2 hi).2]at e;refine non _ (ar hi) ?_;rw[e2,<-e,pH (jN hE k2 (ar hi)).2]
open Go.Am
def CC{nv:AV}{xs:List Int}{x:Int}(r2:ai h pb (o+2) 1=some [nv])(hv:SlI h nv xs)(hs:xs.Pairwise (·<=·))(hxl:xs.length<2^40) :
 C prg 46 [.ptr pb o,.int .i64 x] h λr h'=>r=.tup [.int .i64 ((xs.countP (λu=>decide (u<x)):Nat):Int),.bool (decide (x∈xs))]/\h'=h:=by
 refine Oj rfl ?_;refine ae (ak (Mi0) ?_);refine ae (bM (bj 5 (Mi1 r2) rfl (Zi1 r2) (Mi1 r2) (qN (t:=x) hv hs hxl) λr h2 hq=>?_));obtain⟨rfl,rfl⟩:=hq;refine bI (M0) ?_;exact bu ⟨_,(by simp only[rs,rf46,am,aL,simprocAttr]<;>rfl),rfl,rfl⟩
def PF(lo:Nat)(h:AH)(x:AV×AV)(p:List Int×List (List Int)):Prop:=∀h'':AH,(∀c,lo<=c->c<h.next->h''.get c=h.get c)->SlI h'' x.1 p.1/\SlL h'' x.2 p.2
def xM{b:List Nat}(hk:k<l.length):wj b (l.take (k+1))=wj b (l.take k)++if l[k]∈nI b then [Fq b l[k]]else []:=by
 unfold wj;rw[aI hk,cB,bS];congr 1;by_cases q:l[k]∈nI b
 .rw[if_pos q,je (by unfold inb;exact aH q)];rfl
 .rw[if_neg q,jh (by unfold inb;simpa using q)];rfl
def xN{n:Nat}{E:List (Int×Int)}{b:List Nat}(hk:k<l.length):oG n E b (l.take (k+1))=oG n E b (l.take k)++if l[k]∈vsM n E (nI b)then [((dn n E (nI b) l[k]:Nat):Int)]else []:=by
 unfold oG;rw[aI hk,cB,bS];congr 1;by_cases q:l[k]∈vsM n E (nI b)
 .rw[if_pos q,je (by simpa using q)];rfl
 .rw[if_neg q,jh (by simpa using q)];rfl
def Fp{b:List Nat}(hr:(nI b).Pairwise (·<·)){i:Int}(h:i∈nI b):Fq b i=(((nI b).countP λu=>decide (u<i):Nat):Int):=by
 have:=pL (nI b) i 0 hr h;rw[bN]at this;exact this
def Jx{b:List Nat}:(wj b l).length<=l.length:=by
 unfold wj;rw[ah];exact cX _ _
def Jy{n:Nat}{E:List (Int×Int)}{b:List Nat}:(oG n E b l).length<=l.length:=by
 unfold oG;rw[ah];exact cX _ _
def Jp(l:List Int):(l.flatMap eI).length=l.length:=by rw[dE (f:=eI) (e:=1) (λ_=>rfl),aP]
def Nr{ws:List AV}{v w:AV}:(ws.set k v).set k w=ws.set k w:=List.set_set ..
set_option maxHeartbeats 2000000 in
def IA{n V:Nat}{nmv nbv:AV}{E:List (Int×Int)}{bk:List Nat}{outs:List (List Int)}(hV:(vsM n E (nI bk)).length=V)
 (r0:ai h pb o 1=some [.int .i64 (V:Nat)]) (r2:ai h pb (o+2) 1=some [nmv]) (r3:ai h pb (o+3) 1=some [nbv]) (hpb:pb<h.next)
 (hnm:SlI h nmv (vsM n E (nI bk))) (hnb:SlI h nbv (nI bk)) (hrise:(nI bk).Pairwise (·<·)) (ho:SlI h ordv order) (hu:SlL h outv outs) (hlu:outs.length=n) (hb:bk.length<=128) (hn:n<=64) (hol:order.length<=200) (hl3:∀l∈outs,l.length<=200) :
 C prg 27 [.ptr pb o,.agg [ordv,outv]] h λr h'=>Ext h.next h h'/\∃a u,r=.agg [a,u]/\(a.cells=[a]/\a.one=true)/\(u.cells=[u]/\u.one=true)/\PF h.next h' (a,u) (oG n E bk order,sU n E bk outs):=by
 have hvl:=oM n E (nI bk);have hvlt:=tf n E (nI bk);have hvs:=hvlt.imp (fun {a b} (q:a<b)=>GI q);have hnbs:=hrise.imp (fun {a b} (q:a<b)=>GI q);obtain⟨oc,oo⟩:=ho.cells;obtain⟨uc,uo⟩:=hu.cells;have lno:=ho.len;rw[ah]at lno;have lnm:=hnm.len;rw[ah]at lnm;refine Oj rfl ?_;refine ae (ak (Mi0) ?_);have ga:∀c,((h.new (.cells [ordv,outv] 2 false)).new (.cells [.nils,.nils] 2 false)).get c=if c=h.next+1 then some (.cells [.nils,.nils] 2 false)else if c=h.next then some (.cells [ordv,outv] 2 false)else h.get c:=λc=>by
  rw[AH.get_new,AH.get_new];rfl
 have x0:Ext h.next h ((h.new (.cells [ordv,outv] 2 false)).new (.cells [.nils,.nils] 2 false)):=(Oe (ab _)).trans (Oe (by simp));have n0:((h.new (.cells [ordv,outv] 2 false)).new (.cells [.nils,.nils] 2 false)).next=h.next+2:=rfl;generalize ((h.new (.cells [ordv,outv] 2 false)).new (.cells [.nils,.nils] 2 false))=h1 at *
 have gA:h1.get h.next=some (.cells [ordv,outv] 2 false):=by rw[ga,if_neg om,if_pos rfl]
 have gB:h1.get (h.next+1)=some (.cells [.nils,.nils] 2 false):=by rw[ga,if_pos rfl]
 have q0:ai h1 pb o 1=some [.int .i64 (V:Nat)]:=by rw[bi (x0.gt _ hpb)];exact r0
 have mk:=oY (h:=h1) (n:=V) om;have xm:Ext h1.next h1 (h1.new (.cells (cq [.nils] V) 1 false)):=Oe (ab _);have gm:(h1.new (.cells (cq [.nils] V) 1 false)).get h1.next=some (.cells (cq [.nils] V) 1 false):=by rw[AH.get_new,if_pos rfl]
 have nm:(h1.new (.cells (cq [.nils] V) 1 false)).next=h1.next+1:=rfl;have rl:(cq [AV.nils] V).length=V:=by rw[eQ,cA]
 have rnil:∀i,i<V->(cq [AV.nils] V)[i]?=some .nils:=λi hi=>by rw[eQ,cz,if_pos hi]
 generalize cq [AV.nils] V=ws0 at *
 generalize h1.new (.cells ws0 1 false)=hm at *
 obtain⟨h2,w2,x2,g2,n2⟩:=gD (h:=hm) (z:=[.nils,.nils]) (cs:=[.nils,.sl h1.next 0 V V]) (e:=2) rfl;refine ae (ak (by simp only[am,aL,simprocAttr,bV,q0,mk,eH,w2]<;>rfl) ?_);have X2:Ext h.next h h2:=x0.trans ((xm.mono om).trans (x2.mono om));have k12:∀c,c<h1.next->h2.get c=h1.get c:=λc hc=>by rw[x2.gt _ om,xm.gt _ hc]
 have gA2:h2.get h.next=some (.cells [ordv,outv] 2 false):=by rw[k12 _ om];exact gA
 have gB2:h2.get (h.next+1)=some (.cells [.nils,.nils] 2 false):=by rw[k12 _ om];exact gB
 have gM2:h2.get h1.next=some (.cells ws0 1 false):=by rw[x2.gt _ om];exact gm
 have rA2:ai h2 h.next 0 1=some [ordv]:=bq gA2 rfl;refine ae (ae (ak (Mi2 rA2 lno) ?_))
 refine fi (α:=AV) (N:=order.length) (λ_ _=>[(0,.ptr pb o),(3,.ptr h.next 0),(4,.ptr (h.next+1) 0),(5,.ptr hm.next 0),(24,ordv)])
  (λk a h'=>Ext hm.next h2 h'/\hm.next+1<=h'.next/\h'.get hm.next=some (.cells [a,.sl h1.next 0 V V] 2 false)/\IsSl h' 1 (hm.next+1) a ((oG n E bk (order.take k)).flatMap eI)) .nils (λ_ _=>rfl) om (Hi0)
  ⟨Oh,om,g2,.inl ⟨rfl,rfl⟩⟩ ?_ ?_
 .rintro k a ts h3 hk ⟨jx,jn,jg,ja⟩ ⟨e26,e25,e0,e3,e4,e5,e24,-⟩;simp only at e26 e25 e0 e3 e4 e5 e24 jg ja;have X3:Ext h.next h h3:=X2.trans (jx.mono om);obtain⟨b1,p1,a1,q1,_⟩:=(ho.ext X3 (ab _)).at1 (cm (f:=eI) hk);refine ae (ak (M4 e24 e26 a1 q1) ?_);have rn:ai h3 pb (o+2) 1=some [nmv]:=by rw[bi (X3.gt _ hpb)];exact r2
  refine ae (bM (bj 2 (M1 e0) rfl (Z1 e0) (M1 e0) (CC (x:=order[k]) rn (hnm.ext X3 (ab _)) hvs om) λr h4 hq=>?_));obtain⟨rfl,rfl⟩:=hq;refine bI (M0) ?_;refine ae (ak (M0) ?_);refine cF (t:=decide (order[k]∈vsM n E (nI bk))) (Z0) (λq=>?_) λq=>?_
  .have q:order[k]∈vsM n E (nI bk):=aY q;have hlk:=Jp (oG n E bk (order.take k));have hlk2:=Jy (n:=n) (E:=E) (b:=bk) (l:=order.take k);rw[aS]at hlk2;obtain⟨s',h5,a5,i5,x5,n5⟩:=ja.push (bytes:=8) [.int .i64 ((dn n E (nI bk) order[k]:Nat):Int)] om om rfl rfl (by rw[hlk,dN];unfold bf;omega) (by rw[hlk,dN];unfold bf;omega);have g5:h5.get hm.next=some (.cells [a,.sl h1.next 0 V V] 2 false):=by rw[x5.gt _ om];exact jg
   obtain⟨sc,so⟩:=i5.cells;have rO:ai h4 hm.next 0 1=some [a]:=bq jg rfl;have w5:=ew (v:=s') g5 (i:=0) (by simp);change bP h5 hm.next 0 [s']=some (h5.put hm.next (.cells [s',.sl h1.next 0 V V] 2 false))at w5;have u5:=Oi (o:=.cells [s',.sl h1.next 0 V V] 2 false) g5;change gh (h4.new (.cells [.int .i64 (((vsM n E (nI bk)).countP λu=>decide (u<order[k]):Nat):Int)] 1 false)) 1 8 a (.sl h4.next 0 1 1)=some (s',h5)at a5;refine ak (by simp only[am,aL,simprocAttr,e5,rO,a5,w5,sc,so]<;>rfl) ?_;refine⟨s',⟨jx.trans ((x5.mono om).trans (u5.ext (ab _))),by rw[u5.nx];omega,u5.get,?_⟩,H7 e26 e25 e0 e3 e4 e5 e24⟩;rw[xN hk,if_pos q,br];exact i5.upd u5 om
  .refine bz ⟨a,⟨jx,jn,jg,?_⟩,H7 e26 e25 e0 e3 e4 e5 e24⟩;rw[xN hk,if_neg (bo q),bF];exact ja
 rintro av ts h3 ⟨jx,jn,jg,ja⟩ ⟨e0,e3,e4,e5,e24,-⟩;simp only at e0 e3 e4 e5 jg ja;rw[bt]at ja;have X3:Ext h.next h h3:=X2.trans (jx.mono om);have rn:ai h3 pb (o+2) 1=some [nmv]:=by rw[bi (X3.gt _ hpb)];exact r2
 have gA3:h3.get h.next=some (.cells [ordv,outv] 2 false):=by rw[jx.gt _ om];exact gA2
 have gB3:h3.get (h.next+1)=some (.cells [.nils,.nils] 2 false):=by rw[jx.gt _ om];exact gB2
 have gM3:h3.get h1.next=some (.cells ws0 1 false):=by rw[jx.gt _ om];exact gM2
 have n3:h.next+4<=h3.next:=om;refine ae (ae (ak (M4 e0 rn lnm hV) ?_))
 refine fi (α:=List AV) (N:=V) (λ_ _=>[(0,.ptr pb o),(3,.ptr h.next 0),(4,.ptr (h.next+1) 0),(5,.ptr hm.next 0),(47,nmv)])
  (λk ws h'=>Ext h1.next h3 h'/\(∀c,c<h3.next->c≠h1.next->h'.get c=h3.get c)/\h'.get h1.next=some (.cells ws 1 false)/\ws.length=V/\(∀i,k<=i->i<V->ws[i]?=some .nils) /\
   ∀(i:Nat) (w:AV) (x:Int),i<k->ws[i]?=some w->(vsM n E (nI bk))[i]?=some x->IsSl h' 1 h3.next w ((wj bk (outs.getD x.toNat [])).flatMap eI)) ws0 (λ_ _=>rfl) om (H4 e0 e3 e4 e5)
  ⟨Oh,λ_ _ _=>rfl,gM3,rl,λi _=>rnil i,λi w x hi=>by omega⟩ ?_ ?_
 .clear e0 e3 e4 e5 e24;rintro k ws ts h4 hk ⟨kx,kk,kg,kl,kn,ki⟩ ⟨e49,e48,e0,e3,e4,e5,e47,-⟩;simp only at e49 e48 e0 e3 e4 e5 e47 kg kl kn ki;have n4:=kx.nx;have K4:∀{c},c<h.next->h4.get c=h.get c:=fun {c} hc=>by rw[kk _ om om,X3.gt _ hc]
  have hkV:k<(vsM n E (nI bk)).length:=om;obtain⟨b1,p1,a1,q1,_⟩:=(hnm.cong λb o m c e=>K4 (hnm.lt e)).at1 (cm (f:=eI) hkV);have hxk:=aj hkV;generalize hxe:(vsM n E (nI bk))[k]=x at *
  have hxm:x∈vsM n E (nI bk):=by rw[<-hxe];exact ar hkV
  obtain⟨x1,x2'⟩:0<=x/\x<(n:Nat):=by
   unfold vsM at hxm;rw[bB,fA]at hxm;exact hxm.1
  obtain⟨y,rfl⟩:∃y:Nat,x=y:=⟨x.toNat,om⟩
  have hy:y<outs.length:=om;refine ae (ak (M4 e47 e49 a1 q1) ?_);have gA4:h4.get h.next=some (.cells [ordv,outv] 2 false):=by rw[kk _ om om];exact gA3
  have rU:ai h4 h.next 1 1=some [outv]:=bq gA4 rfl;obtain⟨b2,p2,rv,a2,q2',sr,hb2⟩:=hu.at hy;have q2:ai h4 b2 p2 1=some [rv]:=by rw[bi (K4 hb2)];exact q2'
  have lr:=sr.len;rw[ah]at lr;have hrl:=hl3 _ (ar hy);have hgd:outs.getD ((y:Nat):Int).toNat []=outs[y]:=by rw[aO,aA,aj hy];rfl
  generalize hrow:outs[y]=row at *
  refine ae (ak (M5 e3 rU a2 q2 lr) ?_);have hkn:=kn k (ab _) hk;have hset:ws.set k .nils=ws:=by
   refine cV λi=>?_;rw[cU];by_cases e:k=i
   .subst e;rw[if_pos rfl,if_pos om,hkn]
   .rw[if_neg e]
  have sr4:∀{h':AH},(∀c,c<h4.next->c≠h1.next->h'.get c=h4.get c)->SlI h' rv row:=fun {h'} q=>by
   refine sr.cong λb o m c e=>?_;have:=sr.lt e;rw[q _ om om,K4 this]
  refine fi (α:=AV) (N:=row.length) (λ_ _=>[(0,.ptr pb o),(3,.ptr h.next 0),(4,.ptr (h.next+1) 0),(5,.ptr hm.next 0),(10,.int .i64 (k:Nat)),(47,nmv),(48,.int .i64 (V:Nat)),(49,.int .i64 (k:Nat)),(58,rv)])
   (λi w h'=>Ext h1.next h4 h'/\(∀c,c<h4.next->c≠h1.next->h'.get c=h4.get c)/\h'.get h1.next=some (.cells (ws.set k w) 1 false)/\IsSl h' 1 h4.next w ((wj bk (row.take i)).flatMap eI)) .nils (λ_ _=>rfl) om (H7 e0 e3 e4 e5 e47 e48 e49)
   ⟨Oh,λ_ _ _=>rfl,by rw[hset];exact kg,.inl ⟨rfl,rfl⟩⟩ ?_ ?_
  .clear e0 e3 e4 e5 e47 e48 e49;rintro i w ts h5 hi ⟨lx,lk,lg,li⟩ ⟨e60,e59,e0,e3,e4,e5,e10,e47,e48,e49,e58,-⟩;simp only at e60 e59 e0 e3 e4 e5 e10 e47 e48 e49 e58 lg li;have n5:=lx.nx;obtain⟨b3,p3,a3,q3,_⟩:=(sr4 lk).at1 (cm (f:=eI) hi);refine ae (ak (M4 e58 e60 a3 q3) ?_);have K5:∀{c},c<h.next->h5.get c=h.get c:=fun {c} hc=>by rw[lk _ om om,K4 hc]
   have rb:ai h5 pb (o+3) 1=some [nbv]:=by rw[bi (K5 hpb)];exact r3
   refine ae (bM (bj 5 (M2 e0 rb) rfl (Z2 e0 rb) (M2 e0 rb) (qN (t:=row[i]) (hnb.cong λb o m c e=>K5 (hnb.lt e)) hnbs (by rw[fj];omega)) λr h6 hq=>?_));obtain⟨rfl,rfl⟩:=hq;refine bI (M0) ?_;refine ae (ak (M0) ?_);refine cF (t:=decide (row[i]∈nI bk)) (Z0) (λq=>?_) λq=>?_
   .have q:row[i]∈nI bk:=aY q;have hpos:=Fp hrise q;obtain⟨x7,p7,n7,y7⟩:=fO (h:=h6) (o:=.cells [.int .i64 (((nI bk).countP λu=>decide (u<row[i]):Nat):Int)] 1 false);have kg6:∀c,c<h6.next->(h6.keep 1).get c=h6.get c:=λc hc=>by rw[AH.keep_get,if_neg om]
    have q7:(h6.keep 1).get h6.next=some .resv:=ff;have gO:h6.get hm.next=some (.cells [av,.sl h1.next 0 V V] 2 false):=by rw[lk _ om om,kk _ om om];exact jg
    have v1:ai (h6.keep 1) hm.next 1 1=some [.sl h1.next 0 V V]:=bq (by rw[kg6 _ om];exact gO) rfl;have hwk:(ws.set k w)[k]?=some w:=by rw[cU,if_pos rfl,if_pos om]
    have v3:ai (h6.keep 1) h1.next k 1=some [w]:=bq (by rw[kg6 _ om];exact lg) hwk;have ia:fe ((k:Nat):Int) V=some k:=cK hk;have hlk:=Jp (wj bk (row.take i));have hlk2:=Jx (b:=bk) (l:=row.take i);rw[aS]at hlk2
    obtain⟨w',h8,s2,i8,x8,s3,n8,k8,_⟩:=(li.ext (x7.mono (ab _)) (ab _)).app (bytes:=8) (x:=h6.next) (new:=[.int .i64 (((nI bk).countP λu=>decide (u<row[i]):Nat):Int)]) (by rw[n7];omega) om p7 om (λb m e=>by have:=li.lt e;omega) rfl rfl
     (by rw[hlk,dN];unfold bf;omega) (by rw[hlk,dN];unfold bf;omega)
    obtain⟨sc,so⟩:=i8.cells;have lw:∀c,c<h4.next->h8.get c=h6.get c:=λc hc=>by rw[x8.gt _ hc,y7 _ om]
    have f1:ai h8 hm.next 1 1=some [.sl h1.next 0 V V]:=bq (by rw[lw _ om];exact gO) rfl;have d2:h8.get h1.next=some (.cells (ws.set k w) 1 false):=by rw[lw _ om];exact lg
    have f3:=ew (v:=w') d2 (i:=k) (by rw[cx];omega);rw[Nr]at f3;have u9:=Oi (o:=.cells (ws.set k w') 1 false) d2;refine lY (by simp only[am,aL,simprocAttr,e5,e10,v1,v3,eA,dR q7,ia,aP,s2,sc,so,f1,f3]<;>rfl) ?_;refine⟨w',⟨lx.trans ((x7.mono om).trans ((x8.mono om).trans (u9.ext (ab _)))),λc hc hne=>by rw[u9.ne hne,lw _ hc,lk _ hc hne],u9.get,?_⟩,H12 e60 e59 e0 e3 e4 e5 e10 e47 e48 e49 e58 e58⟩;rw[xM hi,if_pos q,br,hpos];exact i8.upd u9 om
   .refine bz ⟨w,⟨lx,lk,lg,?_⟩,H12 e60 e59 e0 e3 e4 e5 e10 e47 e48 e49 e58 e58⟩;rw[xM hi,if_neg (bo q),bF];exact li
  .clear e0 e3 e4 e5 e47 e48 e49;rintro w ts h5 ⟨lx,lk,lg,li⟩ ⟨e0,e3,e4,e5,e10,e47,e48,e49,e58,-⟩;simp only at e0 e3 e4 e5 e10 e47 e48 e49 lg li;rw[bt]at li;have n5:=lx.nx;refine⟨ws.set k w,⟨kx.trans lx,λc hc hne=>by rw[lk _ om hne,kk _ hc hne],lg,by rw[cx];exact kl,λi hi1 hi2=>?_,λi w' x hi h1' h2'=>?_⟩,H7 e49 e48 e0 e3 e4 e5 e47⟩
   .rw[cU,if_neg om];exact kn i om hi2
   .rw[cU]at h1';by_cases e:k=i
    .subst e;rw[if_pos rfl,if_pos om]at h1';cases h1';rw[hxk]at h2';cases h2';rw[hgd];exact li.mono om
    .rw[if_neg e]at h1';have:=ki i w' x om h1' h2';exact this.cong λb m e' hb'=>lk _ (this.lt e') om
 .clear e0 e3 e4 e5 e24;rintro ws ts h4 ⟨kx,kk,kg,kl,kn,ki⟩ ⟨e0,e3,e4,e5,e47,-⟩;simp only at e0 e3 e4 e5 kg kl ki;have n4:=kx.nx;have gO:h4.get hm.next=some (.cells [av,.sl h1.next 0 V V] 2 false):=by rw[kk _ om om];exact jg
  have gB4:h4.get (h.next+1)=some (.cells [.nils,.nils] 2 false):=by rw[kk _ om om];exact gB3
  have rO:ai h4 hm.next 0 2=some [av,.sl h1.next 0 V V]:=by rw[aR gO];rfl
  have w5:bP h4 (h.next+1) 0 [av,.sl h1.next 0 V V]=some (h4.put (h.next+1) (.cells [av,.sl h1.next 0 V V] 2 false)):=by rw[dw gB4];rfl
  have u5:=Oi (o:=.cells [av,.sl h1.next 0 V V] 2 false) gB4;obtain⟨ac,ao⟩:=ja.cells;refine ae (ak (M5 e4 e5 rO ao w5) ?_);have rB:ai (h4.put (h.next+1) (.cells [av,.sl h1.next 0 V V] 2 false)) (h.next+1) 0 2=some [av,.sl h1.next 0 V V]:=by rw[aR u5.get];rfl
  refine bu ⟨_,(by simp only[rs,rf27,am,aL,simprocAttr,e4,rB]<;>rfl),X3.trans ((kx.mono om).trans (u5.ext om)),av,_,rfl,⟨ac,ao⟩,⟨rfl,rfl⟩,λh'' hq=>?_⟩;have n5:=u5.nx;have hq4:∀c,h.next<=c->c<h4.next->c≠h.next+1->h''.get c=h4.get c:=λc h1 h2 h3=>by rw[hq c h1 om,u5.ne h3]
  refine⟨Ob om (λ_=>rfl) (ja.cong λb m e hb'=>?_),ws,Od (by rw[hq4 _ om om om];exact kg) kl (ab _),?_,λi w xs h1' h2'=>?_⟩
  .have:=ja.lt e;rw[hq4 _ om om om,kk _ this om]
  .unfold sU;rw[ah,kl,hV]
  .unfold sU at h2';rw[aV]at h2';obtain⟨x,hx,rfl⟩:=aG.1 h2';have hi:i<V:=by have:=(au.1 h1').1;omega
   have:=ki i w x hi h1' hx;exact Ob om (λ_=>rfl) (this.cong λb m e hb'=>hq4 _ om (this.lt e) om)
open Go.Am
open Go.Blk (Gr Lst canon)
def OKP(n:Int)(E:List (Int×Int))(order:List Int)(outs:List (List Int)):Prop :=
 (ft n E/\PlanP n.toNat E order outs)/\∃r,nF n.toNat E outs order [] [] (List.replicate n.toNat []) 0=.inl r
def uz{r:AV}{n:Int}{outs:List (List Int)}{tl:Int->Int->List AV}
 (hr:(¬(ft n es/\PlanP n.toNat es order outs)/\r=.tup ([.nils,.nils]++tl 1 0))\/((ft n es/\PlanP n.toNat es order outs)/\RunR h r n.toNat es order outs tl)) :
 ∃x y c a,r=.tup ([x,y]++tl c a)/\(c=0↔OKP n es order outs):=by
 rcases hr with⟨hn,rfl⟩|⟨hp,hr⟩
 .exact⟨_,_,1,0,rfl,⟨λh=>absurd h (by decide),λh=>absurd h.1 hn⟩⟩
 .rcases hr with⟨i,h1,rfl⟩|⟨ends,row,a,b,h1,rfl,_⟩
  .refine⟨_,_,3,_,rfl,⟨λh=>absurd h (by decide),λh=>?_⟩⟩;obtain⟨r,hr⟩:=h.2;rw[h1]at hr;cases hr
  .exact⟨_,_,0,0,rfl,⟨λ_=>⟨hp,_,h1⟩,λ_=>rfl⟩⟩
def Be:Ext h.next h (h.keep k):=⟨by rw[AH.keep_next];omega,λc hc=>by rw[AH.keep_get,if_neg om],λc _=>Oc k h⟩
def Db{m:Nat}{l:Nat->Nat}{b:List Nat}(hb:b∈canon m l):(nI b).Pairwise (·<·):=by
 unfold canon at hb;obtain⟨i,hi,rfl⟩:=bp.1 hb;unfold nI;rw[eN];exact(List.pairwise_lt_range.filter _).imp λh=>by omega
def f2(t:AV×AV):List AV:=[t.1,t.2]
abbrev Pl2:=List Int×List (List Int)
def QC(h:AH)(a:AV)(x:AV×AV)(p:Pl2):Prop :=
 ((x.1.cells=[x.1]/\x.1.one=true)/\x.2.cells=[x.2]/\x.2.one=true)/\∀h'':AH,(∀c,c<h.next->(∀b n,a=.sl b 0 n n->c≠b)->h''.get c=h.get c)->SlI h'' x.1 p.1/\SlL h'' x.2 p.2
def QL(h:AH)(lo:Nat)(a:AV)(L:List Pl2):Prop :=
 ∃xs:List (AV×AV),IsSl h 2 lo a (xs.flatMap f2)/\xs.length=L.length/\∀(i:Nat) (x:AV×AV) (p:Pl2),xs[i]?=some x->L[i]?=some p->QC h a x p
def QC.of{h':AH}{a:AV}{x:AV×AV}{p:Pl2}(hp:PF lo h x p)(h1:x.1.cells=[x.1]/\x.1.one=true)(h2:x.2.cells=[x.2]/\x.2.one=true)(hk:∀c,lo<=c->c<h.next->h'.get c=h.get c)(hn:h.next<=h'.next)(ha:∀b n,a=.sl b 0 n n->b<lo):QC h' a x p :=
 ⟨⟨h1,h2⟩,λh'' hq=>hp h'' λc q1 q2=>by rw[hq c om (λb n e=>by have:=ha b n e;omega),hk c q1 q2]⟩
def QL.ext{h h':AH}{lo hi:Nat}{a:AV}{L:List Pl2}(hl:QL h lo a L)(hx:Ext hi h h')(hn:h.next<=hi):QL h' lo a L:=by
 obtain⟨xs,h1,h2,h3⟩:=hl;refine⟨xs,h1.ext hx hn,h2,λi x p q1 q2=>?_⟩;obtain⟨k1,k2⟩:=h3 i x p q1 q2;have:=hx.nx;exact⟨k1,λh'' hq=>k2 h'' λc hc hne=>by rw[hq c om hne,hx.gt _ om]⟩
def QL.mono{h:AH}{lo lo':Nat}{a:AV}{L:List Pl2}(hl:QL h lo a L)(hn:lo'<=lo):QL h lo' a L:=by
 obtain⟨xs,h1,h2⟩:=hl;exact⟨xs,h1.mono hn,h2⟩
def NM(xs:List (AV×AV)):(xs.flatMap f2).length=xs.length*2:=dE (f:=f2) (e:=2) (λ_=>rfl) xs
def QL.len{h:AH}{lo:Nat}{a:AV}{L:List Pl2}(hl:QL h lo a L):fP a=some (.int .i64 (L.length:Nat)):=by
 obtain⟨xs,h1,h2,h3⟩:=hl;have:=(Ob (f:=f2) om (λ_=>rfl) h1).len;rwa [ah,h2]at this
def QL.cells{h:AH}{lo:Nat}{a:AV}{L:List Pl2}(hl:QL h lo a L):a.cells=[a]/\a.one=true:=by
 obtain⟨xs,h1,h2,h3⟩:=hl;exact h1.cells
def QL.lt{h:AH}{lo:Nat}{a:AV}{L:List Pl2}(hl:QL h lo a L){b o n c:Nat}(e:a=.sl b o n c):b<h.next:=by
 obtain⟨xs,h1,h2,h3⟩:=hl;exact h1.lt e
def QL.at{h:AH}{lo:Nat}{a:AV}{L:List Pl2}(hl:QL h lo a L){i:Nat}(hi:i<L.length):∃b o x,jZ 2 a (.int .i64 (i:Nat))=some (.ptr b o)/\ai h b o 2=some (f2 x)/\((x.1.cells=[x.1]/\x.1.one=true)/\x.2.cells=[x.2]/\x.2.one=true)/\SlI h x.1 L[i].1/\SlL h x.2 L[i].2/\b<h.next/\∀j y,(f2 x)[j]?=some y->ai h b (o+j) 1=some [y]:=by
 obtain⟨xs,h1,h2,h3⟩:=hl;have hs:=Ob (f:=f2) om (λ_=>rfl) h1;obtain⟨b,o,q1,q2,q3,q4⟩:=hs.at (cm (f:=f2) (i:=i) om);obtain⟨k1,k2⟩:=h3 i _ _ (aj om) (aj hi);obtain⟨k3,k4⟩:=k2 h λ_ _ _=>rfl;exact⟨b,o,_,q1,q2,k1,k3,k4,q4,q3⟩
def QL.push{q:Nat}{a:AV}{L:List Pl2}{x:AV×AV}{p:Pl2}(hl:QL h lo a L)(hlo:lo<=h.next)(hp:QC h a x p)(hx:h.get q=some (.cells (f2 x) 2 false))(hxl:lo<=q)(hxa:∀b n,a=.sl b 0 n n->b≠q)(hb:L.length<2^30) :
 ∃a' h',gh h 2 48 a (.sl q 0 1 1)=some (a',h')/\QL h' lo a' (L++[p])/\Ext lo h h'/\h'.next=h.next+1:=by
 obtain⟨xs,h1,h2,h3⟩:=hl;have ho:(f2 x).all AV.one=true:=by
  obtain⟨⟨k1,k2⟩,_⟩:=hp;simp only[f2,gQ,vW,k1.2,k2.2,te]
 have hd:(xs.flatMap f2).length/2=L.length:=by rw[NM,cQ _ om,h2]
 obtain⟨a',h',q1,q2,q3,q4,q5,q6,q7⟩:=h1.app (bytes:=48) hlo om hx hxl hxa rfl ho (by rw[hd];unfold bf;omega) (by rw[hd];unfold bf;omega);have keep:∀{x p},QC h a x p->QC h' a' x p:=fun {x p} hp=>⟨hp.1,λh'' hq=>hp.2 h'' λc hc hne=>by
  rw[hq c om (λb n e=>by rw[q4]at e;cases e;omega),q6 c hc hne]⟩
 refine⟨a',h',q1,⟨xs++[x],?_,by rw[aJ,aJ,h2];rfl,λi y r e1 e2=>?_⟩,q3,q5⟩
 .rw[br];simpa using q2
 .by_cases hi:i<xs.length
  .rw[bC hi]at e1;rw[bC om]at e2;exact keep (h3 i y r e1 e2)
  .have hil:i<(xs++[x]).length:=(au.1 e1).1;rw[aJ,bd,bm]at hil;have hi':i=xs.length:=om;subst hi';rw[bw om,dV]at e1;rw[h2,bw om,dV]at e2;cases e1;cases e2;exact keep hp
set_option maxHeartbeats 2000000 in
def LR{n:Int}{E:List (Int×Int)}{outs:List (List Int)}(he:SlE h ev E)(hxl:E.length<2^30)(ho:SlI h ordv order)(hu:SlL h outv outs)(hol:order.length<=200)(hlu:outs.length<=200)(hl3:∀l∈outs,l.length<=200) :
 C prg 11 [.agg [.int .i64 n,ev],.agg [ordv,outv]] h λr h'=>Ext h.next h h'/\(¬OKP n E order outs->r=.tup [.nils,.int .i64 1]) /\
   (OKP n E order outs->∃a,r=.tup [a,.int .i64 0]/\∀(hE:InG n.toNat E) (hL:∀i,i<E.length->tlE E i≠hdE E i) l,Lst (grE n.toNat E hE hL) l->QL h' h.next a ((canon E.length l).map λb=>(oG n.toNat E b order,sU n.toNat E b outs))):=by
 obtain⟨ec,eo⟩:=he.cells;obtain⟨oc,oo⟩:=ho.cells;obtain⟨uc,uo⟩:=hu.cells;refine Oj rfl ?_;refine ae (ak (Mi0) ?_);have ga:∀c,((h.new (.cells [.int .i64 n,ev] 2 false)).new (.cells [ordv,outv] 2 false)).get c=if c=h.next+1 then some (.cells [ordv,outv] 2 false)else if c=h.next then some (.cells [.int .i64 n,ev] 2 false)else h.get c:=λc=>by
  rw[AH.get_new,AH.get_new];rfl
 have x0:Ext h.next h ((h.new (.cells [.int .i64 n,ev] 2 false)).new (.cells [ordv,outv] 2 false)):=(Oe (ab _)).trans (Oe (by simp));have n0:((h.new (.cells [.int .i64 n,ev] 2 false)).new (.cells [ordv,outv] 2 false)).next=h.next+2:=rfl;generalize ((h.new (.cells [.int .i64 n,ev] 2 false)).new (.cells [ordv,outv] 2 false))=h1 at *
 have gG:h1.get h.next=some (.cells [.int .i64 n,ev] 2 false):=by rw[ga,if_neg om,if_pos rfl]
 have gP:h1.get (h.next+1)=some (.cells [ordv,outv] 2 false):=by rw[ga,if_pos rfl]
 have rG:ai h1 h.next 0 2=some [.int .i64 n,ev]:=by rw[aR gG];rfl
 have rP:ai h1 (h.next+1) 0 2=some [ordv,outv]:=by rw[aR gP];rfl
 refine ae (ae (bM (bj 2 (Mi2 rG rP) rfl (Zi2 rG rP) (Mi2 rG rP) (DB (n:=n) (he.ext x0 (ab _)) hxl (ho.ext x0 (ab _)) (hu.ext x0) hol hlu hl3) λr h2 hq=>?_)));obtain⟨x2,hr⟩:=hq;obtain⟨v1,v2,c,a0,rfl,hc⟩:=uz hr;obtain⟨h3,w3,x3,g3,n3⟩:=gD (h:=h2) (z:=[.int .i64 0,.int .i64 0,.nils]) (cs:=[.int .i64 c,.int .i64 a0,.nils]) (e:=3) rfl;refine bI (by simp only[am,aL,simprocAttr,tlF,w3]<;>rfl) ?_;have n2:=x2.nx;have X3:Ext h.next h h3:=x0.trans ((x2.mono om).trans (x3.mono om));have r3:ai h3 h2.next 0 1=some [.int .i64 c]:=bq g3 rfl;by_cases hk:¬OKP n E order outs
 .have c1:(c != 0)=true:=by rw[bne_iff_ne];exact λe=>hk (hc.1 e)
  have c2:(!decide (c=0))=true:=by rw[aw (λe=>hk (hc.1 e))];rfl
  refine ae (ak (M3 r3 c1 c2) ?_);refine cZ (Z2 c1 c2) (ae (ak (M0) ?_));exact bu ⟨_,(by simp only[rs,rf11,am,aL,simprocAttr]<;>rfl),X3,λ_=>rfl,λq=>absurd q hk⟩
 have hk:OKP n E order outs:=Classical.byContradiction hk;have c0:=hc.2 hk;subst c0;refine ae (ak (M2 r3 @decide_true) ?_);refine dC (Z1 @decide_true) (bz ?_);have hg:=hk.1.1;have hP:=hk.1.2;have hm:=hg.1;have hn:n=((n.toNat:Nat):Int):=by
  have:=hm;unfold fC at this;simp only[aU,aK]at this;omega
 have hL0:=pG hg;generalize n.toNat=nn at *
 subst hn;have hE0:=km hm;obtain⟨m1,m2,m3,m4⟩:=iX hm;have gG3:h3.get h.next=some (.cells [.int .i64 (nn:Nat),ev] 2 false):=by rw[x3.gt _ om,x2.gt _ om];exact gG
 have gP3:h3.get (h.next+1)=some (.cells [ordv,outv] 2 false):=by rw[x3.gt _ om,x2.gt _ om];exact gP
 have rG3:ai h3 h.next 0 2=some [.int .i64 (nn:Nat),ev]:=by rw[aR gG3];rfl
 refine ae (bM (bj 1 (Mi1 rG3) rfl (Zi1 rG3) (Mi1 rG3) (sO (n:=((nn:Nat):Int)) (he.ext X3 (ab _)) hxl) λr h4 hq=>?_));obtain⟨x4,_,hgood⟩:=hq;obtain⟨pv,rfl,hpl⟩:=hgood hg;simp only[aO]at hpl;obtain⟨l0,hl0⟩:=Go.Blk.lst_ex (grE nn E hE0 hL0);have pl:=hpl hE0 hL0 l0 hl0;have hB:∀(hE:InG nn E) (hL:∀i,i<E.length->tlE E i≠hdE E i) l,Lst (grE nn E hE hL) l->canon E.length l0=canon E.length l:=λhE hL l hl=>Go.Blk.canon_congr λi hi=>hl0.uniq hl hi;have hBm:=λb hb=>eG (m:=E.length) (l:=l0) (b:=b) hb;have hBr:=λb hb=>Db (m:=E.length) (l:=l0) (b:=b) hb;have hBlen:=lB (m:=E.length) (l:=l0);generalize canon E.length l0=B at *
 have pln:=pl.len;rw[ah]at pln;refine bI (M1 pln) ?_;have n4:=x4.nx;have X4:Ext h.next h h4:=X3.trans (x4.mono om);have gP4:h4.get (h.next+1)=some (.cells [ordv,outv] 2 false):=by rw[x4.gt _ om];exact gP3
 refine ae (ae (ak (M1 pln) ?_))
 refine fi (α:=AV) (N:=B.length) (λ_ a=>[(2,.ptr h.next 0),(3,.ptr (h.next+1) 0),(4,a),(5,.int .i64 0),(9,pv)])
  (λk a h'=>Ext h4.next h4 h'/\QL h' h4.next a ((B.take k).map λb=>(oG nn E b order,sU nn E b outs))) .nils (λ_ _=>rfl) om (Hi0)
  ⟨Oh,[],.inl ⟨rfl,rfl⟩,rfl,λi x p e=>by simp at e⟩ ?_ ?_
 .rintro k a ts h5 hkB ⟨jx,ja⟩ ⟨e29,e28,e2,e3,e4,e5,e9,-⟩;simp only at e29 e28 e2 e3 e4 e5 e9;have n5:=jx.nx;refine ae (ak (M1 e29) ?_);have xk:Ext h5.next h5 (h5.keep 1):=Be;have kn:(h5.keep 1).next=h5.next+1:=AH.keep_next 1 h5;have q5:(h5.keep 1).get h5.next=some .resv:=ff;have X5:Ext h.next h (h5.keep 1):=X4.trans ((jx.mono om).trans (xk.mono om));have plk:PL (h5.keep 1) h3.next pv (B.map (lL nn E)):=pl.ext (jx.trans (xk.mono om)) (ab _);obtain⟨b1,o1,x,a1,r1,c1,lb1,ry⟩:=plk.at (i:=k) (by rw[ah];exact hkB);obtain⟨p1,p2,p3,p4,_⟩:=c1;rw[dz]at p1 p2 p3 p4;obtain⟨y1,ye,yn,yu⟩:=x;simp only at p1 p2 p3 p4;subst p1;have gPk:(h5.keep 1).get (h.next+1)=some (.cells [ordv,outv] 2 false):=by rw[xk.gt _ om,jx.gt _ om];exact gP4
  have rPk:ai (h5.keep 1) (h.next+1) 0 2=some [ordv,outv]:=by rw[aR gPk];rfl
  obtain⟨k1,k2,k3,k4⟩:=hBm _ (ar hkB);have hrise:=hBr _ (ar hkB);have ry0:=ry 0 _ rfl;rw[eB]at ry0;have htk:(B.take (k+1)).map (λb=>(oG nn E b order,sU nn E b outs))=(B.take k).map (λb=>(oG nn E b order,sU nn E b outs))++[(oG nn E B[k] order,sU nn E B[k] outs)]:=by
   rw[aI hkB,bS];rfl
  generalize B[k]=bk at *
  have hpc:=IA (n:=nn) (bk:=bk) (order:=order) (outs:=outs) rfl ry0 (ry 2 _ rfl) (ry 3 _ rfl) lb1 p3 p4 hrise (ho.ext X5 (ab _)) (hu.ext X5) hP.2.1 om m2 hol hl3;refine pw (bj 5 (M5 e4 e9 e3 a1 rPk) rfl (Z5 e4 e9 e3 a1 rPk) (M5 e4 e9 e3 a1 rPk) (hpc) λr h6 hq=>?_);obtain⟨x6,av,uv,rfl,⟨ac,ao⟩,⟨vc,vo⟩,hpf⟩:=hq;have n6:=x6.nx;have q6:h6.get h5.next=some .resv:=by rw[x6.gt _ om];exact q5
  have rp2:cq [AV.nils,AV.nils] 1=[.nils,.nils]:=rfl;have g7:(h6.put h5.next (.cells [av,uv] 2 false)).get h5.next=some (.cells [av,uv] 2 false):=by rw[AH.get_put _ _ _ _ om,if_pos rfl]
  have x7:Ext h5.next h6 (h6.put h5.next (.cells [av,uv] 2 false)):=Og (ab _);have k7:∀c,c≠h5.next->(h6.put h5.next (.cells [av,uv] 2 false)).get c=h6.get c:=λc hc=>by rw[AH.get_put _ _ _ _ om,if_neg om]
  have n7:(h6.put h5.next (.cells [av,uv] 2 false)).next=h6.next:=AH.next_put ..;have X7:Ext h5.next h5 (h6.put h5.next (.cells [av,uv] 2 false)):=xk.trans ((x6.mono om).trans x7);have hqc:QC (h6.put h5.next (.cells [av,uv] 2 false)) a (av,uv) (oG nn E bk order,sU nn E bk outs):=QC.of hpf ⟨ac,ao⟩ ⟨vc,vo⟩ (λc q1 _=>k7 c om) om λb m e=>by have:=ja.lt e;omega
  obtain⟨a',h8,a8,i8,x8,n8⟩:=(ja.ext X7 (ab _)).push (q:=h5.next) om hqc g7 om (λb m e=>by have:=ja.lt e;omega) (by rw[ah,aS];omega);obtain⟨sc,so⟩:=i8.cells;refine bI (by simp only[am,aL,simprocAttr,e4,eA,dR q6,rp2,ao,vo,ac,vc,eH,a8]<;>rfl) ?_;refine⟨a',⟨jx.trans ((X7.mono om).trans x8),?_⟩,H6 e29 e28 e2 e3 e5 e9⟩;rw[htk];exact i8
 .rintro a ts h5 ⟨jx,ja⟩ ⟨e2,e3,e4,e5,e9,-⟩;simp only at e4;rw[bt]at ja;have ac:=ja.cells;refine ae (ak (M1 e4) ?_);refine bu ⟨_,(by simp only[rs,rf11,am,aL,simprocAttr,ac.1]<;>rfl),X4.trans (jx.mono om),λq=>absurd hk q,λ_=>⟨a,rfl,λhE hL l hl=>?_⟩⟩;rw[<-hB hE hL l hl];exact ja.mono om
open Go.Am
def zY{n:Int}{outs:List (List Int)}(he:SlE h ev es)(hl0:es.length<2^30)(hp:SlI h ordv order)(hq:SlL h outv outs)(hol:order.length<=200)(hlu:outs.length<=200)(hl3:∀l∈outs,l.length<=200) :
 C prg 10 [.agg [.int .i64 n,ev],.agg [ordv,outv]] h λr h'=>(∃b,r=.bool b/\(b=true↔OKP n es order outs))/\Ext h.next h h':=by
 refine Oj rfl ?_;refine ae (ak (Mi0) ?_);have ga:∀c,((h.new (.cells [.int .i64 n,ev] 2 false)).new (.cells [ordv,outv] 2 false)).get c=if c=h.next+1 then some (.cells [ordv,outv] 2 false)else if c=h.next then some (.cells [.int .i64 n,ev] 2 false)else h.get c:=λc=>by
  rw[AH.get_new,AH.get_new];rfl
 have x0:Ext h.next h ((h.new (.cells [.int .i64 n,ev] 2 false)).new (.cells [ordv,outv] 2 false)):=(Oe (ab _)).trans (Oe (by simp));have n0:((h.new (.cells [.int .i64 n,ev] 2 false)).new (.cells [ordv,outv] 2 false)).next=h.next+2:=rfl;generalize ((h.new (.cells [.int .i64 n,ev] 2 false)).new (.cells [ordv,outv] 2 false))=h1 at *
 have gG:h1.get h.next=some (.cells [.int .i64 n,ev] 2 false):=by rw[ga,if_neg om,if_pos rfl]
 have gP:h1.get (h.next+1)=some (.cells [ordv,outv] 2 false):=by rw[ga,if_pos rfl]
 have rG:ai h1 h.next 0 2=some [.int .i64 n,ev]:=by rw[aR gG];rfl
 have rP:ai h1 (h.next+1) 0 2=some [ordv,outv]:=by rw[aR gP];rfl
 refine ae (bM (bj 2 (Mi2 rG rP) rfl (Zi2 rG rP) (Mi2 rG rP) (Lm (n:=n) (he.ext x0 (ab _)) hl0 (hp.ext x0 (ab _)) (hq.ext x0) hol hlu hl3) λr h2 hq=>?_));obtain⟨x2,hr⟩:=hq;obtain⟨v1,v2,c,a0,rfl,hc⟩:=uz hr;refine bI (by simp only[am,aL,simprocAttr,tlR]<;>rfl) ?_;by_cases q:c=0
 .subst q;refine ae (ak (M1 @decide_true) ?_);exact bu ⟨.bool true,(by simp only[rs,rf10,am,aL,simprocAttr]<;>rfl),⟨true,rfl,⟨λ_=>hc.1 rfl,λ_=>rfl⟩⟩,x0.trans (x2.mono om)⟩
 .have c1:(c==0)=false:=by rw[beq_eq_false_iff_ne];exact q
  have c2:decide (c=0)=false:=aw q;refine ae (ak (M2 c1 c2) ?_);exact bu ⟨.bool false,(by simp only[rs,rf10,am,aL,simprocAttr]<;>rfl),⟨false,rfl,⟨λh=>(by cases h),λh=>absurd (hc.2 h) q⟩⟩,x0.trans (x2.mono om)⟩
def oP{a1 u1 a2 u2:AV}{outs:List (List Int)}(s1:SlI h a1 order)(t1:SlL h u1 outs)(s2:SlI h a2 order)(t2:SlL h u2 outs)(hol:order.length<2^30)(hlu:outs.length<2^30)(hl3:∀l∈outs,l.length<2^30) :
 C prg 9 [.agg [a1,u1],.agg [a2,u2]] h λr h'=>r=.bool true/\Ext h.next h h':=by
 have la1:=s1.len;have la2:=s2.len;rw[ah]at la1 la2;have lu1:=t1.len;have lu2:=t2.len;refine Oj rfl ?_;refine ae (ak (Mi0) ?_);have ga:∀c,((h.new (.cells [a1,u1] 2 false)).new (.cells [a2,u2] 2 false)).get c=if c=h.next+1 then some (.cells [a2,u2] 2 false)else if c=h.next then some (.cells [a1,u1] 2 false)else h.get c:=λc=>by
  rw[AH.get_new,AH.get_new];rfl
 have x0:Ext h.next h ((h.new (.cells [a1,u1] 2 false)).new (.cells [a2,u2] 2 false)):=(Oe (ab _)).trans (Oe (by simp));generalize ((h.new (.cells [a1,u1] 2 false)).new (.cells [a2,u2] 2 false))=h1 at *
 have gA:h1.get h.next=some (.cells [a1,u1] 2 false):=by rw[ga,if_neg om,if_pos rfl]
 have gB:h1.get (h.next+1)=some (.cells [a2,u2] 2 false):=by rw[ga,if_pos rfl]
 have ra0:ai h1 h.next 0 1=some [a1]:=bq gA rfl;have ra1:ai h1 h.next 1 1=some [u1]:=bq gA rfl;have rb0:ai h1 (h.next+1) 0 1=some [a2]:=bq gB rfl;have rb1:ai h1 (h.next+1) 1 1=some [u2]:=bq gB rfl;have s1:=s1.ext x0 (ab _);have s2:=s2.ext x0 (ab _);have t1:=t1.ext x0;have t2:=t2.ext x0;refine ae (ae (ak (Mi10 ra0 ra1 rb0 rb1 la1 la2 lu1 lu2 @decide_true @decide_true) ?_));refine dC (Z1 @decide_true) (bz ?_);refine ae (ae (ak (Mi0) ?_));refine dX (α:=Unit) (N:=order.length) (λk _=>[(2,.ptr h.next 0),(3,.ptr (h.next+1) 0),(5,.int .i64 (k:Nat))]) (λ_ _ h'=>h'=h1) () (Hi1 @bh) rfl ?_ ?_ ?_
 .rintro k _ ts h2 hk rfl ⟨e2,e3,e5,-⟩;simp only at e2 e3 e5;exact⟨_,(M5 e2 e5 ra0 la1 @bE),Z0,H3 e2 e3 e5⟩
 .rintro k _ ts h2 hk rfl ⟨e2,e3,e5,-⟩;simp only at e2 e3 e5;have w5:=dW (k:=k) om;obtain⟨b1,p1,i1,r1,_⟩:=s1.at1 (cm (f:=eI) hk);obtain⟨b2,p2,i2,r2,_⟩:=s2.at1 (cm (f:=eI) hk);refine ae (ak (M10 e2 e3 e5 ra0 rb0 i1 i2 r1 r2 @decide_true) ?_);exact dC (Z2 @decide_true @dp) (bz ⟨(),rfl,_,(M2 e5 w5),H2 e2 e3⟩)
 rintro _ ts h2 rfl ⟨e2,e3,e5,-⟩;simp only at e2 e3;refine ae (ae (ak (M0) ?_));refine dX (α:=Unit) (N:=outs.length) (λk _=>[(2,.ptr h.next 0),(3,.ptr (h.next+1) 0),(6,.int .i64 (k:Nat))]) (λ_ _ h'=>h'=h2) () (H3 e2 e3 @bh) rfl ?_ ?_ ?_
 .clear e2 e3 e5;rintro k _ ts h3 hk rfl ⟨e2,e3,e6,-⟩;simp only at e2 e3 e6;exact⟨_,(M5 e2 e6 ra1 lu1 @bE),Z0,H3 e2 e3 e6⟩
 .clear e2 e3 e5;rintro k _ ts h3 hk rfl ⟨e2,e3,e6,-⟩;simp only at e2 e3 e6;have w6:=dW (k:=k) om;obtain⟨b1,p1,v1,i1,r1,q1,_⟩:=t1.at hk;obtain⟨b2,p2,v2,i2,r2,q2,_⟩:=t2.at hk;have hrl:=hl3 _ (ar hk);generalize outs[k]=row at *
  have lr1:=q1.len;have lr2:=q2.len;rw[ah]at lr1 lr2;refine ae (ae (ak (M12 e2 e3 e6 ra1 rb1 i1 i2 r1 r2 lr1 lr2 @decide_true) ?_));refine dC (Z2 @decide_true @dp) (bz ?_);refine ae (ak (M0) ?_);refine dX (α:=Unit) (N:=row.length) (λi _=>[(2,.ptr h.next 0),(3,.ptr (h.next+1) 0),(6,.int .i64 (k:Nat)),(7,.int .i64 (i:Nat))]) (λ_ _ h'=>h'=h3) () (H4 e2 e3 e6 @bh) rfl ?_ ?_ ?_
  .clear e2 e3 e6;rintro i _ ts h4 hi rfl ⟨e2,e3,e6,e7,-⟩;simp only at e2 e3 e6 e7;exact⟨_,(M8 e2 e6 e7 ra1 i1 r1 lr1 @bE),Z0,H4 e2 e3 e6 e7⟩
  .clear e2 e3 e6;rintro i _ ts h4 hi rfl ⟨e2,e3,e6,e7,-⟩;simp only at e2 e3 e6 e7;have w7:=dW (k:=i) om;obtain⟨b3,p3,i3,r3,_⟩:=q1.at1 (cm (f:=eI) hi);obtain⟨b4,p4,i4,r4,_⟩:=q2.at1 (cm (f:=eI) hi);refine ae (ak (by simp only[am,aL,simprocAttr,e2,e3,e6,e7,ra1,rb1,i1,i2,r1,r2,i3,i4,r3,r4,decide_true]<;>rfl) ?_);exact dC (Z2 @decide_true @dp) (bz ⟨(),rfl,_,(M2 e7 w7),H3 e2 e3 e6⟩)
  .clear e2 e3 e6;rintro _ ts h4 rfl ⟨e2,e3,e6,e7,-⟩;simp only at e2 e3 e6;exact⟨(),rfl,_,(M2 e6 w6),H2 e2 e3⟩
 .rintro _ ts h3 rfl _;refine ae (ak (M0) ?_);exact bu ⟨.bool true,(by simp only[rs,rf9,am,aL,simprocAttr]<;>rfl),rfl,x0⟩
open Go.Am
end Go.Proofs.YtklpoimdclflmaaGreatDoor
