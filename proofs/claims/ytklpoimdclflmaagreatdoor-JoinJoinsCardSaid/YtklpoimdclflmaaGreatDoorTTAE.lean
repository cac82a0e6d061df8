/- graph.Of; there, Outs, Ins. -/
import Derived.Test.YtklpoimdclflmaaGreatDoorTTAD
set_option linter.all false
namespace Go.Proofs.YtklpoimdclflmaaGreatDoor
open Go.Am
variable {b i j lo n:Nat}{e:Int×Int}{es:List (Int×Int)}{h:AH}{out ws:List Int}{vp:AV}{vs:List AV}{x:Int}{xss:List (List Int)}
def dB(p:Int×Int->Bool):List (Int×Int)->Nat->List Int
 |[],_=>[]
 |e::r,i=>if p e then((i:Nat):Int)::dB p r (i+1)else dB p r (i+1)
def vD(p:Int×Int->Bool):∀(a b:List (Int×Int)) (i:Nat),dB p (a++b) i=dB p a i++dB p b (i+a.length)
 |[],b,i=>by simp[dB]
 |e::r,b,i=>by
   have:=vD p r b (i+1);simp only[bX,dB,bd];rw[this,show i+1+r.length=i+(r.length+1) by omega];split<;>simp
def fG(p:Int×Int->Bool):∀(a:List (Int×Int)) (i:Nat),(dB p a i).length<=a.length
 |[],i=>by simp[dB]
 |e::r,i=>by
   have:=fG p r (i+1);simp only[dB,bd];split
   .simp only[bd];omega
   .omega
def pk(p:Int×Int->Bool){k:Nat}(hk:k<es.length):dB p (es.take (k+1)) 0=if p es[k]then dB p (es.take k) 0++[((k:Nat):Int)]else dB p (es.take k) 0:=by
 rw[aI hk,vD,aS,cD om,bN];simp only[dB];split<;>simp
def dJ(es:List (Int×Int))(x:Int):List Int:=dB (λe=>decide (e.1=x)) es 0
def dr(es:List (Int×Int))(x:Int):List Int:=dB (λe=>decide (e.2=x)) es 0
def Rw(h:AH)(lo:Nat)(vs:List AV)(xss:List (List Int)):Prop :=
 vs.length=xss.length/\(∀(i:Nat) (v:AV) (xs:List Int),vs[i]?=some v->xss[i]?=some xs->IsSl h 1 lo v (xs.flatMap eI))/\∀(i j b n b' n':Nat),i≠j->vs[i]?=some (AV.sl b 0 n n)->vs[j]?=some (AV.sl b' 0 n' n')->b≠b'
def Rw.cong{h h':AH}{lo:Nat}{vs:List AV}{xss:List (List Int)}(hr:Rw h lo vs xss)(hk:∀c,lo<=c->c<h.next->h'.get c=h.get c):Rw h' lo vs xss :=
 ⟨hr.1,λi v xs h1 h2=>(hr.2.1 i v xs h1 h2).cong λb n e hb=>hk b hb ((hr.2.1 i v xs h1 h2).lt e),hr.2.2⟩
def Rw.lt(hr:Rw h lo vs xss)(hj:vs[j]?=some (AV.sl b 0 n n)):b<h.next/\lo<=b:=by
 have hjl:j<vs.length:=(au.1 hj).1;have:=hr.2.1 j _ (xss[j]'(by rw[<-hr.1];exact hjl)) hj (aj _);rcases this with⟨q,_⟩|⟨b',n',q1,q2,q3,_⟩
 .cases q
 .cases q2;exact⟨AH.lt_of_get q3,q1⟩
def Rw.push(hr:Rw h lo vs xss){x:Nat}{k:Int}{xs:List Int}(hi:xss[i]?=some xs)(hlo:lo<=h.next)(hx:h.get x=some (.cells [.int .i64 k] 1 false))(hxl:lo<=x)(hxn:∀(j b n:Nat),vs[j]?=some (AV.sl b 0 n n)->b≠x)(hl:xs.length<2^30) :
 ∃v v' h',vs[i]?=some v/\gh h 1 8 v (.sl x 0 1 1)=some (v',h')/\v'.cells=[v']/\v'.one=true/\Rw h' lo (vs.set i v') (xss.set i (xs++[k]))/\Ext lo h h'/\h'.next=h.next+1/\∀c,c<h.next->(∀(j b n:Nat),vs[j]?=some (AV.sl b 0 n n)->b≠c)->h'.get c=h.get c/\∀(j b n:Nat),(vs.set i v')[j]?=some (AV.sl b 0 n n)->b≠c:=by
 obtain⟨r1,r2,r3⟩:=hr;have hil:i<xss.length:=(au.1 hi).1;have hv:vs[i]?=some vs[i]:=aj om;have hlen:(xs.flatMap eI).length=xs.length:=by rw[dE (f:=eI) (e:=1) (λ_=>rfl)];omega
 obtain⟨v',h',a1,a2,a3,a4,a5,a6,a7⟩:=(r2 i _ xs hv hi).app (bytes:=8) hlo om hx hxl (λb n e=>hxn i b n (by rw[hv,e])) rfl rfl (by rw[hlen];unfold bf;omega) (by rw[hlen];unfold bf;omega);obtain⟨c1,c2⟩:=a2.cells;refine⟨_,v',h',hv,a1,c1,c2,⟨by rw[cx,cx,r1],?_,?_⟩,a3,a5,λc hc hne=>⟨a6 c hc λb n e=>(hne i b n (by rw[hv,e])).symm,λj b n hj=>?_⟩⟩
 rotate_right
 .by_cases e:i=j
  .subst e;rw[dP om,aa,a4]at hj;cases hj;omega
  .rw[dq e]at hj;exact hne j b n hj
 .intro j w ys hw hy;by_cases e:i=j
  .subst e;rw[dP om,aa]at hw hy;subst hw hy;rw[br];exact a2
  .rw[dq e]at hw hy;refine(r2 j w ys hw hy).cong λb n eb hb=>a6 b ((r2 j w ys hw hy).lt eb) λb' n' e'=>?_;exact(r3 i j b' n' b n e (by rw[hv,e']) (by rw[hw,eb])).symm
 .have hlt:∀j b n,vs[j]?=some (AV.sl b 0 n n)->b<h.next:=λj b n hj=>by
   have hjl:j<vs.length:=(au.1 hj).1;exact(r2 j _ xss[j] hj (aj om)).lt rfl
  intro j1 j2 b n b' n' hne h1 h2;by_cases e:i=j1
  .subst e;rw[dP om,aa,a4]at h1;rw[dq hne]at h2;have:=hlt _ _ _ h2;cases h1;omega
  .rw[dq e]at h1;by_cases e2:i=j2
   .subst e2;rw[dP om,aa,a4]at h2;have:=hlt _ _ _ h1;cases h2;omega
   .rw[dq e2]at h2;exact r3 _ _ _ _ _ _ hne h1 h2
def IsView(h:AH)(vp:AV)(n:Nat)(es:List (Int×Int)):Prop:=∃(b:Nat) (ev:AV) (os is:List AV) (ob ib:Nat),vp=.ptr b 0/\h.get b=some (.cells [.int .i64 (n:Nat),ev,.sl ob 0 n n,.sl ib 0 n n] 4 false)/\SlE h ev es /\
 h.get ob=some (.cells os 1 false)/\h.get ib=some (.cells is 1 false)/\os.length=n/\is.length=n/\(∀(x:Nat) (v:AV),os[x]?=some v->SlI h v (dJ es x))/\(∀(x:Nat) (v:AV),is[x]?=some v->SlI h v (dr es x))/\1<=n/\n<=64/\es.length<=128/\es.all (okE n)=true
def IsView.ext{h h':AH}{vp:AV}{n:Nat}{es:List (Int×Int)}(hv:IsView h vp n es)(hx:Ext h.next h h'):IsView h' vp n es:=by
 obtain⟨b,ev,os,is,ob,ib,rfl,g1,g2,g3,g4,g5,g6,g7,g8,g9⟩:=hv
 exact⟨b,ev,os,is,ob,ib,rfl,by rw[hx.gt _ (AH.lt_of_get g1)];exact g1,g2.ext hx (ab _),by rw[hx.gt _ (AH.lt_of_get g3)];exact g3,by rw[hx.gt _ (AH.lt_of_get g4)];exact g4,g5,g6,
  λx v q=>(g7 x v q).ext hx (ab _),λx v q=>(g8 x v q).ext hx (ab _),g9⟩
def mg(n:Nat)(es:List (Int×Int)):List (List Int):=(List.range n).map (λx=>dJ es ((x:Nat):Int))++(List.range n).map (λx=>dr es ((x:Nat):Int))
def wL{x:Nat}(hx:x<n):(mg n es)[x]?=some (dJ es x):=by
 unfold mg;rw[bC (by simpa using hx),aV,da hx];rfl
def Aa{x:Nat}(hx:x<n):(mg n es)[n+x]?=some (dr es x):=by
 unfold mg;rw[bw (by simp),ah,cw,eO,aV,da hx];rfl
def mA{x:Nat}{f g:Nat->List Int}(hx:x<n)(hne:∀y,y≠x->f y=g y):((List.range n).map f).set x (g x)=(List.range n).map g:=by
 refine cV λi=>?_;rw[cU];by_cases e:x=i
 .subst e;simp[hx]
 .rw[if_neg e,aV,aV];by_cases hi:i<n
  .rw[da hi];simp only[aQ];rw[hne i (Ne.symm e)]
  .rw[bJ (by simpa using hi)];rfl
def Fe{k a:Nat}(hk:k<es.length)(ha:a<n)(hb:b<n)(he:es[k]=(((a:Nat):Int),((b:Nat):Int))) :
 ((mg n (es.take k)).set a (dJ (es.take k) a++[((k:Nat):Int)])).set (n+b) (dr (es.take k) b++[((k:Nat):Int)])=mg n (es.take (k+1)):=by
 have ho:∀x:Nat,dJ (es.take (k+1)) ((x:Nat):Int)=if x=a then dJ (es.take k) a++[((k:Nat):Int)]else dJ (es.take k) x:=λx=>by
  unfold dJ;rw[pk _ hk,he];by_cases e:x=a
  .subst e;simp
  .have:¬((a:Nat):Int)=((x:Nat):Int):=om;simp[e,this]
 have hi:∀x:Nat,dr (es.take (k+1)) ((x:Nat):Int)=if x=b then dr (es.take k) b++[((k:Nat):Int)]else dr (es.take k) x:=λx=>by
  unfold dr;rw[pk _ hk,he];by_cases e:x=b
  .subst e;simp
  .have:¬((b:Nat):Int)=((x:Nat):Int):=om;simp[e,this]
 unfold mg;rw[zA _ _ (by simpa using ha),wm _ _ (by simp)];have e1:=mA (f:=λx:Nat=>dJ (es.take k) ((x:Nat):Int)) (g:=λx:Nat=>dJ (es.take (k+1)) ((x:Nat):Int)) ha λy hy=>by simp only[ho,if_neg hy]
 have e2:=mA (f:=λx:Nat=>dr (es.take k) ((x:Nat):Int)) (g:=λx:Nat=>dr (es.take (k+1)) ((x:Nat):Int)) hb λy hy=>by simp only[hi,if_neg hy]
 simp only[ho,if_true]at e1;simp only[hi,if_true]at e2;rw[cx,ah,cw,eO,e2,e1];simp only[ho,hi]
def Rw.nil(h:AH)(n:Nat):Rw h h.next (cq [.nils] n++cq [.nils] n) (mg n []):=by
 rw[eQ,List.replicate_append_replicate];have e2:mg n []=List.replicate (n+n) []:=by
  refine cV λi=>?_;have e3:mg n []=(List.range n++List.range n).map λ_=>[]:=by rw[bS];rfl
  rw[e3,aV,cz];by_cases hi:i<n+n
  .rw[aj (by simpa using hi),if_pos hi];rfl
  .rw[bJ (by simpa using hi),if_neg hi];rfl
 rw[e2];refine⟨by rw[cA,cA],λi v xs h1 h2=>?_,λi j b n b' n' _ h1=>?_⟩
 .rw[cz]at h1 h2;split at h1
  .rw[if_pos ‹_›]at h2;simp only[aa]at h1 h2;subst h1 h2;exact .inl ⟨rfl,rfl⟩
  .cases h1
 .rw[cz]at h1;split at h1
  .cases h1
  .cases h1
def iX(hm:fC (n:Nat) es=true):1<=n/\n<=64/\es.length<=128/\es.all (okE n)=true:=by
 simp only[fC,aU,aK]at hm;exact⟨om,om,om,hm.2⟩
def nH(h:okE n e=true):∃a b:Nat,e=(((a:Nat):Int),((b:Nat):Int))/\a<n/\b<n:=by
 obtain⟨x,y⟩:=e;simp only[okE,aU,aK]at h;exact⟨x.toNat,y.toNat,by rw[kY om,kY om],om,om⟩
def vh{n:Nat}{ev:AV}(he:SlE h ev es)(hm:fC (n:Nat) es=true):C prg 20 [.agg [.int .i64 (n:Nat),ev]] h λr h'=>IsView h' r n es/\Ext h.next h h':=by
 obtain⟨m1,m2,m3,m4⟩:=iX hm;obtain⟨ec,eo⟩:=he.cells;refine Oj rfl ?_;refine ae (ak (Mi0) ?_);have x0:Ext h.next h (h.new (.cells [.int .i64 (n:Nat),ev] 2 false)):=Oe (ab _);have g0:(h.new (.cells [.int .i64 (n:Nat),ev] 2 false)).get h.next=some (.cells [.int .i64 (n:Nat),ev] 2 false):=by rw[AH.get_new,if_pos rfl]
 have n0:(h.new (.cells [.int .i64 (n:Nat),ev] 2 false)).next=h.next+1:=rfl;generalize h.new (.cells [.int .i64 (n:Nat),ev] 2 false)=h0 at *
 have r0:ai h0 h.next 0 2=some [.int .i64 (n:Nat),ev]:=by rw[aR g0];rfl
 refine ae (ae (bM (bj 1 (Mi1 r0) rfl (Zi1 r0) (Mi1 r0) (yN (he.ext x0 (ab _)) om) λr h1 hq=>?_)));obtain⟨rfl,x1⟩:=hq;rw[hm];refine bI (M0) ?_;refine dC (Z0) (bz ?_);have g1:h1.get h.next=some (.cells [.int .i64 (n:Nat),ev] 2 false):=by rw[x1.gt _ om];exact g0
 have n1:=x1.nx;have kn:(h1.keep 3).next=h1.next+3:=AH.keep_next 3 h1;have kg:∀c,(h1.keep 3).get c=if h1.next<=c/\c<h1.next+3 then some .resv else h1.get c:=λc=>AH.keep_get 3 h1
 have k1:(h1.keep 3).get h.next=some (.cells [.int .i64 (n:Nat),ev] 2 false):=by rw[kg,if_neg om];exact g1
 have ra:ai (h1.keep 3) h.next 0 2=some [.int .i64 (n:Nat),ev]:=by rw[aR k1];rfl
 have rb:ai (h1.keep 3) h.next 0 1=some [.int .i64 (n:Nat)]:=by rw[aR k1];rfl
 have q0:(h1.keep 3).get h1.next=some .resv:=by rw[kg,if_pos ⟨om,om⟩]
 have mv:=uT (z:=[.nils]) (bytes:=24) (n:=n) (by unfold bf;omega) (by unfold bf;omega);have q1:((h1.keep 3).put h1.next (.cells (cq [.nils] n) 1 false)).get (h1.next+1)=some .resv:=by rw[AH.get_put _ _ _ _ om,if_neg om,kg,if_pos ⟨om,om⟩]
 have q2:(((h1.keep 3).put h1.next (.cells (cq [.nils] n) 1 false)).put (h1.next+1) (.cells (cq [.nils] n) 1 false)).get (h1.next+2)=some .resv:=by
  rw[AH.get_put _ _ _ _ (by rw[AH.next_put];omega),if_neg om,AH.get_put _ _ _ _ om,if_neg om,kg,if_pos ⟨om,om⟩]
 have bx:=BA (k:=4) (cs:=[.int .i64 (n:Nat),ev,.sl h1.next 0 n n,.sl (h1.next+1) 0 n n]) rfl
 refine ae (Et (λts h2=>h2=(((h1.keep 3).put h1.next (.cells (cq [.nils] n) 1 false)).put (h1.next+1) (.cells (cq [.nils] n) 1 false)).put (h1.next+2) (.cells [.int .i64 (n:Nat),ev,.sl h1.next 0 n n,.sl (h1.next+1) 0 n n] 4 false)/\db ts 1=.ptr h.next 0/\db ts 3=.ptr (h1.next+2) 0)
  (by simp only[am,aL,simprocAttr,bV,ra,rb,eA,mW q0,mW q1,xF q2,mv,bx,ec,eo,eH]) ?_)
 rintro ts h2 ⟨hh2,t1,t3⟩;have n2:h2.next=h1.next+3:=by rw[hh2];simp only[AH.next_put];omega
 have gg:∀c,h2.get c=if h1.next+2=c then some (.cells [.int .i64 (n:Nat),ev,.sl h1.next 0 n n,.sl (h1.next+1) 0 n n] 4 false)else if h1.next+1=c then some (.cells (cq [.nils] n) 1 false)else if h1.next=c then some (.cells (cq [.nils] n) 1 false)else(h1.keep 3).get c:=λc=>by
  rw[hh2,AH.get_put _ _ _ _ (by simp only[AH.next_put];omega),AH.get_put _ _ _ _ (by simp only[AH.next_put];omega),AH.get_put _ _ _ _ om]
 have x2:Ext h1.next h1 h2:=⟨om,λc hc=>by rw[gg,if_neg om,if_neg om,if_neg om,kg,if_neg om],λc hc=>by rw[hh2];exact Oc 3 h1⟩
 clear q0 q1 q2 mv bx ra rb k1 kg kn hh2;have g2:h2.get h.next=some (.cells [.int .i64 (n:Nat),ev] 2 false):=by rw[x2.gt _ om];exact g1
 have gv:h2.get (h1.next+2)=some (.cells [.int .i64 (n:Nat),ev,.sl h1.next 0 n n,.sl (h1.next+1) 0 n n] 4 false):=by rw[gg,if_pos rfl]
 have go:h2.get h1.next=some (.cells (cq [.nils] n) 1 false):=by rw[gg,if_neg om,if_neg om,if_pos rfl]
 have gi:h2.get (h1.next+1)=some (.cells (cq [.nils] n) 1 false):=by rw[gg,if_neg om,if_pos rfl]
 clear gg;have r2:ai h2 h.next 1 1=some [ev]:=by rw[aR g2];rfl
 have he2:SlE h2 ev es:=((he.ext x0 (ab _)).ext x1 (ab _)).ext x2 (ab _);refine ae (bM (bj 3 (M2 t1 r2) rfl (Z2 t1 r2) (M2 t1 r2) (Gj he2 om) λcv h3 hq=>?_));obtain⟨c1,x3,_⟩:=hq;have n3:=x3.nx;have gv3:h3.get (h1.next+2)=some (.cells [.int .i64 (n:Nat),ev,.sl h1.next 0 n n,.sl (h1.next+1) 0 n n] 4 false):=by rw[x3.gt _ om];exact gv
 have w3:bP h3 (h1.next+2) 1 [cv]=some (h3.put (h1.next+2) (.cells [.int .i64 (n:Nat),cv,.sl h1.next 0 n n,.sl (h1.next+1) 0 n n] 4 false)):=by rw[dw gv3];rfl
 obtain⟨cc,co⟩:=c1.cells;refine bI (M4 t3 cc co w3) ?_;have u4:=Oi (o:=.cells [.int .i64 (n:Nat),cv,.sl h1.next 0 n n,.sl (h1.next+1) 0 n n] 4 false) gv3;generalize h3.put (h1.next+2) (.cells [.int .i64 (n:Nat),cv,.sl h1.next 0 n n,.sl (h1.next+1) 0 n n] 4 false)=h4 at *
 have n4:=u4.nx;have c4:=c1.upd u4 om;have gv4:=u4.get;have go4:h4.get h1.next=some (.cells (cq [.nils] n) 1 false):=by rw[u4.ne om,x3.gt _ om];exact go
 have gi4:h4.get (h1.next+1)=some (.cells (cq [.nils] n) 1 false):=by rw[u4.ne om,x3.gt _ om];exact gi
 have g4:h4.get h.next=some (.cells [.int .i64 (n:Nat),ev] 2 false):=by rw[u4.ne om,x3.gt _ om];exact g2
 have x4:Ext h1.next h1 h4:=x2.trans ((x3.mono om).trans (u4.ext om));have r4:ai h4 h.next 1 1=some [ev]:=by rw[aR g4];rfl
 have he4:SlE h4 ev es:=((he.ext x0 (ab _)).ext x1 (ab _)).ext x4 (ab _);clear gv3 w3 u4 c1 go gi gv g2 r2 he2;have hlen:=he.len;rw[ah]at hlen;have rl:(cq [AV.nils] n).length=n:=by rw[eQ,cA]
 refine ae (ae (ak (M4 t1 t3 r4 hlen) ?_))
 refine fi (α:=List AV×List AV) (N:=es.length) (λ_ _=>[(3,.ptr (h1.next+2) 0),(27,ev)])
  (λk a h'=>h'.get (h1.next+2)=some (.cells [.int .i64 (n:Nat),cv,.sl h1.next 0 n n,.sl (h1.next+1) 0 n n] 4 false)/\h'.get h1.next=some (.cells a.1 1 false)/\h'.get (h1.next+1)=some (.cells a.2 1 false)/\a.1.length=n/\a.2.length=n/\Rw h' h4.next (a.1++a.2) (mg n (es.take k))/\Ext h1.next h1 h'/\IsSl h' 2 h2.next cv (es.flatMap eE)/\h4.next<=h'.next)
  (cq [.nils] n,cq [.nils] n) (λ_ _=>rfl) om (H1 t3) ⟨gv4,go4,gi4,rl,rl,Rw.nil h4 n,x4,c4,ab _⟩ ?_ ?_
 .rintro k ⟨os,is⟩ ts h5 hk ⟨j1,j2,j3,j4,j5,j6,j7,j8,j9⟩ ⟨ei,en,e3,e27,-⟩;simp only at ei en e3 e27 j2 j3 j4 j5 j6;obtain⟨a,b,eab,ha,hb⟩:=nH (bK.1 m4 _ (ar hk));obtain⟨b1,p1,a1,r1,_⟩:=(((he.ext x0 (ab _)).ext x1 (ab _)).ext j7 (ab _)).at (cm (f:=eE) hk);rw[eab]at r1;obtain⟨h6,w6,x6,g6,n6⟩:=gD (h:=h5) (z:=[.int .i64 0,.int .i64 0]) (cs:=[.int .i64 (a:Nat),.int .i64 (b:Nat)]) (e:=2) rfl;refine ae (ak (by simp only[am,aL,simprocAttr,e3,e27,ei,a1,r1,eE,w6]<;>rfl) ?_);obtain⟨x7,p7,n7,y7⟩:=fO (h:=h6) (o:=.cells [.int .i64 (k:Nat)] 1 false);have kg:∀c,c<h6.next->(h6.keep 1).get c=h6.get c:=λc hc=>by rw[AH.keep_get,if_neg om]
  have q7:(h6.keep 1).get h6.next=some .resv:=ff;have j1':h6.get (h1.next+2)=some (.cells [.int .i64 (n:Nat),cv,.sl h1.next 0 n n,.sl (h1.next+1) 0 n n] 4 false):=by rw[x6.gt _ om];exact j1
  have j2':h6.get h1.next=some (.cells os 1 false):=by rw[x6.gt _ om];exact j2
  have j3':h6.get (h1.next+1)=some (.cells is 1 false):=by rw[x6.gt _ om];exact j3
  have v1:ai (h6.keep 1) (h1.next+2) 2 1=some [.sl h1.next 0 n n]:=by rw[aR (by rw[kg _ om];exact j1')];rfl
  have v2:ai (h6.keep 1) h5.next 0 1=some [.int .i64 (a:Nat)]:=by rw[aR (by rw[kg _ om];exact g6)];rfl
  have hR:Rw ((h6.keep 1).put h6.next (.cells [.int .i64 (k:Nat)] 1 false)) h4.next (os++is) (mg n (es.take k)):=j6.cong λc hc hcn=>by rw[y7 _ om,x6.gt _ om]
  obtain⟨va,va',h8,s1,s2,s3,s4,s5,s6,s7,s8⟩:=hR.push (i:=a) (x:=h6.next) (k:=(k:Nat)) (wL ha) om p7 om (λj b n q=>by have:=j6.lt q;omega)
   (by have:=fG (λe=>decide (e.1=((a:Nat):Int))) (es.take k) 0;rw[aS]at this;unfold dJ;omega)
  rw[bC om]at s1;have v3:ai (h6.keep 1) h1.next a 1=some [va]:=bq (by rw[kg _ om];exact j2') s1;have ia:fe ((a:Nat):Int) n=some a:=cK ha;have d1:h8.get (h1.next+2)=some (.cells [.int .i64 (n:Nat),cv,.sl h1.next 0 n n,.sl (h1.next+1) 0 n n] 4 false):=by rw[s6.gt _ om,y7 _ om];exact j1'
  have d2:h8.get h1.next=some (.cells os 1 false):=by rw[s6.gt _ om,y7 _ om];exact j2'
  have d3:h8.get (h1.next+1)=some (.cells is 1 false):=by rw[s6.gt _ om,y7 _ om];exact j3'
  have d5:h8.get h5.next=some (.cells [.int .i64 (a:Nat),.int .i64 (b:Nat)] 2 false):=by rw[(s8 _ om (λj b n q=>by have:=j6.lt q;omega)).1,y7 _ om];exact g6
  have f1:ai h8 (h1.next+2) 2 1=some [.sl h1.next 0 n n]:=by rw[aR d1];rfl
  have f2:ai h8 h5.next 0 1=some [.int .i64 (a:Nat)]:=by rw[aR d5];rfl
  have f3:=ew (v:=va') d2 (show a<os.length by omega);have u9:=Oi (o:=.cells (os.set a va') 1 false) d2;refine ae (lY (by simp only[am,aL,simprocAttr,e3,v1,v2,v3,eA,dR q7,ia,aP,s2,s3,s4,f1,f2,f3]<;>rfl) ?_);generalize h8.put h1.next (.cells (os.set a va') 1 false)=h9 at *
  have n9:=u9.nx;have hR9:Rw h9 h4.next (os.set a va'++is) ((mg n (es.take k)).set a (dJ (es.take k) a++[((k:Nat):Int)])):=by
   rw[<-zA _ _ om];exact s5.cong λc hc _=>u9.ne om
  have l9:∀(j b n:Nat),(os.set a va'++is)[j]?=some (AV.sl b 0 n n)->b≠h5.next:=λj b n' q=>by
   rw[<-zA _ _ om]at q;exact(s8 _ om (λj b n q=>by have:=j6.lt q;omega)).2 j b n' q
  have l6:∀(j b n:Nat),(os.set a va'++is)[j]?=some (AV.sl b 0 n n)->b<h9.next:=λj b n' q=>(hR9.lt q).1;obtain⟨X7,P7,N7,Y7⟩:=fO (h:=h9) (o:=.cells [.int .i64 (k:Nat)] 1 false);have kg2:∀c,c<h9.next->(h9.keep 1).get c=h9.get c:=λc hc=>by rw[AH.keep_get,if_neg om]
  have Q7:(h9.keep 1).get h9.next=some .resv:=ff;have J1:h9.get (h1.next+2)=some (.cells [.int .i64 (n:Nat),cv,.sl h1.next 0 n n,.sl (h1.next+1) 0 n n] 4 false):=by rw[u9.ne om];exact d1
  have J3:h9.get (h1.next+1)=some (.cells is 1 false):=by rw[u9.ne om];exact d3
  have J5:h9.get h5.next=some (.cells [.int .i64 (a:Nat),.int .i64 (b:Nat)] 2 false):=by rw[u9.ne om];exact d5
  have V1:ai (h9.keep 1) (h1.next+2) 3 1=some [.sl (h1.next+1) 0 n n]:=by rw[aR (by rw[kg2 _ om];exact J1)];rfl
  have V2:ai (h9.keep 1) h5.next 1 1=some [.int .i64 (b:Nat)]:=by rw[aR (by rw[kg2 _ om];exact J5)];rfl
  have HR:Rw ((h9.keep 1).put h9.next (.cells [.int .i64 (k:Nat)] 1 false)) h4.next (os.set a va'++is) ((mg n (es.take k)).set a (dJ (es.take k) a++[((k:Nat):Int)])):=hR9.cong λc hc hcn=>Y7 _ om
  obtain⟨vb,vb',H8,S1,S2,S3,S4,S5,S6,S7,S8⟩:=HR.push (i:=n+b) (x:=h9.next) (k:=(k:Nat)) (xs:=dr (es.take k) b) (by rw[dq om];exact Aa hb) om P7 om (λj b n q=>by have:=l6 j b n q;omega)
   (by have:=fG (λe=>decide (e.2=((b:Nat):Int))) (es.take k) 0;rw[aS]at this;unfold dr;omega)
  have hol:(os.set a va').length=n:=by rw[cx,j4]
  rw[bw om,hol,eO]at S1;rw[wm _ _ om,hol,eO,Fe hk ha hb eab]at S5;have V3:ai (h9.keep 1) (h1.next+1) b 1=some [vb]:=bq (by rw[kg2 _ om];exact J3) S1;have ib:fe ((b:Nat):Int) n=some b:=cK hb;have D1:H8.get (h1.next+2)=some (.cells [.int .i64 (n:Nat),cv,.sl h1.next 0 n n,.sl (h1.next+1) 0 n n] 4 false):=by rw[S6.gt _ om,Y7 _ om];exact J1
  have D2:H8.get h1.next=some (.cells (os.set a va') 1 false):=by rw[S6.gt _ om,Y7 _ om];exact u9.get
  have D3:H8.get (h1.next+1)=some (.cells is 1 false):=by rw[S6.gt _ om,Y7 _ om];exact J3
  have D5:H8.get h5.next=some (.cells [.int .i64 (a:Nat),.int .i64 (b:Nat)] 2 false):=by rw[(S8 _ om l9).1,Y7 _ om];exact J5
  have F1:ai H8 (h1.next+2) 3 1=some [.sl (h1.next+1) 0 n n]:=by rw[aR D1];rfl
  have F2:ai H8 h5.next 1 1=some [.int .i64 (b:Nat)]:=by rw[aR D5];rfl
  have F3:=ew (v:=vb') D3 (show b<is.length by omega);have U9:=Oi (o:=.cells (is.set b vb') 1 false) D3;refine lY (by simp only[am,aL,simprocAttr,e3,V1,V2,V3,eA,dR Q7,ib,aP,S2,S3,S4,F1,F2,F3]<;>rfl) ?_;generalize H8.put (h1.next+1) (.cells (is.set b vb') 1 false)=H9 at *
  have N9:=U9.nx;refine⟨(os.set a va',is.set b vb'),⟨by rw[U9.ne om];exact D1,by rw[U9.ne om];exact D2,U9.get,hol,by rw[cx,j5],S5.cong λc hc _=>U9.ne om,?_,?_,om⟩,H4 ei en e3 e27⟩
  .exact j7.trans ((x6.mono om).trans ((x7.mono om).trans ((s6.mono om).trans ((u9.ext (ab _)).trans ((X7.mono om).trans ((S6.mono om).trans (U9.ext om)))))))
  .refine j8.cong λb n e hb=>?_;have:=c4.lt e;rw[U9.ne om,S6.gt _ om,Y7 _ om,u9.ne om,s6.gt _ om,y7 _ om,x6.gt _ om]
 .rintro⟨os,is⟩ ts h5 ⟨j1,j2,j3,j4,j5,j6,j7,j8,j9⟩ ⟨e3,e27,-⟩;simp only at e3 e27 j2 j3 j4 j5 j6;rw[bt]at j6;refine ae (ak (M1 e3) ?_);have hx:Ext h.next h h5:=x0.trans ((x1.mono om).trans (j7.mono om));refine bu ⟨.ptr (h1.next+2) 0,(by simp only[rs,rf20,am,aL,simprocAttr]<;>rfl),⟨h1.next+2,cv,os,is,h1.next,h1.next+1,rfl,j1,Ob om (λ_=>rfl) j8,j2,j3,j4,j5,λx v q=>?_,λx v q=>?_,m1,m2,m3,m4⟩,hx⟩
  .have hxn:x<n:=by rw[<-j4];exact(au.1 q).1
   exact Ob om (λ_=>rfl) (j6.2.1 x v _ (by rw[bC om];exact q) (wL hxn))
  .have hxn:x<n:=by rw[<-j5];exact(au.1 q).1
   exact Ob om (λ_=>rfl) (j6.2.1 (n+x) v _ (by rw[bw om,j4,eO];exact q) (Aa hxn))
def pm{p:Int×Int->Bool}:∀(es:List (Int×Int)) (i:Nat),(∀e∈es,p e=false)->dB p es i=[]
 |[],_,_=>rfl
 |e::r,i,h=>by
   simp only[dB,h e (by simp),bT,if_false];exact pm r (i+1) λe' he=>h e' (by simp[he])
def lM{n:Int}(h:okE n e=true):0<=e.1/\e.1<n/\0<=e.2/\e.2<n:=by
 simp only[okE,aU,aK]at h;omega
def Fv{n:Int}(he:es.all (okE n)=true)(hx:¬(0<=x/\x<n)):dJ es x=[] :=
 pm es 0 λe h=>by
  have:=lM (bK.1 he e h);simp only[ce];omega
def IP{n:Int}(he:es.all (okE n)=true)(hx:¬(0<=x/\x<n)):dr es x=[] :=
 pm es 0 λe h=>by
  have:=lM (bK.1 he e h);simp only[ce];omega
def zL{ob:Nat}{ls:List AV}{rest:List AV}{f:Int->List Int}(hb:h.get b=some (.cells (.int .i64 (n:Nat)::rest) 4 false))(ho:h.get ob=some (.cells ls 1 false))(hl:ls.length=n)(hn:n<=64)
 (hr:∀(y:Nat) (v:AV),ls[y]?=some v->SlI h v (f y)) (hs:∀y,(f y).length<2^30) (h0:¬(0<=x/\x<n)->f x=[]) :
 C prg 106 [.ptr b 0,.sl ob 0 n n,.int .i64 x] h λr h'=>IsSl h' 1 h.next r ((f x).flatMap eI)/\Ext h.next h h':=by
 refine Oj rfl ?_;refine ae (ak (Mi0) ?_);have rn:ai h b 0 1=some [.int .i64 (n:Nat)]:=bq hb rfl;by_cases q1:x<0
 .have c1:decide (x<0)=true:=aH q1;refine ae (ae (ak (Mi1 c1) ?_));refine cZ (Z0) (ae (ak (M0) ?_));exact bu ⟨.nils,(by simp only[rs,rf106,am,aL,simprocAttr]<;>rfl),.inl ⟨rfl,by rw[h0 om];rfl⟩,Oh⟩
 have c1:decide (x<0)=false:=aw q1;by_cases q2:((n:Nat):Int)<=x
 .have c2:decide (((n:Nat):Int)<=x)=true:=aH q2;refine ae (ae (ak (Mi3 c1 c2 rn) ?_));refine cZ (Z0) (ae (ak (M0) ?_));exact bu ⟨.nils,(by simp only[rs,rf106,am,aL,simprocAttr]<;>rfl),.inl ⟨rfl,by rw[h0 om];rfl⟩,Oh⟩
 have c2:decide (((n:Nat):Int)<=x)=false:=aw q2;refine ae (ae (ak (Mi3 c1 c2 rn) ?_));refine dC (Z0) (bz ?_);obtain⟨y,rfl⟩:∃y:Nat,x=y:=⟨x.toNat,om⟩
 have hy:y<ls.length:=om;have ix:fe ((y:Nat):Int) n=some y:=cK om;have hv:=hr y _ (aj hy);have rv:=bq ho (aj hy);refine ae (bM (bj 4 (Mi3 ix @aP rv) rfl (Zi3 ix @aP rv) (Mi3 ix @aP rv) (Gi hv (Nat.lt_trans (hs y) (by decide))) λr h2 hq=>?_));refine bI (M0) ?_;exact bu ⟨r,(by simp only[rs,rf106,am,aL,simprocAttr]<;>rfl),hq.1,hq.2.1⟩
def DN(hv:IsView h vp n es):C prg 66 [vp,.int .i64 x] h λr h'=>IsSl h' 1 h.next r ((dJ es x).flatMap eI)/\Ext h.next h h':=by
 obtain⟨b,ev,os,is,ob,ib,rfl,g1,g2,g3,g4,g5,g6,g7,g8,m1,m2,m3,m4⟩:=hv;refine Oj rfl ?_;have r1:ai h b 2 1=some [.sl ob 0 n n]:=bq g1 rfl;refine ae (ak (Mi0) ?_);refine ae (bM (bj 6 (Mi1 r1) rfl (Zi1 r1) (Mi1 r1) (zL (f:=dJ es) (x:=x) g1 g3 g5 m2 (λy v q=>g7 y v q) (λy=>Nat.lt_of_le_of_lt (fG _ _ _) om) (Fv m4)) λr h2 hq=>?_));refine bI (M0) ?_;exact bu ⟨r,(by simp only[rs,rf66,am,aL,simprocAttr]<;>rfl),hq⟩
def LX(hv:IsView h vp n es):C prg 95 [vp,.int .i64 x] h λr h'=>IsSl h' 1 h.next r ((dr es x).flatMap eI)/\Ext h.next h h':=by
 obtain⟨b,ev,os,is,ob,ib,rfl,g1,g2,g3,g4,g5,g6,g7,g8,m1,m2,m3,m4⟩:=hv;refine Oj rfl ?_;have r1:ai h b 3 1=some [.sl ib 0 n n]:=bq g1 rfl;refine ae (ak (Mi0) ?_);refine ae (bM (bj 6 (Mi1 r1) rfl (Zi1 r1) (Mi1 r1) (zL (f:=dr es) (x:=x) g1 g4 g6 m2 (λy v q=>g8 y v q) (λy=>Nat.lt_of_le_of_lt (fG _ _ _) om) (IP m4)) λr h2 hq=>?_));refine bI (M0) ?_;exact bu ⟨r,(by simp only[rs,rf95,am,aL,simprocAttr]<;>rfl),hq⟩
open Go.Am
def tS(es:List (Int×Int))(out:List Int)(v:Int):Nat:=es.countP λe=>decide (e.2=v)&&!out.contains e.1
def hsM(es:List (Int×Int))(x:Int):List Int:=(es.filter λe=>decide (e.1=x)).map (·.2)
def yZ(w:List Int)(b:Int):List Int:=w.set b.toNat (w.getD b.toNat 0-1)
def nP(hs:List Int)(w:List Int):List Int:=hs.foldl yZ w
def Bo(w:List Int)(b:Int):(yZ w b).length=w.length:=by simp[yZ]
def vH:∀(hs w:List Int),(nP hs w).length=w.length
 |[],_=>rfl
 |b::r,w=>by
   show(nP r (yZ w b)).length=_;rw[vH r,Bo]
def rS{w:List Int}(hi:i<w.length):(w.set i x).getD j 0=if i=j then x else w.getD j 0:=by
 rw[aA,cU,aA];by_cases e:i=j
 .subst e;simp[hi]
 .simp[e]
def vI:∀(hs w:List Int) (v:Nat),(∀b∈hs,0<=b/\b.toNat<w.length)->(nP hs w).getD v 0=w.getD v 0-(hs.count ((v:Nat):Int):Nat)
 |[],w,v,_=>by simp[nP]
 |b::r,w,v,h=>by
   obtain⟨h1,h2⟩:=h b (by simp);show(nP r (yZ w b)).getD v 0=_;rw[vI r (yZ w b) v (λc hc=>by rw[Bo];exact h c (by simp[hc])),yZ,rS h2,px];by_cases e:b.toNat=v
   .have:b=((v:Nat):Int):=om;subst this;simp;omega
   .have:¬b=((v:Nat):Int):=om;simp[e,this]
structure Kahn(n:Nat)(es:List (Int×Int))(out ws:List Int):Prop where
 len:ws.length=n
 nd:out.Nodup
 rng:∀v∈out,0<=v/\v<n
 neg:∀v:Nat,v<n->((v:Nat):Int)∈out->ws.getD v 0<0
 cnt:∀v:Nat,v<n->¬((v:Nat):Int)∈out->ws.getD v 0=(tS es out v:Nat)
 ord:∀p v q,out=p++v::q->∀e∈es,e.2=v->e.1∈p
 lo:∀v:Nat,v<n->-(200*(out.length:Nat):Int)<=ws.getD v 0
def IV(es:List (Int×Int))(x v:Int):(hsM es x).count v=es.countP λe=>decide (e.2=v)&&decide (e.1=x):=by
 unfold hsM;rw[List.count_eq_countP,List.countP_map,List.countP_filter];congr 1
def JF{v:Int}(hx:¬x∈out):tS es (out++[x]) v+(hsM es x).count v=tS es out v:=by
 rw[IV];unfold tS;induction es with
 |nil=>rfl
 |cons e r ih =>
   simp only[dL];by_cases h1:e.2=v
   .by_cases h2:e.1=x
    .have h3:¬e.1∈out:=by rw[h2];exact hx
     simp[h1,h2,hx]at ih |-;omega
    .by_cases h3:e.1∈out
     .simp[h1,h2,h3]at ih |-;omega
     .simp[h1,h2,h3]at ih |-;omega
   .simp[h1]at ih |-;omega
def IU(he:es.all (okE n)=true){b:Int}(hb:b∈hsM es x):0<=b/\b<n:=by
 unfold hsM at hb;obtain⟨e,h1,rfl⟩:=bp.1 hb;have:=lM (bK.1 he e (bB.1 h1).1);omega
def Kahn.step(k:Kahn n es out ws)(he:es.all (okE n)=true)(hl:es.length<=128){x:Nat}(hx:x<n)(h0:ws.getD x 0=0) :
 Kahn n es (out++[((x:Nat):Int)]) (nP (hsM es x) (ws.set x (-1))):=by
 have hno:¬((x:Nat):Int)∈out:=λh=>by have:=k.neg x hx h;omega
 have hxl:x<ws.length:=by rw[k.len];exact hx
 have hmem:∀b∈hsM es ((x:Nat):Int),0<=b/\b.toNat<(ws.set x (-1)).length:=λb hb=>by
  have:=IU he hb;rw[cx,k.len];omega
 have hg:∀v:Nat,(nP (hsM es x) (ws.set x (-1))).getD v 0=(if x=v then -1 else ws.getD v 0)-((hsM es x).count ((v:Nat):Int):Nat):=λv=>by
  rw[vI _ _ v hmem,rS hxl]
 have hc0:tS es out ((x:Nat):Int)=0:=by have:=k.cnt x hx hno;omega
 refine⟨by rw[vH,cx,k.len],?_,?_,?_,?_,?_,?_⟩
 .rw[bQ];refine⟨k.nd,by simp,λa ha b hb=>?_⟩;simp only[aF,bA,or_false]at hb;subst hb;exact λe=>hno (e▸ha)
 .intro v hv;rw[aZ]at hv;rcases hv with hv|hv
  .exact k.rng v hv
  .simp only[aF,bA,or_false]at hv;subst hv;omega
 .intro v hv hm;rw[hg];rw[aZ]at hm;by_cases e:x=v
  .rw[if_pos e];omega
  .rw[if_neg e];have:((v:Nat):Int)∈out:=by
    rcases hm with hm|hm
    .exact hm
    .simp only[aF,bA,or_false]at hm;omega
   have:=k.neg v hv this;omega
 .intro v hv hm;rw[aZ,not_or]at hm;have e:¬x=v:=λe=>hm.2 (by subst e;simp);rw[hg,if_neg e,k.cnt v hv hm.1];have:=JF (es:=es) (v:=((v:Nat):Int)) hno;omega
 .intro p v q hq e hee hev;by_cases hqn:q=[]
  .subst hqn;obtain⟨rfl,h2⟩:=List.append_inj' hq rfl;simp only[cy,and_true]at h2;subst h2;by_cases hm:e.1∈out
   .exact hm
   .exfalso;unfold tS at hc0;rw[kX]at hc0;exact hc0 e hee (by simp[hev,hm])
  .have h1:out=p++v::q.dropLast:=by
    have h3:q=q.dropLast++[q.getLast hqn]:=(List.dropLast_concat_getLast hqn).symm;rw[h3,<-bX,<-bL]at hq;exact(List.append_inj' hq rfl).1
   exact k.ord p v _ h1 e hee hev
 .intro v hv;rw[hg,aJ];have h1:=k.lo v hv;have h2:(hsM es ((x:Nat):Int)).count ((v:Nat):Int)<=128:=by
   refine cu zD ?_;unfold hsM;rw[ah];exact cu (cX _ _) hl
  simp only[bd,bm];split
  .omega
  .omega
def rT(p:Int×Int->Bool):∀(es:List (Int×Int)) (i:Nat),(dB p es i).length=es.countP p
 |[],_=>rfl
 |e::r,i=>by
   have:=rT p r (i+1);rw[dL];simp only[dB];cases p e
   .simpa using this
   .simpa using this
def Kahn.start:Kahn n es [] ((List.range n).map λx=>(((dr es ((x:Nat):Int)).length:Nat):Int)):=by
 refine⟨by simp,by simp,by simp,by simp,λv hv _=>?_,λp v q h=>by simp at h,λv hv=>?_⟩
 .rw[aA,aV,da hv];simp only[aQ,cL];unfold dr tS;rw[rT];simp
 .rw[aA,aV,da hv];simp
def qH(p:Int×Int->Bool):∀(es pre:List (Int×Int)),(dB p es pre.length).map (λi=>((pre++es)[i.toNat]?).getD (0,0))=es.filter p
 |[],pre=>by simp[dB]
 |e::r,pre=>by
   have ih:=qH p r (pre++[e]);rw[aJ,bd,bm,bN,bL,bX,cr]at ih;simp only[dB,fx];split
   .rw[bO,ih];congr 1;rw[aO,bw (ab _),dV];rfl
   .exact ih
def gX(p:Int×Int->Bool):∀(es:List (Int×Int)) (i:Nat) (x:Int),x∈dB p es i->∃j:Nat,x=((i+j:Nat):Int)/\j<es.length/\∃e,es[j]?=some e/\p e=true
 |[],i,x,h=>by simp[dB]at h
 |e::r,i,x,h=>by
   have key:x∈dB p r (i+1)->∃j:Nat,x=((i+j:Nat):Int)/\j<(e::r).length/\∃e',(e::r)[j]?=some e'/\p e'=true:=λh=>by
    obtain⟨j,h1,h2,e',h3,h4⟩:=gX p r (i+1) x h;exact⟨j+1,by rw[h1];congr 1;omega,by simp only[bd];omega,e',by simpa using h3,h4⟩
   simp only[dB]at h;split at h
   .rename_i hp
    rw[aF]at h;rcases h with rfl|h
    .exact⟨0,rfl,by simp,e,rfl,hp⟩
    .exact key h
   .exact key h
def uL(es:List (Int×Int))(x:Int):(dJ es x).map (λi=>((es[i.toNat]?).getD (0,0)).2)=hsM es x:=by
 have:=qH (λe=>decide (e.1=x)) es [];simp only[bm,cr]at this;unfold dJ hsM;rw[<-this,de];rfl
def Acy(es:List (Int×Int)):Prop:=∃rank:Int->Nat,∀e∈es,rank e.1<rank e.2
def Kahn.acy(k:Kahn n es out ws)(he:es.all (okE n)=true)(hz:∀v:Nat,v<n->ws.getD v 0≠0) :
 (∀v:Nat,v<n->ws.getD v 0<=0)↔Acy es:=by
 constructor
 .intro h;have hall:∀x:Int,0<=x->x<n->x∈out:=λx h1 h2=>by
   refine Classical.byContradiction λhm=>?_;have e:x=((x.toNat:Nat):Int):=om;rw[e]at hm;have h3:=k.cnt x.toNat om hm;have h4:=h x.toNat om;have h5:=hz x.toNat om;omega
  refine⟨λx=>out.idxOf x,λe hee=>?_⟩;have ho:=lM (bK.1 he e hee);have hm:=hall e.2 om om;obtain⟨p,q,hpq⟩:=qT hm;have hp:=k.ord p e.2 q hpq e hee rfl;have hn:¬e.2∈p:=λh=>by
   have:=k.nd;rw[hpq,bQ]at this;exact this.2.2 _ h _ (by simp) rfl
  show out.idxOf e.1<out.idxOf e.2;rw[hpq,GG,GG,if_pos hp,if_neg hn];have:=List.idxOf_lt_length_of_mem hp;omega
 .rintro⟨rank,hr⟩ v hv;have key:∀N,∀v:Nat,v<n->rank v<N->((v:Nat):Int)∈out:=by
   intro N;induction N with
   |zero=>intro v _ h;omega
   |succ N ih =>
     intro v hv hN;refine Classical.byContradiction λhm=>?_;have h1:=k.cnt v hv hm;have h2:=hz v hv;have h3:0<tS es out ((v:Nat):Int):=om;unfold tS at h3;rw[kV]at h3;obtain⟨e,hee,h4⟩:=h3;simp only[aU,aK,dZ,fy,ce]at h4;have h5:=hr e hee;rw[h4.1]at h5;have ho:=lM (bK.1 he e hee);have e1:e.1=((e.1.toNat:Nat):Int):=om;refine h4.2 ?_;rw[e1];exact ih e.1.toNat om (by rw[<-e1];omega)
  have:=k.neg v hv (key (rank v+1) v hv om);omega
def Kahn.back(k:Kahn n es out ws)(he:es.all (okE n)=true)(hz:∀v:Nat,v<n->ws.getD v 0≠0){v:Nat}(hv:v<n)(hp:0<ws.getD v 0) :
 ∃e∈es,e.2=((v:Nat):Int)/\0<ws.getD e.1.toNat 0:=by
 have hm:¬((v:Nat):Int)∈out:=λh=>by have:=k.neg v hv h;omega
 have h1:=k.cnt v hv hm;have h3:0<tS es out ((v:Nat):Int):=om;unfold tS at h3;rw[kV]at h3;obtain⟨e,hee,h4⟩:=h3;simp only[aU,aK,dZ,fy,ce]at h4;have ho:=lM (bK.1 he e hee);have e1:e.1=((e.1.toNat:Nat):Int):=om;refine⟨e,hee,h4.1,?_⟩;have h5:=k.cnt e.1.toNat om (by rw[<-e1];exact h4.2);have h6:=hz e.1.toNat om;omega
end Go.Proofs.YtklpoimdclflmaaGreatDoor
