/- graph.Of; there, Outs, Ins. -/
import Derived.Test.YtmibmlioidpogaaGreatDoorVTAD
set_option linter.all false
namespace Go.Proofs.YtmibmlioidpogaaGreatDoor
open Go.Am
variable {b i j lo n:Nat}{e:Int×Int}{es:List (Int×Int)}{h:AH}{out ws:List Int}{vp:AV}{vs:List AV}{x:Int}{xss:List (List Int)}
def dX(p:Int×Int->Bool):List (Int×Int)->Nat->List Int
 |[],_=>[]
 |e::r,i=>if p e then((i:Nat):Int)::dX p r (i+1)else dX p r (i+1)
theorem sX(p:Int×Int->Bool):∀(a b:List (Int×Int)) (i:Nat),dX p (a++b) i=dX p a i++dX p b (i+a.length)
 |[],b,i=>by simp[dX]
 |e::r,b,i=>by
   have:=sX p r b (i+1);simp only[aB,dX,aq];rw[this,show i+1+r.length=i+(r.length+1) by omega];split<;>simp
theorem gq(p:Int×Int->Bool):∀(a:List (Int×Int)) (i:Nat),(dX p a i).length<=a.length
 |[],i=>by simp[dX]
 |e::r,i=>by
   have:=gq p r (i+1);simp only[dX,aq];split
   .simp only[aq];omega
   .omega
theorem qN(p:Int×Int->Bool){k:Nat}(hk:k<es.length):dX p (es.take (k+1)) 0=if p es[k]then dX p (es.take k) 0++[((k:Nat):Int)]else dX p (es.take k) 0:=by
 rw[be hk,sX,bB,dZ om,bL];simp only[dX];split<;>simp
def eY(es:List (Int×Int))(x:Int):List Int:=dX (λe=>decide (e.1=x)) es 0
def eD(es:List (Int×Int))(x:Int):List Int:=dX (λe=>decide (e.2=x)) es 0
def Rw(h:AH)(lo:Nat)(vs:List AV)(xss:List (List Int)):Prop :=
 vs.length=xss.length/\(∀(i:Nat) (v:AV) (xs:List Int),vs[i]?=some v->xss[i]?=some xs->IsSl h 1 lo v (xs.flatMap eI))/\∀(i j b n b' n':Nat),i≠j->vs[i]?=some (AV.sl b 0 n n)->vs[j]?=some (AV.sl b' 0 n' n')->b≠b'
theorem Rw.cong{h h':AH}{lo:Nat}{vs:List AV}{xss:List (List Int)}(hr:Rw h lo vs xss)(hk:∀c,lo<=c->c<h.next->h'.get c=h.get c):Rw h' lo vs xss :=
 ⟨hr.1,λi v xs h1 h2=>(hr.2.1 i v xs h1 h2).cong λb n e hb=>hk b hb ((hr.2.1 i v xs h1 h2).lt e),hr.2.2⟩
theorem Rw.lt(hr:Rw h lo vs xss)(hj:vs[j]?=some (AV.sl b 0 n n)):b<h.next/\lo<=b:=by
 have hjl:j<vs.length:=(aG.1 hj).1;have:=hr.2.1 j _ (xss[j]'(by rw[<-hr.1];exact hjl)) hj (ai _);rcases this with⟨q,_⟩|⟨b',n',q1,q2,q3,_⟩
 .cases q
 .cases q2;exact⟨AH.lt_of_get q3,q1⟩
theorem Rw.push(hr:Rw h lo vs xss){x:Nat}{k:Int}{xs:List Int}(hi:xss[i]?=some xs)(hlo:lo<=h.next)(hx:h.get x=some (.cells [.int .i64 k] 1 false))(hxl:lo<=x)(hxn:∀(j b n:Nat),vs[j]?=some (AV.sl b 0 n n)->b≠x)(hl:xs.length<2^30) :
 ∃v v' h',vs[i]?=some v/\iJ h 1 8 v (.sl x 0 1 1)=some (v',h')/\v'.cells=[v']/\v'.one=true/\Rw h' lo (vs.set i v') (xss.set i (xs++[k]))/\Ext lo h h'/\h'.next=h.next+1/\∀c,c<h.next->(∀(j b n:Nat),vs[j]?=some (AV.sl b 0 n n)->b≠c)->h'.get c=h.get c/\∀(j b n:Nat),(vs.set i v')[j]?=some (AV.sl b 0 n n)->b≠c:=by
 obtain⟨r1,r2,r3⟩:=hr;have hil:i<xss.length:=(aG.1 hi).1;have hv:vs[i]?=some vs[i]:=ai om;have hlen:(xs.flatMap eI).length=xs.length:=by rw[fQ (f:=eI) (e:=1) (λ_=>rfl)];omega
 obtain⟨v',h',a1,a2,a3,a4,a5,a6,a7⟩:=(r2 i _ xs hv hi).app (bytes:=8) hlo om hx hxl (λb n e=>hxn i b n (by rw[hv,e])) rfl rfl (by rw[hlen];unfold bd;omega) (by rw[hlen];unfold bd;omega);obtain⟨c1,c2⟩:=a2.cells;refine⟨_,v',h',hv,a1,c1,c2,⟨by rw[cn,cn,r1],?_,?_⟩,a3,a5,λc hc hne=>⟨a6 c hc λb n e=>(hne i b n (by rw[hv,e])).symm,λj b n hj=>?_⟩⟩
 rotate_right
 .by_cases e:i=j
  .subst e;rw[cL om,aa,a4]at hj;cases hj;omega
  .rw[cG e]at hj;exact hne j b n hj
 .intro j w ys hw hy;by_cases e:i=j
  .subst e;rw[cL om,aa]at hw hy;subst hw hy;rw[dD];exact a2
  .rw[cG e]at hw hy;refine(r2 j w ys hw hy).cong λb n eb hb=>a6 b ((r2 j w ys hw hy).lt eb) λb' n' e'=>?_;exact(r3 i j b' n' b n e (by rw[hv,e']) (by rw[hw,eb])).symm
 .have hlt:∀j b n,vs[j]?=some (AV.sl b 0 n n)->b<h.next:=λj b n hj=>by
   have hjl:j<vs.length:=(aG.1 hj).1;exact(r2 j _ xss[j] hj (ai om)).lt rfl
  intro j1 j2 b n b' n' hne h1 h2;by_cases e:i=j1
  .subst e;rw[cL om,aa,a4]at h1;rw[cG hne]at h2;have:=hlt _ _ _ h2;cases h1;omega
  .rw[cG e]at h1;by_cases e2:i=j2
   .subst e2;rw[cL om,aa,a4]at h2;have:=hlt _ _ _ h1;cases h2;omega
   .rw[cG e2]at h2;exact r3 _ _ _ _ _ _ hne h1 h2
def IsView(h:AH)(vp:AV)(n:Nat)(es:List (Int×Int)):Prop:=∃(b:Nat) (ev:AV) (os is:List AV) (ob ib:Nat),vp=.ptr b 0/\h.get b=some (.cells [.int .i64 (n:Nat),ev,.sl ob 0 n n,.sl ib 0 n n] 4 false)/\SlE h ev es /\
 h.get ob=some (.cells os 1 false)/\h.get ib=some (.cells is 1 false)/\os.length=n/\is.length=n/\(∀(x:Nat) (v:AV),os[x]?=some v->SlI h v (eY es x))/\(∀(x:Nat) (v:AV),is[x]?=some v->SlI h v (eD es x))/\1<=n/\n<=64/\es.length<=128/\es.all (okE n)=true
theorem IsView.ext{h h':AH}{vp:AV}{n:Nat}{es:List (Int×Int)}(hv:IsView h vp n es)(hx:Ext h.next h h'):IsView h' vp n es:=by
 obtain⟨b,ev,os,is,ob,ib,rfl,g1,g2,g3,g4,g5,g6,g7,g8,g9⟩:=hv
 exact⟨b,ev,os,is,ob,ib,rfl,by rw[hx.gt _ (AH.lt_of_get g1)];exact g1,g2.ext hx (ab _),by rw[hx.gt _ (AH.lt_of_get g3)];exact g3,by rw[hx.gt _ (AH.lt_of_get g4)];exact g4,g5,g6,
  λx v q=>(g7 x v q).ext hx (ab _),λx v q=>(g8 x v q).ext hx (ab _),g9⟩
def kP(n:Nat)(es:List (Int×Int)):List (List Int):=(List.range n).map (λx=>eY es ((x:Nat):Int))++(List.range n).map (λx=>eD es ((x:Nat):Int))
theorem ub{x:Nat}(hx:x<n):(kP n es)[x]?=some (eY es x):=by
 unfold kP;rw[bC (by simpa using hx),aE,dp hx];rfl
theorem xO{x:Nat}(hx:x<n):(kP n es)[n+x]?=some (eD es x):=by
 unfold kP;rw[aX (by simp),ah,cN,eK,aE,dp hx];rfl
theorem nS{x:Nat}{f g:Nat->List Int}(hx:x<n)(hne:∀y,y≠x->f y=g y):((List.range n).map f).set x (g x)=(List.range n).map g:=by
 refine du λi=>?_;rw[dK];by_cases e:x=i
 .subst e;simp[hx]
 .rw[if_neg e,aE,aE];by_cases hi:i<n
  .rw[dp hi];simp only[aF];rw[hne i (Ne.symm e)]
  .rw[bO (by simpa using hi)];rfl
theorem CJ{k a:Nat}(hk:k<es.length)(ha:a<n)(hb:b<n)(he:es[k]=(((a:Nat):Int),((b:Nat):Int))) :
 ((kP n (es.take k)).set a (eY (es.take k) a++[((k:Nat):Int)])).set (n+b) (eD (es.take k) b++[((k:Nat):Int)])=kP n (es.take (k+1)):=by
 have ho:∀x:Nat,eY (es.take (k+1)) ((x:Nat):Int)=if x=a then eY (es.take k) a++[((k:Nat):Int)]else eY (es.take k) x:=λx=>by
  unfold eY;rw[qN _ hk,he];by_cases e:x=a
  .subst e;simp
  .have:¬((a:Nat):Int)=((x:Nat):Int):=om;simp[e,this]
 have hi:∀x:Nat,eD (es.take (k+1)) ((x:Nat):Int)=if x=b then eD (es.take k) b++[((k:Nat):Int)]else eD (es.take k) x:=λx=>by
  unfold eD;rw[qN _ hk,he];by_cases e:x=b
  .subst e;simp
  .have:¬((b:Nat):Int)=((x:Nat):Int):=om;simp[e,this]
 unfold kP;rw[xh _ _ (by simpa using ha),tK _ _ (by simp)];have e1:=nS (f:=λx:Nat=>eY (es.take k) ((x:Nat):Int)) (g:=λx:Nat=>eY (es.take (k+1)) ((x:Nat):Int)) ha λy hy=>by simp only[ho,if_neg hy]
 have e2:=nS (f:=λx:Nat=>eD (es.take k) ((x:Nat):Int)) (g:=λx:Nat=>eD (es.take (k+1)) ((x:Nat):Int)) hb λy hy=>by simp only[hi,if_neg hy]
 simp only[ho,if_true]at e1;simp only[hi,if_true]at e2;rw[cn,ah,cN,eK,e2,e1];simp only[ho,hi]
theorem Rw.nil(h:AH)(n:Nat):Rw h h.next (cA [.nils] n++cA [.nils] n) (kP n []):=by
 rw[gM,List.replicate_append_replicate];have e2:kP n []=List.replicate (n+n) []:=by
  refine du λi=>?_;have e3:kP n []=(List.range n++List.range n).map λ_=>[]:=by rw[dn];rfl
  rw[e3,aE,dB];by_cases hi:i<n+n
  .rw[ai (by simpa using hi),if_pos hi];rfl
  .rw[bO (by simpa using hi),if_neg hi];rfl
 rw[e2];refine⟨by rw[gA,gA],λi v xs h1 h2=>?_,λi j b n b' n' _ h1=>?_⟩
 .rw[dB]at h1 h2;split at h1
  .rw[if_pos ‹_›]at h2;simp only[aa]at h1 h2;subst h1 h2;exact .inl ⟨rfl,rfl⟩
  .cases h1
 .rw[dB]at h1;split at h1
  .cases h1
  .cases h1
theorem vS(hm:lW (n:Nat) es=true):1<=n/\n<=64/\es.length<=128/\es.all (okE n)=true:=by
 simp only[lW,aL,aI]at hm;exact⟨om,om,om,hm.2⟩
theorem rg(h:okE n e=true):∃a b:Nat,e=(((a:Nat):Int),((b:Nat):Int))/\a<n/\b<n:=by
 obtain⟨x,y⟩:=e;simp only[okE,aL,aI]at h;exact⟨x.toNat,y.toNat,by rw[zm om,zm om],om,om⟩
theorem Ao{n:Nat}{ev:AV}(he:SlE h ev es)(hm:lW (n:Nat) es=true):C prg 12 [.agg [.int .i64 (n:Nat),ev]] h λr h'=>IsView h' r n es/\Ext h.next h h':=by
 obtain⟨m1,m2,m3,m4⟩:=vS hm;obtain⟨ec,eo⟩:=he.cells;refine Me pf12 ?_;refine ae (ar (Mi0) ?_);have x0:Ext h.next h (h.new (.cells [.int .i64 (n:Nat),ev] 2 false)):=Mb (ab _);have g0:(h.new (.cells [.int .i64 (n:Nat),ev] 2 false)).get h.next=some (.cells [.int .i64 (n:Nat),ev] 2 false):=by rw[AH.get_new,if_pos rfl]
 have n0:(h.new (.cells [.int .i64 (n:Nat),ev] 2 false)).next=h.next+1:=rfl;generalize h.new (.cells [.int .i64 (n:Nat),ev] 2 false)=h0 at *
 have r0:ak h0 h.next 0 2=some [.int .i64 (n:Nat),ev]:=by rw[aU g0];rfl
 refine ae (ae (bM (aV 1 (Mi1 r0) rfl (Zi1 r0) (Mi1 r0) (rB (he.ext x0 (ab _)) om) λr h1 hq=>?_)));obtain⟨rfl,x1⟩:=hq;rw[hm];refine bF (M0) ?_;refine dQ (Z0) (bK ?_);have g1:h1.get h.next=some (.cells [.int .i64 (n:Nat),ev] 2 false):=by rw[x1.gt _ om];exact g0
 have n1:=x1.nx;have kn:(h1.keep 3).next=h1.next+3:=AH.keep_next 3 h1;have kg:∀c,(h1.keep 3).get c=if h1.next<=c/\c<h1.next+3 then some .resv else h1.get c:=λc=>AH.keep_get 3 h1
 have k1:(h1.keep 3).get h.next=some (.cells [.int .i64 (n:Nat),ev] 2 false):=by rw[kg,if_neg om];exact g1
 have ra:ak (h1.keep 3) h.next 0 2=some [.int .i64 (n:Nat),ev]:=by rw[aU k1];rfl
 have rb:ak (h1.keep 3) h.next 0 1=some [.int .i64 (n:Nat)]:=by rw[aU k1];rfl
 have q0:(h1.keep 3).get h1.next=some .resv:=by rw[kg,if_pos ⟨om,om⟩]
 have mv:=mP (z:=[.nils]) (bytes:=24) (n:=n) (by unfold bd;omega) (by unfold bd;omega);have q1:((h1.keep 3).put h1.next (.cells (cA [.nils] n) 1 false)).get (h1.next+1)=some .resv:=by rw[AH.get_put _ _ _ _ om,if_neg om,kg,if_pos ⟨om,om⟩]
 have q2:(((h1.keep 3).put h1.next (.cells (cA [.nils] n) 1 false)).put (h1.next+1) (.cells (cA [.nils] n) 1 false)).get (h1.next+2)=some .resv:=by
  rw[AH.get_put _ _ _ _ (by rw[AH.next_put];omega),if_neg om,AH.get_put _ _ _ _ om,if_neg om,kg,if_pos ⟨om,om⟩]
 have bx:=px (k:=4) (cs:=[.int .i64 (n:Nat),ev,.sl h1.next 0 n n,.sl (h1.next+1) 0 n n]) rfl
 refine ae (xe (λts h2=>h2=(((h1.keep 3).put h1.next (.cells (cA [.nils] n) 1 false)).put (h1.next+1) (.cells (cA [.nils] n) 1 false)).put (h1.next+2) (.cells [.int .i64 (n:Nat),ev,.sl h1.next 0 n n,.sl (h1.next+1) 0 n n] 4 false)/\bz ts 1=.ptr h.next 0/\bz ts 3=.ptr (h1.next+2) 0)
  (by simp only[am,aD,simprocAttr,bE,ra,rb,dS,ju q0,ju q1,pY q2,mv,bx,ec,eo,jO]) ?_)
 rintro ts h2 ⟨hh2,t1,t3⟩;have n2:h2.next=h1.next+3:=by rw[hh2];simp only[AH.next_put];omega
 have gg:∀c,h2.get c=if h1.next+2=c then some (.cells [.int .i64 (n:Nat),ev,.sl h1.next 0 n n,.sl (h1.next+1) 0 n n] 4 false)else if h1.next+1=c then some (.cells (cA [.nils] n) 1 false)else if h1.next=c then some (.cells (cA [.nils] n) 1 false)else(h1.keep 3).get c:=λc=>by
  rw[hh2,AH.get_put _ _ _ _ (by simp only[AH.next_put];omega),AH.get_put _ _ _ _ (by simp only[AH.next_put];omega),AH.get_put _ _ _ _ om]
 have x2:Ext h1.next h1 h2:=⟨om,λc hc=>by rw[gg,if_neg om,if_neg om,if_neg om,kg,if_neg om],λc hc=>by rw[hh2];exact LZ 3 h1⟩
 clear q0 q1 q2 mv bx ra rb k1 kg kn hh2;have g2:h2.get h.next=some (.cells [.int .i64 (n:Nat),ev] 2 false):=by rw[x2.gt _ om];exact g1
 have gv:h2.get (h1.next+2)=some (.cells [.int .i64 (n:Nat),ev,.sl h1.next 0 n n,.sl (h1.next+1) 0 n n] 4 false):=by rw[gg,if_pos rfl]
 have go:h2.get h1.next=some (.cells (cA [.nils] n) 1 false):=by rw[gg,if_neg om,if_neg om,if_pos rfl]
 have gi:h2.get (h1.next+1)=some (.cells (cA [.nils] n) 1 false):=by rw[gg,if_neg om,if_pos rfl]
 clear gg;have r2:ak h2 h.next 1 1=some [ev]:=by rw[aU g2];rfl
 have he2:SlE h2 ev es:=((he.ext x0 (ab _)).ext x1 (ab _)).ext x2 (ab _);refine ae (bM (aV 3 (M2 t1 r2) rfl (Z2 t1 r2) (M2 t1 r2) (DL he2 om) λcv h3 hq=>?_));obtain⟨c1,x3,_⟩:=hq;have n3:=x3.nx;have gv3:h3.get (h1.next+2)=some (.cells [.int .i64 (n:Nat),ev,.sl h1.next 0 n n,.sl (h1.next+1) 0 n n] 4 false):=by rw[x3.gt _ om];exact gv
 have w3:bV h3 (h1.next+2) 1 [cv]=some (h3.put (h1.next+2) (.cells [.int .i64 (n:Nat),cv,.sl h1.next 0 n n,.sl (h1.next+1) 0 n n] 4 false)):=by rw[eL gv3];rfl
 obtain⟨cc,co⟩:=c1.cells;refine bF (M4 t3 cc co w3) ?_;have u4:=Md (o:=.cells [.int .i64 (n:Nat),cv,.sl h1.next 0 n n,.sl (h1.next+1) 0 n n] 4 false) gv3;generalize h3.put (h1.next+2) (.cells [.int .i64 (n:Nat),cv,.sl h1.next 0 n n,.sl (h1.next+1) 0 n n] 4 false)=h4 at *
 have n4:=u4.nx;have c4:=c1.upd u4 om;have gv4:=u4.get;have go4:h4.get h1.next=some (.cells (cA [.nils] n) 1 false):=by rw[u4.ne om,x3.gt _ om];exact go
 have gi4:h4.get (h1.next+1)=some (.cells (cA [.nils] n) 1 false):=by rw[u4.ne om,x3.gt _ om];exact gi
 have g4:h4.get h.next=some (.cells [.int .i64 (n:Nat),ev] 2 false):=by rw[u4.ne om,x3.gt _ om];exact g2
 have x4:Ext h1.next h1 h4:=x2.trans ((x3.mono om).trans (u4.ext om));have r4:ak h4 h.next 1 1=some [ev]:=by rw[aU g4];rfl
 have he4:SlE h4 ev es:=((he.ext x0 (ab _)).ext x1 (ab _)).ext x4 (ab _);clear gv3 w3 u4 c1 go gi gv g2 r2 he2;have hlen:=he.len;rw[ah]at hlen;have rl:(cA [AV.nils] n).length=n:=by rw[gM,gA]
 refine ae (ae (ar (M4 t1 t3 r4 hlen) ?_))
 refine fj (α:=List AV×List AV) (N:=es.length) (λ_ _=>[(3,.ptr (h1.next+2) 0),(27,ev)])
  (λk a h'=>h'.get (h1.next+2)=some (.cells [.int .i64 (n:Nat),cv,.sl h1.next 0 n n,.sl (h1.next+1) 0 n n] 4 false)/\h'.get h1.next=some (.cells a.1 1 false)/\h'.get (h1.next+1)=some (.cells a.2 1 false)/\a.1.length=n/\a.2.length=n/\Rw h' h4.next (a.1++a.2) (kP n (es.take k))/\Ext h1.next h1 h'/\IsSl h' 2 h2.next cv (es.flatMap eE)/\h4.next<=h'.next)
  (cA [.nils] n,cA [.nils] n) (λ_ _=>rfl) om (H1 t3) ⟨gv4,go4,gi4,rl,rl,Rw.nil h4 n,x4,c4,ab _⟩ ?_ ?_
 .rintro k ⟨os,is⟩ ts h5 hk ⟨j1,j2,j3,j4,j5,j6,j7,j8,j9⟩ ⟨ei,en,e3,e27,-⟩;simp only at ei en e3 e27 j2 j3 j4 j5 j6;obtain⟨a,b,eab,ha,hb⟩:=rg (cD.1 m4 _ (aZ hk));obtain⟨b1,p1,a1,r1,_⟩:=(((he.ext x0 (ab _)).ext x1 (ab _)).ext j7 (ab _)).at (eJ (f:=eE) hk);rw[eab]at r1;obtain⟨h6,w6,x6,g6,n6⟩:=iB (h:=h5) (z:=[.int .i64 0,.int .i64 0]) (cs:=[.int .i64 (a:Nat),.int .i64 (b:Nat)]) (e:=2) rfl;refine ae (ar (by simp only[am,aD,simprocAttr,e3,e27,ei,a1,r1,eE,w6]<;>rfl) ?_);obtain⟨x7,p7,n7,y7⟩:=jm (h:=h6) (o:=.cells [.int .i64 (k:Nat)] 1 false);have kg:∀c,c<h6.next->(h6.keep 1).get c=h6.get c:=λc hc=>by rw[AH.keep_get,if_neg om]
  have q7:(h6.keep 1).get h6.next=some .resv:=fZ;have j1':h6.get (h1.next+2)=some (.cells [.int .i64 (n:Nat),cv,.sl h1.next 0 n n,.sl (h1.next+1) 0 n n] 4 false):=by rw[x6.gt _ om];exact j1
  have j2':h6.get h1.next=some (.cells os 1 false):=by rw[x6.gt _ om];exact j2
  have j3':h6.get (h1.next+1)=some (.cells is 1 false):=by rw[x6.gt _ om];exact j3
  have v1:ak (h6.keep 1) (h1.next+2) 2 1=some [.sl h1.next 0 n n]:=by rw[aU (by rw[kg _ om];exact j1')];rfl
  have v2:ak (h6.keep 1) h5.next 0 1=some [.int .i64 (a:Nat)]:=by rw[aU (by rw[kg _ om];exact g6)];rfl
  have hR:Rw ((h6.keep 1).put h6.next (.cells [.int .i64 (k:Nat)] 1 false)) h4.next (os++is) (kP n (es.take k)):=j6.cong λc hc hcn=>by rw[y7 _ om,x6.gt _ om]
  obtain⟨va,va',h8,s1,s2,s3,s4,s5,s6,s7,s8⟩:=hR.push (i:=a) (x:=h6.next) (k:=(k:Nat)) (ub ha) om p7 om (λj b n q=>by have:=j6.lt q;omega)
   (by have:=gq (λe=>decide (e.1=((a:Nat):Int))) (es.take k) 0;rw[bB]at this;unfold eY;omega)
  rw[bC om]at s1;have v3:ak (h6.keep 1) h1.next a 1=some [va]:=br (by rw[kg _ om];exact j2') s1;have ia:gh ((a:Nat):Int) n=some a:=dL ha;have d1:h8.get (h1.next+2)=some (.cells [.int .i64 (n:Nat),cv,.sl h1.next 0 n n,.sl (h1.next+1) 0 n n] 4 false):=by rw[s6.gt _ om,y7 _ om];exact j1'
  have d2:h8.get h1.next=some (.cells os 1 false):=by rw[s6.gt _ om,y7 _ om];exact j2'
  have d3:h8.get (h1.next+1)=some (.cells is 1 false):=by rw[s6.gt _ om,y7 _ om];exact j3'
  have d5:h8.get h5.next=some (.cells [.int .i64 (a:Nat),.int .i64 (b:Nat)] 2 false):=by rw[(s8 _ om (λj b n q=>by have:=j6.lt q;omega)).1,y7 _ om];exact g6
  have f1:ak h8 (h1.next+2) 2 1=some [.sl h1.next 0 n n]:=by rw[aU d1];rfl
  have f2:ak h8 h5.next 0 1=some [.int .i64 (a:Nat)]:=by rw[aU d5];rfl
  have f3:=hG (v:=va') d2 (show a<os.length by omega);have u9:=Md (o:=.cells (os.set a va') 1 false) d2;refine ae (xf (by simp only[am,aD,simprocAttr,e3,v1,v2,v3,dS,dG q7,ia,aM,s2,s3,s4,f1,f2,f3]<;>rfl) ?_);generalize h8.put h1.next (.cells (os.set a va') 1 false)=h9 at *
  have n9:=u9.nx;have hR9:Rw h9 h4.next (os.set a va'++is) ((kP n (es.take k)).set a (eY (es.take k) a++[((k:Nat):Int)])):=by
   rw[<-xh _ _ om];exact s5.cong λc hc _=>u9.ne om
  have l9:∀(j b n:Nat),(os.set a va'++is)[j]?=some (AV.sl b 0 n n)->b≠h5.next:=λj b n' q=>by
   rw[<-xh _ _ om]at q;exact(s8 _ om (λj b n q=>by have:=j6.lt q;omega)).2 j b n' q
  have l6:∀(j b n:Nat),(os.set a va'++is)[j]?=some (AV.sl b 0 n n)->b<h9.next:=λj b n' q=>(hR9.lt q).1;obtain⟨X7,P7,N7,Y7⟩:=jm (h:=h9) (o:=.cells [.int .i64 (k:Nat)] 1 false);have kg2:∀c,c<h9.next->(h9.keep 1).get c=h9.get c:=λc hc=>by rw[AH.keep_get,if_neg om]
  have Q7:(h9.keep 1).get h9.next=some .resv:=fZ;have J1:h9.get (h1.next+2)=some (.cells [.int .i64 (n:Nat),cv,.sl h1.next 0 n n,.sl (h1.next+1) 0 n n] 4 false):=by rw[u9.ne om];exact d1
  have J3:h9.get (h1.next+1)=some (.cells is 1 false):=by rw[u9.ne om];exact d3
  have J5:h9.get h5.next=some (.cells [.int .i64 (a:Nat),.int .i64 (b:Nat)] 2 false):=by rw[u9.ne om];exact d5
  have V1:ak (h9.keep 1) (h1.next+2) 3 1=some [.sl (h1.next+1) 0 n n]:=by rw[aU (by rw[kg2 _ om];exact J1)];rfl
  have V2:ak (h9.keep 1) h5.next 1 1=some [.int .i64 (b:Nat)]:=by rw[aU (by rw[kg2 _ om];exact J5)];rfl
  have HR:Rw ((h9.keep 1).put h9.next (.cells [.int .i64 (k:Nat)] 1 false)) h4.next (os.set a va'++is) ((kP n (es.take k)).set a (eY (es.take k) a++[((k:Nat):Int)])):=hR9.cong λc hc hcn=>Y7 _ om
  obtain⟨vb,vb',H8,S1,S2,S3,S4,S5,S6,S7,S8⟩:=HR.push (i:=n+b) (x:=h9.next) (k:=(k:Nat)) (xs:=eD (es.take k) b) (by rw[cG om];exact xO hb) om P7 om (λj b n q=>by have:=l6 j b n q;omega)
   (by have:=gq (λe=>decide (e.2=((b:Nat):Int))) (es.take k) 0;rw[bB]at this;unfold eD;omega)
  have hol:(os.set a va').length=n:=by rw[cn,j4]
  rw[aX om,hol,eK]at S1;rw[tK _ _ om,hol,eK,CJ hk ha hb eab]at S5;have V3:ak (h9.keep 1) (h1.next+1) b 1=some [vb]:=br (by rw[kg2 _ om];exact J3) S1;have ib:gh ((b:Nat):Int) n=some b:=dL hb;have D1:H8.get (h1.next+2)=some (.cells [.int .i64 (n:Nat),cv,.sl h1.next 0 n n,.sl (h1.next+1) 0 n n] 4 false):=by rw[S6.gt _ om,Y7 _ om];exact J1
  have D2:H8.get h1.next=some (.cells (os.set a va') 1 false):=by rw[S6.gt _ om,Y7 _ om];exact u9.get
  have D3:H8.get (h1.next+1)=some (.cells is 1 false):=by rw[S6.gt _ om,Y7 _ om];exact J3
  have D5:H8.get h5.next=some (.cells [.int .i64 (a:Nat),.int .i64 (b:Nat)] 2 false):=by rw[(S8 _ om l9).1,Y7 _ om];exact J5
  have F1:ak H8 (h1.next+2) 3 1=some [.sl (h1.next+1) 0 n n]:=by rw[aU D1];rfl
  have F2:ak H8 h5.next 1 1=some [.int .i64 (b:Nat)]:=by rw[aU D5];rfl
  have F3:=hG (v:=vb') D3 (show b<is.length by omega);have U9:=Md (o:=.cells (is.set b vb') 1 false) D3;refine xf (by simp only[am,aD,simprocAttr,e3,V1,V2,V3,dS,dG Q7,ib,aM,S2,S3,S4,F1,F2,F3]<;>rfl) ?_;generalize H8.put (h1.next+1) (.cells (is.set b vb') 1 false)=H9 at *
  have N9:=U9.nx;refine⟨(os.set a va',is.set b vb'),⟨by rw[U9.ne om];exact D1,by rw[U9.ne om];exact D2,U9.get,hol,by rw[cn,j5],S5.cong λc hc _=>U9.ne om,?_,?_,om⟩,H4 ei en e3 e27⟩
  .exact j7.trans ((x6.mono om).trans ((x7.mono om).trans ((s6.mono om).trans ((u9.ext (ab _)).trans ((X7.mono om).trans ((S6.mono om).trans (U9.ext om)))))))
  .refine j8.cong λb n e hb=>?_;have:=c4.lt e;rw[U9.ne om,S6.gt _ om,Y7 _ om,u9.ne om,s6.gt _ om,y7 _ om,x6.gt _ om]
 .rintro⟨os,is⟩ ts h5 ⟨j1,j2,j3,j4,j5,j6,j7,j8,j9⟩ ⟨e3,e27,-⟩;simp only at e3 e27 j2 j3 j4 j5 j6;rw[da]at j6;refine ae (ar (M1 e3) ?_);have hx:Ext h.next h h5:=x0.trans ((x1.mono om).trans (j7.mono om));refine bG ⟨.ptr (h1.next+2) 0,(by simp only[rs,rf12,am,aD,simprocAttr]<;>rfl),⟨h1.next+2,cv,os,is,h1.next,h1.next+1,rfl,j1,LY om (λ_=>rfl) j8,j2,j3,j4,j5,λx v q=>?_,λx v q=>?_,m1,m2,m3,m4⟩,hx⟩
  .have hxn:x<n:=by rw[<-j4];exact(aG.1 q).1
   exact LY om (λ_=>rfl) (j6.2.1 x v _ (by rw[bC om];exact q) (ub hxn))
  .have hxn:x<n:=by rw[<-j5];exact(aG.1 q).1
   exact LY om (λ_=>rfl) (j6.2.1 (n+x) v _ (by rw[aX om,j4,eK];exact q) (xO hxn))
theorem mY{p:Int×Int->Bool}:∀(es:List (Int×Int)) (i:Nat),(∀e∈es,p e=false)->dX p es i=[]
 |[],_,_=>rfl
 |e::r,i,h=>by
   simp only[dX,h e (by simp),bu,if_false];exact mY r (i+1) λe' he=>h e' (by simp[he])
theorem pO{n:Int}(h:okE n e=true):0<=e.1/\e.1<n/\0<=e.2/\e.2<n:=by
 simp only[okE,aL,aI]at h;omega
theorem CZ{n:Int}(he:es.all (okE n)=true)(hx:¬(0<=x/\x<n)):eY es x=[] :=
 mY es 0 λe h=>by
  have:=pO (cD.1 he e h);simp only[aO];omega
theorem Gs{n:Int}(he:es.all (okE n)=true)(hx:¬(0<=x/\x<n)):eD es x=[] :=
 mY es 0 λe h=>by
  have:=pO (cD.1 he e h);simp only[aO];omega
theorem xB{ob:Nat}{ls:List AV}{rest:List AV}{f:Int->List Int}(hb:h.get b=some (.cells (.int .i64 (n:Nat)::rest) 4 false))(ho:h.get ob=some (.cells ls 1 false))(hl:ls.length=n)(hn:n<=64)
 (hr:∀(y:Nat) (v:AV),ls[y]?=some v->SlI h v (f y)) (hs:∀y,(f y).length<2^30) (h0:¬(0<=x/\x<n)->f x=[]) :
 C prg 53 [.ptr b 0,.sl ob 0 n n,.int .i64 x] h λr h'=>IsSl h' 1 h.next r ((f x).flatMap eI)/\Ext h.next h h':=by
 refine Me pf53 ?_;refine ae (ar (Mi0) ?_);have rn:ak h b 0 1=some [.int .i64 (n:Nat)]:=br hb rfl;by_cases q1:x<0
 .have c1:decide (x<0)=true:=bj q1;refine ae (ae (ar (Mi1 c1) ?_));refine dg (Z0) (ae (ar (M0) ?_));exact bG ⟨.nils,(by simp only[rs,rf53,am,aD,simprocAttr]<;>rfl),.inl ⟨rfl,by rw[h0 om];rfl⟩,Mc⟩
 have c1:decide (x<0)=false:=aN q1;by_cases q2:((n:Nat):Int)<=x
 .have c2:decide (((n:Nat):Int)<=x)=true:=bj q2;refine ae (ae (ar (Mi3 c1 c2 rn) ?_));refine dg (Z0) (ae (ar (M0) ?_));exact bG ⟨.nils,(by simp only[rs,rf53,am,aD,simprocAttr]<;>rfl),.inl ⟨rfl,by rw[h0 om];rfl⟩,Mc⟩
 have c2:decide (((n:Nat):Int)<=x)=false:=aN q2;refine ae (ae (ar (Mi3 c1 c2 rn) ?_));refine dQ (Z0) (bK ?_);obtain⟨y,rfl⟩:∃y:Nat,x=y:=⟨x.toNat,om⟩
 have hy:y<ls.length:=om;have ix:gh ((y:Nat):Int) n=some y:=dL om;have hv:=hr y _ (ai hy);have rv:=br ho (ai hy);refine ae (bM (aV 4 (Mi3 ix @aM rv) rfl (Zi3 ix @aM rv) (Mi3 ix @aM rv) (qe hv (Nat.lt_trans (hs y) (by decide))) λr h2 hq=>?_));refine bF (M0) ?_;exact bG ⟨r,(by simp only[rs,rf53,am,aD,simprocAttr]<;>rfl),hq.1,hq.2.1⟩
theorem Bx(hv:IsView h vp n es):C prg 22 [vp,.int .i64 x] h λr h'=>IsSl h' 1 h.next r ((eY es x).flatMap eI)/\Ext h.next h h':=by
 obtain⟨b,ev,os,is,ob,ib,rfl,g1,g2,g3,g4,g5,g6,g7,g8,m1,m2,m3,m4⟩:=hv;refine Me pf22 ?_;have r1:ak h b 2 1=some [.sl ob 0 n n]:=br g1 rfl;refine ae (ar (Mi0) ?_);refine ae (bM (aV 6 (Mi1 r1) rfl (Zi1 r1) (Mi1 r1) (xB (f:=eY es) (x:=x) g1 g3 g5 m2 (λy v q=>g7 y v q) (λy=>AY (gq _ _ _) om) (CZ m4)) λr h2 hq=>?_));refine bF (M0) ?_;exact bG ⟨r,(by simp only[rs,rf22,am,aD,simprocAttr]<;>rfl),hq⟩
theorem JG(hv:IsView h vp n es):C prg 36 [vp,.int .i64 x] h λr h'=>IsSl h' 1 h.next r ((eD es x).flatMap eI)/\Ext h.next h h':=by
 obtain⟨b,ev,os,is,ob,ib,rfl,g1,g2,g3,g4,g5,g6,g7,g8,m1,m2,m3,m4⟩:=hv;refine Me pf36 ?_;have r1:ak h b 3 1=some [.sl ib 0 n n]:=br g1 rfl;refine ae (ar (Mi0) ?_);refine ae (bM (aV 6 (Mi1 r1) rfl (Zi1 r1) (Mi1 r1) (xB (f:=eD es) (x:=x) g1 g4 g6 m2 (λy v q=>g8 y v q) (λy=>AY (gq _ _ _) om) (Gs m4)) λr h2 hq=>?_));refine bF (M0) ?_;exact bG ⟨r,(by simp only[rs,rf36,am,aD,simprocAttr]<;>rfl),hq⟩
open Go.Am
def qT(es:List (Int×Int))(out:List Int)(v:Int):Nat:=es.countP λe=>decide (e.2=v)&&!out.contains e.1
def hsM(es:List (Int×Int))(x:Int):List Int:=(es.filter λe=>decide (e.1=x)).map (·.2)
def wI(w:List Int)(b:Int):List Int:=w.set b.toNat (w.getD b.toNat 0-1)
def me(hs:List Int)(w:List Int):List Int:=hs.foldl wI w
theorem yW(w:List Int)(b:Int):(wI w b).length=w.length:=by simp[wI]
theorem tj:∀(hs w:List Int),(me hs w).length=w.length
 |[],_=>rfl
 |b::r,w=>by
   show(me r (wI w b)).length=_;rw[tj r,yW]
theorem sK{w:List Int}(hi:i<w.length):(w.set i x).getD j 0=if i=j then x else w.getD j 0:=by
 rw[aH,dK,aH];by_cases e:i=j
 .subst e;simp[hi]
 .simp[e]
theorem tk:∀(hs w:List Int) (v:Nat),(∀b∈hs,0<=b/\b.toNat<w.length)->(me hs w).getD v 0=w.getD v 0-(hs.count ((v:Nat):Int):Nat)
 |[],w,v,_=>by simp[me]
 |b::r,w,v,h=>by
   obtain⟨h1,h2⟩:=h b (by simp);show(me r (wI w b)).getD v 0=_;rw[tk r (wI w b) v (λc hc=>by rw[yW];exact h c (by simp[hc])),wI,sK h2,KB];by_cases e:b.toNat=v
   .have:b=((v:Nat):Int):=om;subst this;simp;omega
   .have:¬b=((v:Nat):Int):=om;simp[e,this]
structure Kahn(n:Nat)(es:List (Int×Int))(out ws:List Int):Prop where
 len:ws.length=n
 nd:out.Nodup
 rng:∀v∈out,0<=v/\v<n
 neg:∀v:Nat,v<n->((v:Nat):Int)∈out->ws.getD v 0<0
 cnt:∀v:Nat,v<n->¬((v:Nat):Int)∈out->ws.getD v 0=(qT es out v:Nat)
 ord:∀p v q,out=p++v::q->∀e∈es,e.2=v->e.1∈p
 lo:∀v:Nat,v<n->-(200*(out.length:Nat):Int)<=ws.getD v 0
theorem GA(es:List (Int×Int))(x v:Int):(hsM es x).count v=es.countP λe=>decide (e.2=v)&&decide (e.1=x):=by
 unfold hsM;rw[List.count_eq_countP,List.countP_map,List.countP_filter];congr 1
theorem Hc{v:Int}(hx:¬x∈out):qT es (out++[x]) v+(hsM es x).count v=qT es out v:=by
 rw[GA];unfold qT;induction es with
 |nil=>rfl
 |cons e r ih =>
   simp only[fp];by_cases h1:e.2=v
   .by_cases h2:e.1=x
    .have h3:¬e.1∈out:=by rw[h2];exact hx
     simp[h1,h2,hx]at ih |-;omega
    .by_cases h3:e.1∈out
     .simp[h1,h2,h3]at ih |-;omega
     .simp[h1,h2,h3]at ih |-;omega
   .simp[h1]at ih |-;omega
theorem Gz(he:es.all (okE n)=true){b:Int}(hb:b∈hsM es x):0<=b/\b<n:=by
 unfold hsM at hb;obtain⟨e,h1,rfl⟩:=bA.1 hb;have:=pO (cD.1 he e (bq.1 h1).1);omega
theorem Kahn.step(k:Kahn n es out ws)(he:es.all (okE n)=true)(hl:es.length<=128){x:Nat}(hx:x<n)(h0:ws.getD x 0=0) :
 Kahn n es (out++[((x:Nat):Int)]) (me (hsM es x) (ws.set x (-1))):=by
 have hno:¬((x:Nat):Int)∈out:=λh=>by have:=k.neg x hx h;omega
 have hxl:x<ws.length:=by rw[k.len];exact hx
 have hmem:∀b∈hsM es ((x:Nat):Int),0<=b/\b.toNat<(ws.set x (-1)).length:=λb hb=>by
  have:=Gz he hb;rw[cn,k.len];omega
 have hg:∀v:Nat,(me (hsM es x) (ws.set x (-1))).getD v 0=(if x=v then -1 else ws.getD v 0)-((hsM es x).count ((v:Nat):Int):Nat):=λv=>by
  rw[tk _ _ v hmem,sK hxl]
 have hc0:qT es out ((x:Nat):Int)=0:=by have:=k.cnt x hx hno;omega
 refine⟨by rw[tj,cn,k.len],?_,?_,?_,?_,?_,?_⟩
 .rw[aJ];refine⟨k.nd,by simp,λa ha b hb=>?_⟩;simp only[au,aR,or_false]at hb;subst hb;exact λe=>hno (e▸ha)
 .intro v hv;rw[aw]at hv;rcases hv with hv|hv
  .exact k.rng v hv
  .simp only[au,aR,or_false]at hv;subst hv;omega
 .intro v hv hm;rw[hg];rw[aw]at hm;by_cases e:x=v
  .rw[if_pos e];omega
  .rw[if_neg e];have:((v:Nat):Int)∈out:=by
    rcases hm with hm|hm
    .exact hm
    .simp only[au,aR,or_false]at hm;omega
   have:=k.neg v hv this;omega
 .intro v hv hm;rw[aw,not_or]at hm;have e:¬x=v:=λe=>hm.2 (by subst e;simp);rw[hg,if_neg e,k.cnt v hv hm.1];have:=Hc (es:=es) (v:=((v:Nat):Int)) hno;omega
 .intro p v q hq e hee hev;by_cases hqn:q=[]
  .subst hqn;obtain⟨rfl,h2⟩:=di hq rfl;simp only[de,and_true]at h2;subst h2;by_cases hm:e.1∈out
   .exact hm
   .exfalso;unfold qT at hc0;rw[List.countP_eq_zero]at hc0;exact hc0 e hee (by simp[hev,hm])
  .have h1:out=p++v::q.dropLast:=by
    have h3:q=q.dropLast++[q.getLast hqn]:=(List.dropLast_concat_getLast hqn).symm;rw[h3,<-aB,<-bD]at hq;exact(di hq rfl).1
   exact k.ord p v _ h1 e hee hev
 .intro v hv;rw[hg,aC];have h1:=k.lo v hv;have h2:(hsM es ((x:Nat):Int)).count ((v:Nat):Int)<=128:=by
   refine cw List.count_le_length ?_;unfold hsM;rw[ah];exact cw (dP _ _) hl
  simp only[aq,aK];split
  .omega
  .omega
theorem pj(p:Int×Int->Bool):∀(es:List (Int×Int)) (i:Nat),(dX p es i).length=es.countP p
 |[],_=>rfl
 |e::r,i=>by
   have:=pj p r (i+1);rw[fp];simp only[dX];cases p e
   .simpa using this
   .simpa using this
theorem Kahn.start:Kahn n es [] ((List.range n).map λx=>(((eD es ((x:Nat):Int)).length:Nat):Int)):=by
 refine⟨by simp,by simp,by simp,by simp,λv hv _=>?_,λp v q h=>by simp at h,λv hv=>?_⟩
 .rw[aH,aE,dp hv];simp only[aF,cX];unfold eD qT;rw[pj];simp
 .rw[aH,aE,dp hv];simp
theorem oK(p:Int×Int->Bool):∀(es pre:List (Int×Int)),(dX p es pre.length).map (λi=>((pre++es)[i.toNat]?).getD (0,0))=es.filter p
 |[],pre=>by simp[dX]
 |e::r,pre=>by
   have ih:=oK p r (pre++[e]);rw[aC,aq,aK,bL,bD,aB,aW]at ih;simp only[dX,gj];split
   .rw[bI,ih];congr 1;rw[bU,aX (ab _),eF];rfl
   .exact ih
theorem gp(p:Int×Int->Bool):∀(es:List (Int×Int)) (i:Nat) (x:Int),x∈dX p es i->∃j:Nat,x=((i+j:Nat):Int)/\j<es.length/\∃e,es[j]?=some e/\p e=true
 |[],i,x,h=>by simp[dX]at h
 |e::r,i,x,h=>by
   have key:x∈dX p r (i+1)->∃j:Nat,x=((i+j:Nat):Int)/\j<(e::r).length/\∃e',(e::r)[j]?=some e'/\p e'=true:=λh=>by
    obtain⟨j,h1,h2,e',h3,h4⟩:=gp p r (i+1) x h;exact⟨j+1,by rw[h1];congr 1;omega,by simp only[aq];omega,e',by simpa using h3,h4⟩
   simp only[dX]at h;split at h
   .rename_i hp
    rw[au]at h;rcases h with rfl|h
    .exact⟨0,rfl,by simp,e,rfl,hp⟩
    .exact key h
   .exact key h
theorem rZ(es:List (Int×Int))(x:Int):(eY es x).map (λi=>((es[i.toNat]?).getD (0,0)).2)=hsM es x:=by
 have:=oK (λe=>decide (e.1=x)) es [];simp only[aK,aW]at this;unfold eY hsM;rw[<-this,jI];rfl
def Acy(es:List (Int×Int)):Prop:=∃rank:Int->Nat,∀e∈es,rank e.1<rank e.2
theorem Kahn.acy(k:Kahn n es out ws)(he:es.all (okE n)=true)(hz:∀v:Nat,v<n->ws.getD v 0≠0) :
 (∀v:Nat,v<n->ws.getD v 0<=0)↔Acy es:=by
 constructor
 .intro h;have hall:∀x:Int,0<=x->x<n->x∈out:=λx h1 h2=>by
   refine Classical.byContradiction λhm=>?_;have e:x=((x.toNat:Nat):Int):=om;rw[e]at hm;have h3:=k.cnt x.toNat om hm;have h4:=h x.toNat om;have h5:=hz x.toNat om;omega
  refine⟨λx=>out.idxOf x,λe hee=>?_⟩;have ho:=pO (cD.1 he e hee);have hm:=hall e.2 om om;obtain⟨p,q,hpq⟩:=bZ hm;have hp:=k.ord p e.2 q hpq e hee rfl;have hn:¬e.2∈p:=λh=>by
   have:=k.nd;rw[hpq,aJ]at this;exact this.2.2 _ h _ (by simp) rfl
  show out.idxOf e.1<out.idxOf e.2;rw[hpq,Eh,Eh,if_pos hp,if_neg hn];have:=List.idxOf_lt_length_of_mem hp;omega
 .rintro⟨rank,hr⟩ v hv;have key:∀N,∀v:Nat,v<n->rank v<N->((v:Nat):Int)∈out:=by
   intro N;induction N with
   |zero=>intro v _ h;omega
   |succ N ih =>
     intro v hv hN;refine Classical.byContradiction λhm=>?_;have h1:=k.cnt v hv hm;have h2:=hz v hv;have h3:0<qT es out ((v:Nat):Int):=om;unfold qT at h3;rw[nN]at h3;obtain⟨e,hee,h4⟩:=h3;simp only[aL,aI,cZ,dT,aO]at h4;have h5:=hr e hee;rw[h4.1]at h5;have ho:=pO (cD.1 he e hee);have e1:e.1=((e.1.toNat:Nat):Int):=om;refine h4.2 ?_;rw[e1];exact ih e.1.toNat om (by rw[<-e1];omega)
  have:=k.neg v hv (key (rank v+1) v hv om);omega
theorem Kahn.back(k:Kahn n es out ws)(he:es.all (okE n)=true)(hz:∀v:Nat,v<n->ws.getD v 0≠0){v:Nat}(hv:v<n)(hp:0<ws.getD v 0) :
 ∃e∈es,e.2=((v:Nat):Int)/\0<ws.getD e.1.toNat 0:=by
 have hm:¬((v:Nat):Int)∈out:=λh=>by have:=k.neg v hv h;omega
 have h1:=k.cnt v hv hm;have h3:0<qT es out ((v:Nat):Int):=om;unfold qT at h3;rw[nN]at h3;obtain⟨e,hee,h4⟩:=h3;simp only[aL,aI,cZ,dT,aO]at h4;have ho:=pO (cD.1 he e hee);have e1:e.1=((e.1.toNat:Nat):Int):=om;refine⟨e,hee,h4.1,?_⟩;have h5:=k.cnt e.1.toNat om (by rw[<-e1];exact h4.2);have h6:=hz e.1.toNat om;omega
end Go.Proofs.YtmibmlioidpogaaGreatDoor
