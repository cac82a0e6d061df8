/- graph.Of; there, Outs, Ins. -/
import Derived.Test.YtahepnbflofndaaGreatDoorKLa
set_option linter.all false
namespace Go.Proofs.YtahepnbflofndaaGreatDoor
open Go.Am
def dr (p:Int×Int→Bool):List (Int×Int)→Nat→List Int
 | [],_=>[]
 | e::r,i=>if p e then ((i:Nat):Int)::dr p r (i+1) else dr p r (i+1)
theorem ug (p:Int×Int→Bool):∀ (a b:List (Int×Int)) (i:Nat),dr p (a++b) i=dr p a i++dr p b (i+a.length)
 | [],b,i=>by simp [dr]
 | e::r,b,i=>by
   have:=ug p r b (i+1);simp only[bU,dr,bf];rw[this,show i+1+r.length=i+(r.length+1) by omega];split<;>simp
theorem fk (p:Int×Int→Bool):∀ (a:List (Int×Int)) (i:Nat),(dr p a i).length≤a.length
 | [],i=>by simp [dr]
 | e::r,i=>by
   have:=fk p r (i+1);simp only[dr,bf];split
   ·simp only[bf]; omega
   ·omega
theorem nU (p:Int×Int→Bool) {es:List (Int×Int)}{k:Nat} (hk:k<es.length):dr p (es.take (k+1)) 0=if p es[k] then dr p (es.take k) 0++[((k:Nat):Int)] else dr p (es.take k) 0:=by
 rw[aG hk,ug,aS,cy om,bM];simp only[dr];split<;>simp
def dz (es:List (Int×Int)) (x:Int):List Int:=dr (λe=>decide (e.1=x)) es 0
def dg (es:List (Int×Int)) (x:Int):List Int:=dr (λe=>decide (e.2=x)) es 0
def Rw (h:AH) (lo:Nat) (vs:List AV) (xss:List (List Int)):Prop :=
 vs.length=xss.length∧(∀ (i:Nat) (v:AV) (xs:List Int),vs[i]?=some v→xss[i]?=some xs→IsSl h 1 lo v (xs.flatMap eI))∧∀ (i j b n b' n':Nat),i≠j→vs[i]?=some (AV.sl b 0 n n)→vs[j]?=some (AV.sl b' 0 n' n')→b≠b'
theorem Rw.cong {h h':AH}{lo:Nat}{vs:List AV}{xss:List (List Int)} (hr:Rw h lo vs xss) (hk:∀ c,lo≤c→c<h.next→h'.get c=h.get c):Rw h' lo vs xss :=
 ⟨hr.1,λi v xs h1 h2=>(hr.2.1 i v xs h1 h2).cong λb n e hb=>hk b hb ((hr.2.1 i v xs h1 h2).lt e),hr.2.2⟩
theorem Rw.lt {h:AH}{lo:Nat}{vs:List AV}{xss:List (List Int)} (hr:Rw h lo vs xss) {j b n:Nat} (hj:vs[j]?=some (AV.sl b 0 n n)):b<h.next∧lo≤b:=by
 have hjl:j<vs.length:=(aI.1 hj).1;have:=hr.2.1 j _ (xss[j]'(by rw[← hr.1]; exact hjl)) hj (aq _);rcases this with ⟨q,_⟩|⟨b',n',q1,q2,q3,_⟩
 ·cases q
 ·cases q2; exact⟨AH.lt_of_get q3,q1⟩
theorem Rw.push {h:AH}{lo:Nat}{vs:List AV}{xss:List (List Int)} (hr:Rw h lo vs xss) {i x:Nat}{k:Int}{xs:List Int} (hi:xss[i]?=some xs) (hlo:lo≤h.next) (hx:h.get x=some (.cells [.int .i64 k] 1 false)) (hxl:lo≤x) (hxn:∀ (j b n:Nat),vs[j]?=some (AV.sl b 0 n n)→b≠x) (hl:xs.length<2 ^ 30) :
 ∃ v v' h',vs[i]?=some v∧gp h 1 8 v (.sl x 0 1 1)=some (v',h')∧v'.cells=[v']∧v'.one=true∧Rw h' lo (vs.set i v') (xss.set i (xs++[k]))∧Ext lo h h'∧h'.next=h.next+1∧∀ c,c<h.next→(∀ (j b n:Nat),vs[j]?=some (AV.sl b 0 n n)→b≠c)→h'.get c=h.get c∧∀ (j b n:Nat),(vs.set i v')[j]?=some (AV.sl b 0 n n)→b≠c:=by
 obtain⟨r1,r2,r3⟩:=hr;have hil:i<xss.length:=(aI.1 hi).1;have hv:vs[i]?=some vs[i]:=aq om;have hlen:(xs.flatMap eI).length=xs.length:=by rw[dC (f:=eI) (e:=1) (λ_=>rfl)]; omega
 obtain⟨v',h',a1,a2,a3,a4,a5,a6,a7⟩:=(r2 i _ xs hv hi).app (bytes:=8) hlo om hx hxl (λb n e=>hxn i b n (by rw[hv,e])) rfl rfl (by rw[hlen]; unfold aW; omega) (by rw[hlen]; unfold aW; omega);obtain⟨c1,c2⟩:=a2.cells;refine⟨_,v',h',hv,a1,c1,c2,⟨by rw[ct,ct,r1],?_,?_⟩,a3,a5,λc hc hne=>⟨a6 c hc λb n e=>(hne i b n (by rw[hv,e])).symm,λj b n hj=>?_⟩⟩
 rotate_right
 ·by_cases e:i=j
  ·subst e;rw[dY om,aa,a4] at hj;cases hj;omega
  ·rw[dq e] at hj;exact hne j b n hj
 ·intro j w ys hw hy;by_cases e:i=j
  ·subst e;rw[dY om,aa] at hw hy;subst hw hy;rw[bC];exact a2
  ·rw[dq e] at hw hy;refine (r2 j w ys hw hy).cong λb n eb hb=>a6 b ((r2 j w ys hw hy).lt eb) λb' n' e'=>?_;exact (r3 i j b' n' b n e (by rw[hv,e']) (by rw[hw,eb])).symm
 ·have hlt:∀ j b n,vs[j]?=some (AV.sl b 0 n n)→b<h.next:=λj b n hj=>by
   have hjl:j<vs.length:=(aI.1 hj).1;exact (r2 j _ xss[j] hj (aq om)).lt rfl
  intro j1 j2 b n b' n' hne h1 h2;by_cases e:i=j1
  ·subst e;rw[dY om,aa,a4] at h1;rw[dq hne] at h2;have:=hlt _ _ _ h2;cases h1;omega
  ·rw[dq e] at h1;by_cases e2:i=j2
   ·subst e2;rw[dY om,aa,a4] at h2;have:=hlt _ _ _ h1;cases h2;omega
   ·rw[dq e2] at h2;exact r3 _ _ _ _ _ _ hne h1 h2
def IsView (h:AH) (vp:AV) (n:Nat) (es:List (Int×Int)):Prop:=∃ (b:Nat) (ev:AV) (os is:List AV) (ob ib:Nat),vp=.ptr b 0∧h.get b=some (.cells [.int .i64 (n:Nat),ev,.sl ob 0 n n,.sl ib 0 n n] 4 false)∧SlE h ev es ∧
 h.get ob=some (.cells os 1 false)∧h.get ib=some (.cells is 1 false)∧os.length=n∧is.length=n∧(∀ (x:Nat) (v:AV),os[x]?=some v→SlI h v (dz es x))∧(∀ (x:Nat) (v:AV),is[x]?=some v→SlI h v (dg es x))∧1≤n∧n≤64∧es.length≤128∧es.all (okE n)=true
theorem IsView.ext {h h':AH}{vp:AV}{n:Nat}{es:List (Int×Int)} (hv:IsView h vp n es) (hx:Ext h.next h h'):IsView h' vp n es:=by
 obtain⟨b,ev,os,is,ob,ib,rfl,g1,g2,g3,g4,g5,g6,g7,g8,g9⟩:=hv
 exact⟨b,ev,os,is,ob,ib,rfl,by rw[hx.gt _ (AH.lt_of_get g1)]; exact g1,g2.ext hx (ab _),by rw[hx.gt _ (AH.lt_of_get g3)]; exact g3,by rw[hx.gt _ (AH.lt_of_get g4)]; exact g4,g5,g6,
  λx v q=>(g7 x v q).ext hx (ab _),λx v q=>(g8 x v q).ext hx (ab _),g9⟩
def lm (n:Nat) (es:List (Int×Int)):List (List Int):=(List.range n).map (λx=>dz es ((x:Nat):Int))++(List.range n).map (λx=>dg es ((x:Nat):Int))
theorem vm {n x:Nat}{es:List (Int×Int)} (hx:x<n):(lm n es)[x]?=some (dz es x):=by
 unfold lm;rw[bJ (by simpa using hx),aX,dn hx];rfl
theorem yM {n x:Nat}{es:List (Int×Int)} (hx:x<n):(lm n es)[n+x]?=some (dg es x):=by
 unfold lm;rw[bE (by simp),ai,cL,eD,aX,dn hx];rfl
theorem oT {n x:Nat}{f g:Nat→List Int} (hx:x<n) (hne:∀ y,y≠x→f y=g y):((List.range n).map f).set x (g x)=(List.range n).map g:=by
 refine cW λi=>?_;rw[dv];by_cases e:x=i
 ·subst e;simp [hx]
 ·rw[if_neg e,aX,aX];by_cases hi:i<n
  ·rw[dn hi];simp only[aQ];rw[hne i (Ne.symm e)]
  ·rw[bG (by simpa using hi)];rfl
theorem DC {n k a b:Nat}{es:List (Int×Int)} (hk:k<es.length) (ha:a<n) (hb:b<n) (he:es[k]=(((a:Nat):Int),((b:Nat):Int))) :
 ((lm n (es.take k)).set a (dz (es.take k) a++[((k:Nat):Int)])).set (n+b) (dg (es.take k) b++[((k:Nat):Int)])=lm n (es.take (k+1)):=by
 have ho:∀ x:Nat,dz (es.take (k+1)) ((x:Nat):Int)=if x=a then dz (es.take k) a++[((k:Nat):Int)] else dz (es.take k) x:=λx=>by
  unfold dz;rw[nU _ hk,he];by_cases e:x=a
  ·subst e; simp
  ·have:¬ ((a:Nat):Int)=((x:Nat):Int):=om;simp [e,this]
 have hi:∀ x:Nat,dg (es.take (k+1)) ((x:Nat):Int)=if x=b then dg (es.take k) b++[((k:Nat):Int)] else dg (es.take k) x:=λx=>by
  unfold dg;rw[nU _ hk,he];by_cases e:x=b
  ·subst e; simp
  ·have:¬ ((b:Nat):Int)=((x:Nat):Int):=om;simp [e,this]
 unfold lm;rw[yh _ _ (by simpa using ha),uW _ _ (by simp)];have e1:=oT (f:=λx:Nat=>dz (es.take k) ((x:Nat):Int)) (g:=λx:Nat=>dz (es.take (k+1)) ((x:Nat):Int)) ha λy hy=>by simp only[ho,if_neg hy]
 have e2:=oT (f:=λx:Nat=>dg (es.take k) ((x:Nat):Int)) (g:=λx:Nat=>dg (es.take (k+1)) ((x:Nat):Int)) hb λy hy=>by simp only[hi,if_neg hy]
 simp only[ho,if_true] at e1;simp only[hi,if_true] at e2;rw[ct,ai,cL,eD,e2,e1];simp only[ho,hi]
theorem Rw.nil (h:AH) (n:Nat):Rw h h.next (cm [.nils] n++cm [.nils] n) (lm n []):=by
 rw[fq,List.replicate_append_replicate];have e2:lm n []=List.replicate (n+n) []:=by
  refine cW λi=>?_;have e3:lm n []=(List.range n++List.range n).map λ_=>[]:=by rw[cj]; rfl
  rw[e3,aX,cA];by_cases hi:i<n+n
  ·rw[aq (by simpa using hi),if_pos hi]; rfl
  ·rw[bG (by simpa using hi),if_neg hi]; rfl
 rw[e2];refine⟨by rw[cF,cF],λi v xs h1 h2=>?_,λi j b n b' n' _ h1=>?_⟩
 ·rw[cA] at h1 h2;split at h1
  ·rw[if_pos ‹_›] at h2;simp only[aa] at h1 h2;subst h1 h2;exact .inl ⟨rfl,rfl⟩
  ·cases h1
 ·rw[cA] at h1;split at h1
  ·cases h1
  ·cases h1
theorem iQ {n:Nat}{es:List (Int×Int)} (hm:fy (n:Nat) es=true):1≤n∧n≤64∧es.length≤128∧es.all (okE n)=true:=by
 simp only[fy,aM,aJ] at hm;exact⟨om,om,om,hm.2⟩
theorem mw {n:Nat}{e:Int×Int} (h:okE n e=true):∃ a b:Nat,e=(((a:Nat):Int),((b:Nat):Int))∧a<n∧b<n:=by
 obtain⟨x,y⟩:=e;simp only[okE,aM,aJ] at h;exact⟨x.toNat,y.toNat,by rw[An om,An om],om,om⟩
theorem Bl {h:AH}{n:Nat}{ev:AV}{es:List (Int×Int)} (he:SlE h ev es) (hm:fy (n:Nat) es=true):C prg 61 [.agg [.int .i64 (n:Nat),ev]] h λr h'=>IsView h' r n es∧Ext h.next h h':=by
 obtain⟨m1,m2,m3,m4⟩:=iQ hm;obtain⟨ec,eo⟩:=he.cells;refine Mw pf61 ?_;refine ae (aj (Mi0) ?_);have x0:Ext h.next h (h.new (.cells [.int .i64 (n:Nat),ev] 2 false)):=Mt (ab _);have g0:(h.new (.cells [.int .i64 (n:Nat),ev] 2 false)).get h.next=some (.cells [.int .i64 (n:Nat),ev] 2 false):=by rw[AH.get_new,if_pos rfl]
 have n0:(h.new (.cells [.int .i64 (n:Nat),ev] 2 false)).next=h.next+1:=rfl;generalize h.new (.cells [.int .i64 (n:Nat),ev] 2 false)=h0 at *
 have r0:ak h0 h.next 0 2=some [.int .i64 (n:Nat),ev]:=by rw[aU g0]; rfl
 refine ae (ae (bN (bo 1 (Mi1 r0) rfl (Zi1 r0) (Mi1 r0) (xv (he.ext x0 (ab _)) om) λr h1 hq=>?_)));obtain⟨rfl,x1⟩:=hq;rw[hm];refine bH (M0) ?_;refine dL (Z0) (bu ?_);have g1:h1.get h.next=some (.cells [.int .i64 (n:Nat),ev] 2 false):=by rw[x1.gt _ om]; exact g0
 have n1:=x1.nx;have kn:(h1.keep 3).next=h1.next+3:=AH.keep_next 3 h1;have kg:∀ c,(h1.keep 3).get c=if h1.next≤c∧c<h1.next+3 then some .resv else h1.get c:=λc=>AH.keep_get 3 h1
 have k1:(h1.keep 3).get h.next=some (.cells [.int .i64 (n:Nat),ev] 2 false):=by rw[kg,if_neg om]; exact g1
 have ra:ak (h1.keep 3) h.next 0 2=some [.int .i64 (n:Nat),ev]:=by rw[aU k1]; rfl
 have rb:ak (h1.keep 3) h.next 0 1=some [.int .i64 (n:Nat)]:=by rw[aU k1]; rfl
 have q0:(h1.keep 3).get h1.next=some .resv:=by rw[kg,if_pos ⟨om,om⟩]
 have mv:=tC (z:=[.nils]) (bytes:=24) (n:=n) (by unfold aW; omega) (by unfold aW; omega);have q1:((h1.keep 3).put h1.next (.cells (cm [.nils] n) 1 false)).get (h1.next+1)=some .resv:=by rw[AH.get_put _ _ _ _ om,if_neg om,kg,if_pos ⟨om,om⟩]
 have q2:(((h1.keep 3).put h1.next (.cells (cm [.nils] n) 1 false)).put (h1.next+1) (.cells (cm [.nils] n) 1 false)).get (h1.next+2)=some .resv:=by
  rw[AH.get_put _ _ _ _ (by rw[AH.next_put]; omega),if_neg om,AH.get_put _ _ _ _ om,if_neg om,kg,if_pos ⟨om,om⟩]
 have bx:=Ah (k:=4) (cs:=[.int .i64 (n:Nat),ev,.sl h1.next 0 n n,.sl (h1.next+1) 0 n n]) rfl
 refine ae (CS (λts h2=>h2=(((h1.keep 3).put h1.next (.cells (cm [.nils] n) 1 false)).put (h1.next+1) (.cells (cm [.nils] n) 1 false)).put (h1.next+2) (.cells [.int .i64 (n:Nat),ev,.sl h1.next 0 n n,.sl (h1.next+1) 0 n n] 4 false)∧cU ts 1=.ptr h.next 0∧cU ts 3=.ptr (h1.next+2) 0)
  (by simp only[am,aK,simprocAttr,bS,ra,rb,eN,ma q0,ma q1,vY q2,mv,bx,ec,eo,dP]) ?_)
 rintro ts h2 ⟨hh2,t1,t3⟩;have n2:h2.next=h1.next+3:=by rw[hh2]; simp only[AH.next_put]; omega
 have gg:∀ c,h2.get c=if h1.next+2=c then some (.cells [.int .i64 (n:Nat),ev,.sl h1.next 0 n n,.sl (h1.next+1) 0 n n] 4 false) else if h1.next+1=c then some (.cells (cm [.nils] n) 1 false) else if h1.next=c then some (.cells (cm [.nils] n) 1 false) else (h1.keep 3).get c:=λc=>by
  rw[hh2,AH.get_put _ _ _ _ (by simp only[AH.next_put]; omega),AH.get_put _ _ _ _ (by simp only[AH.next_put]; omega),AH.get_put _ _ _ _ om]
 have x2:Ext h1.next h1 h2:=⟨om,λc hc=>by rw[gg,if_neg om,if_neg om,if_neg om,kg,if_neg om],λc hc=>by rw[hh2]; exact Mr 3 h1⟩
 clear q0 q1 q2 mv bx ra rb k1 kg kn hh2;have g2:h2.get h.next=some (.cells [.int .i64 (n:Nat),ev] 2 false):=by rw[x2.gt _ om]; exact g1
 have gv:h2.get (h1.next+2)=some (.cells [.int .i64 (n:Nat),ev,.sl h1.next 0 n n,.sl (h1.next+1) 0 n n] 4 false):=by rw[gg,if_pos rfl]
 have go:h2.get h1.next=some (.cells (cm [.nils] n) 1 false):=by rw[gg,if_neg om,if_neg om,if_pos rfl]
 have gi:h2.get (h1.next+1)=some (.cells (cm [.nils] n) 1 false):=by rw[gg,if_neg om,if_pos rfl]
 clear gg;have r2:ak h2 h.next 1 1=some [ev]:=by rw[aU g2]; rfl
 have he2:SlE h2 ev es:=((he.ext x0 (ab _)).ext x1 (ab _)).ext x2 (ab _);refine ae (bN (bo 3 (M2 t1 r2) rfl (Z2 t1 r2) (M2 t1 r2) (EH he2 om) λcv h3 hq=>?_));obtain⟨c1,x3,_⟩:=hq;have n3:=x3.nx;have gv3:h3.get (h1.next+2)=some (.cells [.int .i64 (n:Nat),ev,.sl h1.next 0 n n,.sl (h1.next+1) 0 n n] 4 false):=by rw[x3.gt _ om]; exact gv
 have w3:bQ h3 (h1.next+2) 1 [cv]=some (h3.put (h1.next+2) (.cells [.int .i64 (n:Nat),cv,.sl h1.next 0 n n,.sl (h1.next+1) 0 n n] 4 false)):=by rw[dp gv3]; rfl
 obtain⟨cc,co⟩:=c1.cells;refine bH (M4 t3 cc co w3) ?_;have u4:=Mv (o:=.cells [.int .i64 (n:Nat),cv,.sl h1.next 0 n n,.sl (h1.next+1) 0 n n] 4 false) gv3;generalize h3.put (h1.next+2) (.cells [.int .i64 (n:Nat),cv,.sl h1.next 0 n n,.sl (h1.next+1) 0 n n] 4 false)=h4 at *
 have n4:=u4.nx;have c4:=c1.upd u4 om;have gv4:=u4.get;have go4:h4.get h1.next=some (.cells (cm [.nils] n) 1 false):=by rw[u4.ne om,x3.gt _ om]; exact go
 have gi4:h4.get (h1.next+1)=some (.cells (cm [.nils] n) 1 false):=by rw[u4.ne om,x3.gt _ om]; exact gi
 have g4:h4.get h.next=some (.cells [.int .i64 (n:Nat),ev] 2 false):=by rw[u4.ne om,x3.gt _ om]; exact g2
 have x4:Ext h1.next h1 h4:=x2.trans ((x3.mono om).trans (u4.ext om));have r4:ak h4 h.next 1 1=some [ev]:=by rw[aU g4]; rfl
 have he4:SlE h4 ev es:=((he.ext x0 (ab _)).ext x1 (ab _)).ext x4 (ab _);clear gv3 w3 u4 c1 go gi gv g2 r2 he2;have hlen:=he.len;rw[ai] at hlen;have rl:(cm [AV.nils] n).length=n:=by rw[fq,cF]
 refine ae (ae (aj (M4 t1 t3 r4 hlen) ?_))
 refine fA (α:=List AV×List AV) (N:=es.length) (λ_ _=>[(3,.ptr (h1.next+2) 0),(27,ev)])
  (λk a h'=>h'.get (h1.next+2)=some (.cells [.int .i64 (n:Nat),cv,.sl h1.next 0 n n,.sl (h1.next+1) 0 n n] 4 false)∧h'.get h1.next=some (.cells a.1 1 false)∧h'.get (h1.next+1)=some (.cells a.2 1 false)∧a.1.length=n∧a.2.length=n∧Rw h' h4.next (a.1++a.2) (lm n (es.take k))∧Ext h1.next h1 h'∧IsSl h' 2 h2.next cv (es.flatMap eE)∧h4.next≤h'.next)
  (cm [.nils] n,cm [.nils] n) (λ_ _=>rfl) om (H1 t3) ⟨gv4,go4,gi4,rl,rl,Rw.nil h4 n,x4,c4,ab _⟩ ?_ ?_
 ·rintro k ⟨os,is⟩ ts h5 hk ⟨j1,j2,j3,j4,j5,j6,j7,j8,j9⟩ ⟨ei,en,e3,e27,-⟩;simp only at ei en e3 e27 j2 j3 j4 j5 j6;obtain⟨a,b,eab,ha,hb⟩:=mw (bD.1 m4 _ (aP hk));obtain⟨b1,p1,a1,r1,_⟩:=(((he.ext x0 (ab _)).ext x1 (ab _)).ext j7 (ab _)).at (cq (f:=eE) hk);rw[eab] at r1;obtain⟨h6,w6,x6,g6,n6⟩:=im (h:=h5) (z:=[.int .i64 0,.int .i64 0]) (cs:=[.int .i64 (a:Nat),.int .i64 (b:Nat)]) (e:=2) rfl;refine ae (aj (by simp only[am,aK,simprocAttr,e3,e27,ei,a1,r1,eE,w6]<;>rfl) ?_);obtain⟨x7,p7,n7,y7⟩:=gr (h:=h6) (o:=.cells [.int .i64 (k:Nat)] 1 false);have kg:∀ c,c<h6.next→(h6.keep 1).get c=h6.get c:=λc hc=>by rw[AH.keep_get,if_neg om]
  have q7:(h6.keep 1).get h6.next=some .resv:=fG;have j1':h6.get (h1.next+2)=some (.cells [.int .i64 (n:Nat),cv,.sl h1.next 0 n n,.sl (h1.next+1) 0 n n] 4 false):=by rw[x6.gt _ om]; exact j1
  have j2':h6.get h1.next=some (.cells os 1 false):=by rw[x6.gt _ om]; exact j2
  have j3':h6.get (h1.next+1)=some (.cells is 1 false):=by rw[x6.gt _ om]; exact j3
  have v1:ak (h6.keep 1) (h1.next+2) 2 1=some [.sl h1.next 0 n n]:=by rw[aU (by rw[kg _ om]; exact j1')]; rfl
  have v2:ak (h6.keep 1) h5.next 0 1=some [.int .i64 (a:Nat)]:=by rw[aU (by rw[kg _ om]; exact g6)]; rfl
  have hR:Rw ((h6.keep 1).put h6.next (.cells [.int .i64 (k:Nat)] 1 false)) h4.next (os++is) (lm n (es.take k)):=j6.cong λc hc hcn=>by rw[y7 _ om,x6.gt _ om]
  obtain⟨va,va',h8,s1,s2,s3,s4,s5,s6,s7,s8⟩:=hR.push (i:=a) (x:=h6.next) (k:=(k:Nat)) (vm ha) om p7 om (λj b n q=>by have:=j6.lt q; omega)
   (by have:=fk (λe=>decide (e.1=((a:Nat):Int))) (es.take k) 0; rw[aS] at this; unfold dz; omega)
  rw[bJ om] at s1;have v3:ak (h6.keep 1) h1.next a 1=some [va]:=bm (by rw[kg _ om]; exact j2') s1;have ia:eR ((a:Nat):Int) n=some a:=cJ ha;have d1:h8.get (h1.next+2)=some (.cells [.int .i64 (n:Nat),cv,.sl h1.next 0 n n,.sl (h1.next+1) 0 n n] 4 false):=by rw[s6.gt _ om,y7 _ om]; exact j1'
  have d2:h8.get h1.next=some (.cells os 1 false):=by rw[s6.gt _ om,y7 _ om]; exact j2'
  have d3:h8.get (h1.next+1)=some (.cells is 1 false):=by rw[s6.gt _ om,y7 _ om]; exact j3'
  have d5:h8.get h5.next=some (.cells [.int .i64 (a:Nat),.int .i64 (b:Nat)] 2 false):=by rw[(s8 _ om (λj b n q=>by have:=j6.lt q; omega)).1,y7 _ om]; exact g6
  have f1:ak h8 (h1.next+2) 2 1=some [.sl h1.next 0 n n]:=by rw[aU d1]; rfl
  have f2:ak h8 h5.next 0 1=some [.int .i64 (a:Nat)]:=by rw[aU d5]; rfl
  have f3:=eA (v:=va') d2 (show a<os.length by omega);have u9:=Mv (o:=.cells (os.set a va') 1 false) d2;refine ae (oa (by simp only[am,aK,simprocAttr,e3,v1,v2,v3,eN,et q7,ia,aO,s2,s3,s4,f1,f2,f3]<;>rfl) ?_);generalize h8.put h1.next (.cells (os.set a va') 1 false)=h9 at *
  have n9:=u9.nx;have hR9:Rw h9 h4.next (os.set a va'++is) ((lm n (es.take k)).set a (dz (es.take k) a++[((k:Nat):Int)])):=by
   rw[← yh _ _ om];exact s5.cong λc hc _=>u9.ne om
  have l9:∀ (j b n:Nat),(os.set a va'++is)[j]?=some (AV.sl b 0 n n)→b≠h5.next:=λj b n' q=>by
   rw[← yh _ _ om] at q;exact (s8 _ om (λj b n q=>by have:=j6.lt q; omega)).2 j b n' q
  have l6:∀ (j b n:Nat),(os.set a va'++is)[j]?=some (AV.sl b 0 n n)→b<h9.next:=λj b n' q=>(hR9.lt q).1;obtain⟨X7,P7,N7,Y7⟩:=gr (h:=h9) (o:=.cells [.int .i64 (k:Nat)] 1 false);have kg2:∀ c,c<h9.next→(h9.keep 1).get c=h9.get c:=λc hc=>by rw[AH.keep_get,if_neg om]
  have Q7:(h9.keep 1).get h9.next=some .resv:=fG;have J1:h9.get (h1.next+2)=some (.cells [.int .i64 (n:Nat),cv,.sl h1.next 0 n n,.sl (h1.next+1) 0 n n] 4 false):=by rw[u9.ne om]; exact d1
  have J3:h9.get (h1.next+1)=some (.cells is 1 false):=by rw[u9.ne om]; exact d3
  have J5:h9.get h5.next=some (.cells [.int .i64 (a:Nat),.int .i64 (b:Nat)] 2 false):=by rw[u9.ne om]; exact d5
  have V1:ak (h9.keep 1) (h1.next+2) 3 1=some [.sl (h1.next+1) 0 n n]:=by rw[aU (by rw[kg2 _ om]; exact J1)]; rfl
  have V2:ak (h9.keep 1) h5.next 1 1=some [.int .i64 (b:Nat)]:=by rw[aU (by rw[kg2 _ om]; exact J5)]; rfl
  have HR:Rw ((h9.keep 1).put h9.next (.cells [.int .i64 (k:Nat)] 1 false)) h4.next (os.set a va'++is) ((lm n (es.take k)).set a (dz (es.take k) a++[((k:Nat):Int)])):=hR9.cong λc hc hcn=>Y7 _ om
  obtain⟨vb,vb',H8,S1,S2,S3,S4,S5,S6,S7,S8⟩:=HR.push (i:=n+b) (x:=h9.next) (k:=(k:Nat)) (xs:=dg (es.take k) b) (by rw[dq om]; exact yM hb) om P7 om (λj b n q=>by have:=l6 j b n q; omega)
   (by have:=fk (λe=>decide (e.2=((b:Nat):Int))) (es.take k) 0; rw[aS] at this; unfold dg; omega)
  have hol:(os.set a va').length=n:=by rw[ct,j4]
  rw[bE om,hol,eD] at S1;rw[uW _ _ om,hol,eD,DC hk ha hb eab] at S5;have V3:ak (h9.keep 1) (h1.next+1) b 1=some [vb]:=bm (by rw[kg2 _ om]; exact J3) S1;have ib:eR ((b:Nat):Int) n=some b:=cJ hb;have D1:H8.get (h1.next+2)=some (.cells [.int .i64 (n:Nat),cv,.sl h1.next 0 n n,.sl (h1.next+1) 0 n n] 4 false):=by rw[S6.gt _ om,Y7 _ om]; exact J1
  have D2:H8.get h1.next=some (.cells (os.set a va') 1 false):=by rw[S6.gt _ om,Y7 _ om]; exact u9.get
  have D3:H8.get (h1.next+1)=some (.cells is 1 false):=by rw[S6.gt _ om,Y7 _ om]; exact J3
  have D5:H8.get h5.next=some (.cells [.int .i64 (a:Nat),.int .i64 (b:Nat)] 2 false):=by rw[(S8 _ om l9).1,Y7 _ om]; exact J5
  have F1:ak H8 (h1.next+2) 3 1=some [.sl (h1.next+1) 0 n n]:=by rw[aU D1]; rfl
  have F2:ak H8 h5.next 1 1=some [.int .i64 (b:Nat)]:=by rw[aU D5]; rfl
  have F3:=eA (v:=vb') D3 (show b<is.length by omega);have U9:=Mv (o:=.cells (is.set b vb') 1 false) D3;refine oa (by simp only[am,aK,simprocAttr,e3,V1,V2,V3,eN,et Q7,ib,aO,S2,S3,S4,F1,F2,F3]<;>rfl) ?_;generalize H8.put (h1.next+1) (.cells (is.set b vb') 1 false)=H9 at *
  have N9:=U9.nx;refine⟨(os.set a va',is.set b vb'),⟨by rw[U9.ne om]; exact D1,by rw[U9.ne om]; exact D2,U9.get,hol,by rw[ct,j5],S5.cong λc hc _=>U9.ne om,?_,?_,om⟩,H4 ei en e3 e27⟩
  ·exact j7.trans ((x6.mono om).trans ((x7.mono om).trans ((s6.mono om).trans ((u9.ext (ab _)).trans ((X7.mono om).trans ((S6.mono om).trans (U9.ext om)))))))
  ·refine j8.cong λb n e hb=>?_;have:=c4.lt e;rw[U9.ne om,S6.gt _ om,Y7 _ om,u9.ne om,s6.gt _ om,y7 _ om,x6.gt _ om]
 ·rintro⟨os,is⟩ ts h5 ⟨j1,j2,j3,j4,j5,j6,j7,j8,j9⟩ ⟨e3,e27,-⟩;simp only at e3 e27 j2 j3 j4 j5 j6;rw[bp] at j6;refine ae (aj (M1 e3) ?_);have hx:Ext h.next h h5:=x0.trans ((x1.mono om).trans (j7.mono om));refine br ⟨.ptr (h1.next+2) 0,(by simp only[rs,rf61,am,aK,simprocAttr]<;>rfl),⟨h1.next+2,cv,os,is,h1.next,h1.next+1,rfl,j1,Mq om (λ_=>rfl) j8,j2,j3,j4,j5,λx v q=>?_,λx v q=>?_,m1,m2,m3,m4⟩,hx⟩
  ·have hxn:x<n:=by rw[← j4]; exact (aI.1 q).1
   exact Mq om (λ_=>rfl) (j6.2.1 x v _ (by rw[bJ om]; exact q) (vm hxn))
  ·have hxn:x<n:=by rw[← j5]; exact (aI.1 q).1
   exact Mq om (λ_=>rfl) (j6.2.1 (n+x) v _ (by rw[bE om,j4,eD]; exact q) (yM hxn))
theorem nV {p:Int×Int→Bool}:∀ (es:List (Int×Int)) (i:Nat),(∀ e∈es,p e=false)→dr p es i=[]
 | [],_,_=>rfl
 | e::r,i,h=>by
   simp only[dr,h e (by simp),bL,if_false];exact nV r (i+1) λe' he=>h e' (by simp [he])
theorem kI {n:Int}{e:Int×Int} (h:okE n e=true):0≤e.1∧e.1<n∧0≤e.2∧e.2<n:=by
 simp only[okE,aM,aJ] at h;omega
theorem DR {n:Int}{es:List (Int×Int)} (he:es.all (okE n)=true) {x:Int} (hx:¬ (0≤x∧x<n)):dz es x=[] :=
 nV es 0 λe h=>by
  have:=kI (bD.1 he e h);simp only[bZ];omega
theorem Hf {n:Int}{es:List (Int×Int)} (he:es.all (okE n)=true) {x:Int} (hx:¬ (0≤x∧x<n)):dg es x=[] :=
 nV es 0 λe h=>by
  have:=kI (bD.1 he e h);simp only[bZ];omega
theorem yw {h:AH}{b ob n:Nat}{ls:List AV}{rest:List AV}{x:Int}{f:Int→List Int} (hb:h.get b=some (.cells (.int .i64 (n:Nat)::rest) 4 false)) (ho:h.get ob=some (.cells ls 1 false)) (hl:ls.length=n) (hn:n≤64)
 (hr:∀ (y:Nat) (v:AV),ls[y]?=some v→SlI h v (f y)) (hs:∀ y,(f y).length<2 ^ 30) (h0:¬ (0≤x∧x<n)→f x=[]) :
 C prg 197 [.ptr b 0,.sl ob 0 n n,.int .i64 x] h λr h'=>IsSl h' 1 h.next r ((f x).flatMap eI)∧Ext h.next h h':=by
 refine Mw pf197 ?_;refine ae (aj (Mi0) ?_);have rn:ak h b 0 1=some [.int .i64 (n:Nat)]:=bm hb rfl;by_cases q1:x<0
 ·have c1:decide (x<0)=true:=aH q1;refine ae (ae (aj (Mi1 c1) ?_));refine db (Z0) (ae (aj (M0) ?_));exact br ⟨.nils,(by simp only[rs,rf197,am,aK,simprocAttr]<;>rfl),.inl ⟨rfl,by rw[h0 om]; rfl⟩,Mu⟩
 have c1:decide (x<0)=false:=aw q1;by_cases q2:((n:Nat):Int)≤x
 ·have c2:decide (((n:Nat):Int)≤x)=true:=aH q2;refine ae (ae (aj (Mi3 c1 c2 rn) ?_));refine db (Z0) (ae (aj (M0) ?_));exact br ⟨.nils,(by simp only[rs,rf197,am,aK,simprocAttr]<;>rfl),.inl ⟨rfl,by rw[h0 om]; rfl⟩,Mu⟩
 have c2:decide (((n:Nat):Int)≤x)=false:=aw q2;refine ae (ae (aj (Mi3 c1 c2 rn) ?_));refine dL (Z0) (bu ?_);obtain⟨y,rfl⟩:∃ y:Nat,x=y:=⟨x.toNat,om⟩
 have hy:y<ls.length:=om;have ix:eR ((y:Nat):Int) n=some y:=cJ om;have hv:=hr y _ (aq hy);have rv:=bm ho (aq hy);refine ae (bN (bo 4 (Mi3 ix @aO rv) rfl (Zi3 ix @aO rv) (Mi3 ix @aO rv) (EG hv (Nat.lt_trans (hs y) (by decide))) λr h2 hq=>?_));refine bH (M0) ?_;exact br ⟨r,(by simp only[rs,rf197,am,aK,simprocAttr]<;>rfl),hq.1,hq.2.1⟩
theorem Cq {h:AH}{vp:AV}{n:Nat}{es:List (Int×Int)}{x:Int} (hv:IsView h vp n es):C prg 152 [vp,.int .i64 x] h λr h'=>IsSl h' 1 h.next r ((dz es x).flatMap eI)∧Ext h.next h h':=by
 obtain⟨b,ev,os,is,ob,ib,rfl,g1,g2,g3,g4,g5,g6,g7,g8,m1,m2,m3,m4⟩:=hv;refine Mw pf152 ?_;have r1:ak h b 2 1=some [.sl ob 0 n n]:=bm g1 rfl;refine ae (aj (Mi0) ?_);refine ae (bN (bo 6 (Mi1 r1) rfl (Zi1 r1) (Mi1 r1) (yw (f:=dz es) (x:=x) g1 g3 g5 m2 (λy v q=>g7 y v q) (λy=>Nat.lt_of_le_of_lt (fk _ _ _) om) (DR m4)) λr h2 hq=>?_));refine bH (M0) ?_;exact br ⟨r,(by simp only[rs,rf152,am,aK,simprocAttr]<;>rfl),hq⟩
theorem Kh {h:AH}{vp:AV}{n:Nat}{es:List (Int×Int)}{x:Int} (hv:IsView h vp n es):C prg 170 [vp,.int .i64 x] h λr h'=>IsSl h' 1 h.next r ((dg es x).flatMap eI)∧Ext h.next h h':=by
 obtain⟨b,ev,os,is,ob,ib,rfl,g1,g2,g3,g4,g5,g6,g7,g8,m1,m2,m3,m4⟩:=hv;refine Mw pf170 ?_;have r1:ak h b 3 1=some [.sl ib 0 n n]:=bm g1 rfl;refine ae (aj (Mi0) ?_);refine ae (bN (bo 6 (Mi1 r1) rfl (Zi1 r1) (Mi1 r1) (yw (f:=dg es) (x:=x) g1 g4 g6 m2 (λy v q=>g8 y v q) (λy=>Nat.lt_of_le_of_lt (fk _ _ _) om) (Hf m4)) λr h2 hq=>?_));refine bH (M0) ?_;exact br ⟨r,(by simp only[rs,rf170,am,aK,simprocAttr]<;>rfl),hq⟩
open Go.Am
def sy (es:List (Int×Int)) (out:List Int) (v:Int):Nat:=es.countP λe=>decide (e.2=v)&&!out.contains e.1
def hsM (es:List (Int×Int)) (x:Int):List Int:=(es.filter λe=>decide (e.1=x)).map (·.2)
def xK (w:List Int) (b:Int):List Int:=w.set b.toNat (w.getD b.toNat 0-1)
def mH (hs:List Int) (w:List Int):List Int:=hs.foldl xK w
theorem zV (w:List Int) (b:Int):(xK w b).length=w.length:=by simp [xK]
theorem ul:∀ (hs w:List Int),(mH hs w).length=w.length
 | [],_=>rfl
 | b::r,w=>by
   show (mH r (xK w b)).length=_;rw[ul r,zV]
theorem pY {w:List Int}{i j:Nat}{x:Int} (hi:i<w.length):(w.set i x).getD j 0=if i=j then x else w.getD j 0:=by
 rw[aL,dv,aL];by_cases e:i=j
 ·subst e; simp [hi]
 ·simp [e]
theorem um:∀ (hs w:List Int) (v:Nat),(∀ b∈hs,0≤b∧b.toNat<w.length)→(mH hs w).getD v 0=w.getD v 0-(hs.count ((v:Nat):Int):Nat)
 | [],w,v,_=>by simp [mH]
 | b::r,w,v,h=>by
   obtain⟨h1,h2⟩:=h b (by simp);show (mH r (xK w b)).getD v 0=_;rw[um r (xK w b) v (λc hc=>by rw[zV]; exact h c (by simp [hc])),xK,pY h2,uK];by_cases e:b.toNat=v
   ·have:b=((v:Nat):Int):=om;subst this;simp;omega
   ·have:¬ b=((v:Nat):Int):=om;simp [e,this]
structure Kahn (n:Nat) (es:List (Int×Int)) (out ws:List Int):Prop where
 len:ws.length=n
 nd:out.Nodup
 rng:∀ v∈out,0≤v∧v<n
 neg:∀ v:Nat,v<n→((v:Nat):Int)∈out→ws.getD v 0<0
 cnt:∀ v:Nat,v<n→¬ ((v:Nat):Int)∈out→ws.getD v 0=(sy es out v:Nat)
 ord:∀ p v q,out=p++v::q→∀ e∈es,e.2=v→e.1∈p
 lo:∀ v:Nat,v<n→-(200*(out.length:Nat):Int)≤ws.getD v 0
theorem Hk (es:List (Int×Int)) (x v:Int):(hsM es x).count v=es.countP λe=>decide (e.2=v)&&decide (e.1=x):=by
 unfold hsM;rw[List.count_eq_countP,List.countP_map,List.countP_filter];congr 1
theorem HS {es:List (Int×Int)}{out:List Int}{x v:Int} (hx:¬ x∈out):sy es (out++[x]) v+(hsM es x).count v=sy es out v:=by
 rw[Hk];unfold sy;induction es with
 | nil=>rfl
 | cons e r ih =>
   simp only[dD];by_cases h1:e.2=v
   ·by_cases h2:e.1=x
    ·have h3:¬ e.1∈out:=by rw[h2]; exact hx
     simp [h1,h2,hx] at ih ⊢;omega
    ·by_cases h3:e.1∈out
     ·simp [h1,h2,h3] at ih ⊢;omega
     ·simp [h1,h2,h3] at ih ⊢;omega
   ·simp [h1] at ih ⊢;omega
theorem Hj {n:Nat}{es:List (Int×Int)} (he:es.all (okE n)=true) {x b:Int} (hb:b∈hsM es x):0≤b∧b<n:=by
 unfold hsM at hb;obtain⟨e,h1,rfl⟩:=bB.1 hb;have:=kI (bD.1 he e (bj.1 h1).1);omega
theorem Kahn.step {n:Nat}{es:List (Int×Int)}{out ws:List Int} (k:Kahn n es out ws) (he:es.all (okE n)=true) (hl:es.length≤128) {x:Nat} (hx:x<n) (h0:ws.getD x 0=0) :
 Kahn n es (out++[((x:Nat):Int)]) (mH (hsM es x) (ws.set x (-1))):=by
 have hno:¬ ((x:Nat):Int)∈out:=λh=>by have:=k.neg x hx h; omega
 have hxl:x<ws.length:=by rw[k.len]; exact hx
 have hmem:∀ b∈hsM es ((x:Nat):Int),0≤b∧b.toNat<(ws.set x (-1)).length:=λb hb=>by
  have:=Hj he hb;rw[ct,k.len];omega
 have hg:∀ v:Nat,(mH (hsM es x) (ws.set x (-1))).getD v 0=(if x=v then -1 else ws.getD v 0)-((hsM es x).count ((v:Nat):Int):Nat):=λv=>by
  rw[um _ _ v hmem,pY hxl]
 have hc0:sy es out ((x:Nat):Int)=0:=by have:=k.cnt x hx hno; omega
 refine⟨by rw[ul,ct,k.len],?_,?_,?_,?_,?_,?_⟩
 ·rw[bV];refine⟨k.nd,by simp,λa ha b hb=>?_⟩;simp only[aA,bq,or_false] at hb;subst hb;exact λe=>hno (e▸ha)
 ·intro v hv;rw[aV] at hv;rcases hv with hv|hv
  ·exact k.rng v hv
  ·simp only[aA,bq,or_false] at hv;subst hv;omega
 ·intro v hv hm;rw[hg];rw[aV] at hm;by_cases e:x=v
  ·rw[if_pos e]; omega
  ·rw[if_neg e];have:((v:Nat):Int)∈out:=by
    rcases hm with hm|hm
    ·exact hm
    ·simp only[aA,bq,or_false] at hm; omega
   have:=k.neg v hv this;omega
 ·intro v hv hm;rw[aV,not_or] at hm;have e:¬ x=v:=λe=>hm.2 (by subst e; simp);rw[hg,if_neg e,k.cnt v hv hm.1];have:=HS (es:=es) (v:=((v:Nat):Int)) hno;omega
 ·intro p v q hq e hee hev;by_cases hqn:q=[]
  ·subst hqn;obtain⟨rfl,h2⟩:=List.append_inj' hq rfl;simp only[cI,and_true] at h2;subst h2;by_cases hm:e.1∈out
   ·exact hm
   ·exfalso;unfold sy at hc0;rw[jM] at hc0;exact hc0 e hee (by simp [hev,hm])
  ·have h1:out=p++v::q.dropLast:=by
    have h3:q=q.dropLast++[q.getLast hqn]:=(List.dropLast_concat_getLast hqn).symm;rw[h3,← bU,← cB] at hq;exact (List.append_inj' hq rfl).1
   exact k.ord p v _ h1 e hee hev
 ·intro v hv;rw[hg,aN];have h1:=k.lo v hv;have h2:(hsM es ((x:Nat):Int)).count ((v:Nat):Int)≤128:=by
   refine cn yj ?_;unfold hsM;rw[ai];exact cn (dj _ _) hl
  simp only[bf,bt];split
  ·omega
  ·omega
theorem qd (p:Int×Int→Bool):∀ (es:List (Int×Int)) (i:Nat),(dr p es i).length=es.countP p
 | [],_=>rfl
 | e::r,i=>by
   have:=qd p r (i+1);rw[dD];simp only[dr];cases p e
   ·simpa using this
   ·simpa using this
theorem Kahn.start {n:Nat}{es:List (Int×Int)}:Kahn n es [] ((List.range n).map λx=>(((dg es ((x:Nat):Int)).length:Nat):Int)):=by
 refine⟨by simp,by simp,by simp,by simp,λv hv _=>?_,λp v q h=>by simp at h,λv hv=>?_⟩
 ·rw[aL,aX,dn hv];simp only[aQ,dh];unfold dg sy;rw[qd];simp
 ·rw[aL,aX,dn hv];simp
theorem pu (p:Int×Int→Bool):∀ (es pre:List (Int×Int)),(dr p es pre.length).map (λi=>((pre++es)[i.toNat]?).getD (0,0))=es.filter p
 | [],pre=>by simp [dr]
 | e::r,pre=>by
   have ih:=pu p r (pre++[e]);rw[aN,bf,bt,bM,cB,bU,cH] at ih;simp only[dr,sE];split
   ·rw[cM,ih];congr 1;rw[aY,bE (ab _),eV];rfl
   ·exact ih
theorem fV (p:Int×Int→Bool):∀ (es:List (Int×Int)) (i:Nat) (x:Int),x∈dr p es i→∃ j:Nat,x=((i+j:Nat):Int)∧j<es.length∧∃ e,es[j]?=some e∧p e=true
 | [],i,x,h=>by simp [dr] at h
 | e::r,i,x,h=>by
   have key:x∈dr p r (i+1)→∃ j:Nat,x=((i+j:Nat):Int)∧j<(e::r).length∧∃ e',(e::r)[j]?=some e'∧p e'=true:=λh=>by
    obtain⟨j,h1,h2,e',h3,h4⟩:=fV p r (i+1) x h;exact⟨j+1,by rw[h1]; congr 1; omega,by simp only[bf]; omega,e',by simpa using h3,h4⟩
   simp only[dr] at h;split at h
   ·rename_i hp
    rw[aA] at h;rcases h with rfl|h
    ·exact⟨0,rfl,by simp,e,rfl,hp⟩
    ·exact key h
   ·exact key h
theorem tn (es:List (Int×Int)) (x:Int):(dz es x).map (λi=>((es[i.toNat]?).getD (0,0)).2)=hsM es x:=by
 have:=pu (λe=>decide (e.1=x)) es [];simp only[bt,cH] at this;unfold dz hsM;rw[← this,gQ];rfl
def Acy (es:List (Int×Int)):Prop:=∃ rank:Int→Nat,∀ e∈es,rank e.1<rank e.2
theorem Kahn.acy {n:Nat}{es:List (Int×Int)}{out ws:List Int} (k:Kahn n es out ws) (he:es.all (okE n)=true) (hz:∀ v:Nat,v<n→ws.getD v 0≠0) :
 (∀ v:Nat,v<n→ws.getD v 0≤0)↔Acy es:=by
 constructor
 ·intro h;have hall:∀ x:Int,0≤x→x<n→x∈out:=λx h1 h2=>by
   refine Classical.byContradiction λhm=>?_;have e:x=((x.toNat:Nat):Int):=om;rw[e] at hm;have h3:=k.cnt x.toNat om hm;have h4:=h x.toNat om;have h5:=hz x.toNat om;omega
  refine⟨λx=>out.idxOf x,λe hee=>?_⟩;have ho:=kI (bD.1 he e hee);have hm:=hall e.2 om om;obtain⟨p,q,hpq⟩:=pH hm;have hp:=k.ord p e.2 q hpq e hee rfl;have hn:¬ e.2∈p:=λh=>by
   have:=k.nd;rw[hpq,bV] at this;exact this.2.2 _ h _ (by simp) rfl
  show out.idxOf e.1<out.idxOf e.2;rw[hpq,Fe,Fe,if_pos hp,if_neg hn];have:=List.idxOf_lt_length_of_mem hp;omega
 ·rintro⟨rank,hr⟩ v hv;have key:∀ N,∀ v:Nat,v<n→rank v<N→((v:Nat):Int)∈out:=by
   intro N;induction N with
   | zero=>intro v _ h; omega
   | succ N ih =>
     intro v hv hN;refine Classical.byContradiction λhm=>?_;have h1:=k.cnt v hv hm;have h2:=hz v hv;have h3:0<sy es out ((v:Nat):Int):=om;unfold sy at h3;rw[jL] at h3;obtain⟨e,hee,h4⟩:=h3;simp only[aM,aJ,dR,fe,bZ] at h4;have h5:=hr e hee;rw[h4.1] at h5;have ho:=kI (bD.1 he e hee);have e1:e.1=((e.1.toNat:Nat):Int):=om;refine h4.2 ?_;rw[e1];exact ih e.1.toNat om (by rw[← e1]; omega)
  have:=k.neg v hv (key (rank v+1) v hv om);omega
theorem Kahn.back {n:Nat}{es:List (Int×Int)}{out ws:List Int} (k:Kahn n es out ws) (he:es.all (okE n)=true) (hz:∀ v:Nat,v<n→ws.getD v 0≠0) {v:Nat} (hv:v<n) (hp:0<ws.getD v 0) :
 ∃ e∈es,e.2=((v:Nat):Int)∧0<ws.getD e.1.toNat 0:=by
 have hm:¬ ((v:Nat):Int)∈out:=λh=>by have:=k.neg v hv h; omega
 have h1:=k.cnt v hv hm;have h3:0<sy es out ((v:Nat):Int):=om;unfold sy at h3;rw[jL] at h3;obtain⟨e,hee,h4⟩:=h3;simp only[aM,aJ,dR,fe,bZ] at h4;have ho:=kI (bD.1 he e hee);have e1:e.1=((e.1.toNat:Nat):Int):=om;refine⟨e,hee,h4.1,?_⟩;have h5:=k.cnt e.1.toNat om (by rw[← e1]; exact h4.2);have h6:=hz e.1.toNat om;omega
open Go.Am
theorem jZ {α:Type} (P:α→Bool):∀ (l:List α) (i:Nat),0≤dW P l i→∃ k,dW P l i=((i+k:Nat):Int)∧∃ (hk:k<l.length),P l[k]=true
 | [],i,h=>by simp [dW] at h
 | x::r,i,h=>by
   simp only[dW] at h ⊢;by_cases hp:P x=true
   ·exact⟨0,by simp [hp],by simp,by simpa using hp⟩
   ·simp only[hp,if_false] at h ⊢;obtain⟨k,h1,h2,h3⟩:=jZ P r (i+1) (by simpa using h);exact⟨k+1,by simp only[bL,if_false,h1]; congr 1; omega,by simp only[bf]; omega,by simpa using h3⟩
theorem pZ {α:Type} (P:α→Bool) (l:List α) (i:Nat) (h:dW P l i<0):∀ x∈l,P x=false:=by
 have:=(jR P l i).2.1 h;rw[qt] at this;intro x hx;simpa using this x hx
theorem mD (xs:List Int):xs.flatMap eI=xs.map (AV.int .i64):=by
 induction xs with
 | nil=>rfl
 | cons x r ih=>rw[fo,ih]; rfl
theorem AD {xs:List Int}{i:Nat}{z:Int}:(xs.flatMap eI).set i (.int .i64 z)=(xs.set i z).flatMap eI:=by
 rw[mD,mD,List.map_set]
theorem Im {xs:List Int}{i:Nat} (hi:i<xs.length):(xs.flatMap eI)[i]?=some (.int .i64 (xs.getD i 0)):=by
 rw[mD,aX,aq hi,aL,aq hi];rfl
theorem dS (xs:List Int):(xs.flatMap eI).length=xs.length:=by rw[mD,ai]
theorem HD {xs:List Int}{b:Nat}:xK xs ((b:Nat):Int)=xs.set b (xs.getD b 0-1):=rfl
theorem Km {h:AH}{vp:AV}{n:Nat}{es:List (Int×Int)} (hv:IsView h vp n es) :
 C prg 108 [vp] h λr h'=>∃ a w out ws,r=.tup [a,w]∧IsSl h' 1 h.next w (ws.flatMap eI)∧Kahn n es out ws∧(∀ v:Nat,v<n→ws.getD v 0≠0)∧Ext h.next h h':=by
 obtain⟨b,ev,os,is,ob,ib,rfl,g1,g2,g3,g4,g5,g6,g7,g8,m1,m2,m3,m4⟩:=hv;refine Mw pf108 ?_;have r1:ak h b 3 1=some [.sl ib 0 n n]:=bm g1 rfl;refine ae (aj (Mi0) ?_);refine ae (ae (aj (Mi1 r1) ?_))
 refine fA (α:=AV) (N:=n) (λk a=>[(0,.ptr b 0),(12,.sl ib 0 n n),(3,a),(2,.nils)])
  (λk a h'=>IsSl h' 1 h.next a (((List.range k).map λx=>(((dg es ((x:Nat):Int)).length:Nat):Int)).flatMap eI)∧Ext h.next h h') .nils (λ_ _=>rfl) om (Hi0) ⟨.inl ⟨rfl,rfl⟩,Mu⟩ ?_ ?_
 ·rintro k a ts h1 hk ⟨j1,j2⟩ ⟨ei,en,e0,e12,e3,e2,-⟩;simp only at ei en e0 e12 e3 e2;have ik:eR ((k:Nat):Int) n=some k:=cJ hk;have rk:=bm (show h1.get ib=some (.cells is 1 false) by rw[j2.gt _ (AH.lt_of_get g4)]; exact g4) (aq (show k<is.length by omega));have lk:=(g8 k _ (aq (show k<is.length by omega))).len;rw[ai] at lk;have hlen:(((List.range k).map λx=>(((dg es ((x:Nat):Int)).length:Nat):Int)).flatMap eI).length=k:=by rw[dS]; simp
  obtain⟨s',h2,a1,i1,x1,n1⟩:=j1.push (bytes:=8) (eI ((dg es ((k:Nat):Int)).length:Nat)) j2.nx om rfl rfl (by rw[hlen]; unfold aW; omega) (by rw[hlen]; unfold aW; omega);rw[show eI (((dg es ((k:Nat):Int)).length:Nat):Int)=[.int .i64 (((dg es ((k:Nat):Int)).length:Nat):Int)] from rfl] at a1 i1;refine ae (aj (M5 e12 ei ik @aO rk) ?_);refine aj (by simp only[am,aK,simprocAttr,e3,lk,a1]<;>rfl) ?_;refine⟨s',⟨?_,j2.trans x1⟩,H5 ei en e0 e12 e2⟩;rw[du,cj,bC];exact i1
 ·rintro w0 ts h1 ⟨j1,j2⟩ ⟨e0,e12,e3,e2,-⟩;simp only at e0 e12 e3 e2;rcases j1 with ⟨_,hz⟩|⟨wb,nn,hwb,rfl,gw,hwl⟩
  ·exfalso;have:=congrArg List.length hz;rw[dS] at this;simp at this;omega
  have hnn:nn=n:=by rw[dS] at hwl; simp at hwl; omega
  subst hnn
  refine cY (fX (λm ts h'=>∃ (a:AV) (out ws:List Int),m=nn-out.length∧Kahn nn es out ws∧IsSl h' 1 (wb+1) a (out.flatMap eI)∧h'.get wb=some (.cells (ws.flatMap eI) 1 false)∧Ext h.next h h'∧wb<h'.next∧Held [(0,.ptr b 0),(3,.sl wb 0 nn nn),(2,a)] ts) ?_ (n:=nn)
   ⟨.nils,[],_,rfl,Kahn.start,.inl ⟨rfl,rfl⟩,gw,j2,AH.lt_of_get gw,H3 e0 e3 e2⟩)
  clear e0 e12 e3 e2 gw j2;rintro m ts h2 ⟨a,out,ws,rfl,k,ia,gw,x2,hwn,e0,e3,e2,-⟩;simp only at e0 e3 e2;have hlo:out.length≤nn:=by
   have h1:out ⊆ (List.range nn).map λx=>((x:Nat):Int):=λv hv=>by
    have:=k.rng v hv;exact bB.2 ⟨v.toNat,bF.2 om,om⟩
   have:=k.nd.length_le_of_subset h1;simpa using this
  have hsl:SlI h2 (.sl wb 0 nn nn) ws:=Mq (lo:=0) om (λ_=>rfl) (.inr ⟨wb,nn,om,rfl,gw,by rw[dS,k.len,aO]⟩);refine cY (ae (bN (bo 1 (M1 e3) rfl (Z1 e3) (M1 e3) (pX (y:=0) hsl (by rw[k.len]; omega)) λr h3 hq=>?_)));obtain⟨rfl,x3⟩:=hq;refine bH (M0) ?_;refine ae (ae (aj (M0) ?_));refine cr (t:=decide (dW (0==·) ws 0<0)) (Z0) (λq=>?_) λq=>?_
  ·have q:dW (0==·) ws 0<0:=aR q;have hz:=pZ _ _ _ q;refine ae (aj (M2 e2 e3) ?_);refine br ⟨.tup [a,.sl wb 0 nn nn],(by simp only[rs,rf108,am,aK,simprocAttr]<;>rfl),a,_,out,ws,rfl,.inr ⟨wb,nn,hwb,rfl,by rw[x3.gt _ hwn]; exact gw,by rw[dS,k.len,aO]⟩,k,λv hv h0=>?_,x2.trans (x3.mono x2.nx)⟩;have:=hz (ws[v]'(by rw[k.len]; exact hv)) (aP _);rw[aL,aq (by rw[k.len]; exact hv),dh] at h0;rw[h0] at this;simp at this
  ·have q:¬ dW (0==·) ws 0<0:=aZ q;obtain⟨x,hx1,hx2,hx3⟩:=jZ (0==·) ws 0 om;rw[bM] at hx1;rw[hx1];have hx0:ws.getD x 0=0:=by
    rw[aL,aq hx2,dh];simp at hx3;exact hx3.symm
   have hxn:x<nn:=by rw[← k.len]; exact hx2
   refine bu ?_;have k':=k.step m4 m3 hxn hx0;have gw3:h3.get wb=some (.cells (ws.flatMap eI) 1 false):=by rw[x3.gt _ hwn]; exact gw
   obtain⟨s',h4,a1,i4,x4,n4⟩:=(ia.ext x3 (ab _)).push (bytes:=8) (eI ((x:Nat):Int)) (by have:=x3.nx; omega) om rfl rfl (by rw[dS]; unfold aW; omega) (by rw[dS]; unfold aW; omega);rw[show eI ((x:Nat):Int)=[.int .i64 ((x:Nat):Int)] from rfl] at a1 i4;refine ae (aj (M2 e2 a1) ?_);have gw4:h4.get wb=some (.cells (ws.flatMap eI) 1 false):=by rw[x4.gt _ om]; exact gw3
   have ix:eR ((x:Nat):Int) nn=some x:=cJ hxn;have w5:=eA (v:=.int .i64 (-1)) gw4 (show x<(ws.flatMap eI).length by rw[dS]; exact hx2);rw[AD] at w5;have u5:=Mv (o:=.cells ((ws.set x (-1)).flatMap eI) 1 false) gw4;refine ae (aj (M4 e3 ix @aO w5) ?_);generalize h4.put wb (.cells ((ws.set x (-1)).flatMap eI) 1 false)=h5 at *
   have n3:=x3.nx;have n5:=u5.nx;have X5:Ext h.next h h5:=x2.trans ((x3.mono x2.nx).trans ((x4.mono om).trans (u5.ext om)));have rr2:ak h5 b 2 1=some [.sl ob 0 nn nn]:=bm (by rw[X5.gt _ (AH.lt_of_get g1)]; exact g1) rfl;have hol:x<os.length:=om;have rr3:ak h5 ob x 1=some [os[x]]:=bm (by rw[X5.gt _ (AH.lt_of_get g3)]; exact g3) (aq hol);have so:=g7 x _ (aq hol);have lo':=so.len;rw[ai] at lo';refine ae (aj (M6 e0 rr2 ix @aO rr3 lo') ?_);have hll:(dz es ((x:Nat):Int)).length≤128:=cn (fk _ _ _) m3;have hhl:(hsM es ((x:Nat):Int)).length=(dz es ((x:Nat):Int)).length:=by rw[← tn,ai]
   refine fA (α:=Unit) (N:=(dz es ((x:Nat):Int)).length) (λ_ _=>[(43,os[x]),(3,.sl wb 0 nn nn),(0,.ptr b 0),(2,s')])
    (λk _ h'=>h'.get wb=some (.cells ((mH ((hsM es ((x:Nat):Int)).take k) (ws.set x (-1))).flatMap eI) 1 false)∧IsSl h' 1 (wb+1) s' ((out++[((x:Nat):Int)]).flatMap eI)∧Ext h.next h h'∧wb<h'.next) () (λ_ _=>rfl) om (H2 e0 e3)
    ⟨u5.get,by rw[bC]; exact i4.upd u5 om,X5,om⟩ ?_ ?_
   ·clear rr2 rr3 e0 e3 e2;rintro j _ ts h6 hj ⟨j1,j2,j3,j4⟩ ⟨ei,en,e43,e3,e0,e2,-⟩;simp only at ei en e43 e3 e0 e2;obtain⟨jb,jp,a6,r6,_⟩:=(so.ext j3 (ab _)).at1 (cq (f:=eI) hj);obtain⟨ed,hed1,hed2,ed',hed3,hed4⟩:=fV (λe=>decide (e.1=((x:Nat):Int))) es 0 _ (aP hj);rw[bM] at hed1;have hed1:(dz es ((x:Nat):Int))[j]=((ed:Nat):Int):=hed1;rw[hed1] at r6;obtain⟨ea,eb,eab,hea,heb⟩:=mw (bD.1 m4 _ (aP hed2));have hhj:(hsM es ((x:Nat):Int))[j]'om=((eb:Nat):Int):=by
     have:(hsM es ((x:Nat):Int))[j]?=some ((eb:Nat):Int):=by
      rw[← tn,aX,aq hj,hed1,aQ,aY,aq hed2,dh,eab]
     exact (aI.1 this).2
    obtain⟨eb1,ep,a7,_,r7,_⟩:=(g2.ext j3 (ab _)).at (cq (f:=eE) hed2);have r7:=r7 1 (.int .i64 ((eb:Nat):Int)) (by rw[eab]; rfl);have rv:ak h6 b 1 1=some [ev]:=bm (by rw[j3.gt _ (AH.lt_of_get g1)]; exact g1) rfl;have ie:eR ((eb:Nat):Int) nn=some eb:=cJ heb;have hdl:(mH ((hsM es ((x:Nat):Int)).take j) (ws.set x (-1))).length=nn:=by rw[ul,ct,k.len]
    have rw6:=bm j1 (Im (show eb<(mH ((hsM es ((x:Nat):Int)).take j) (ws.set x (-1))).length by omega));have hbd:-20000≤(mH ((hsM es ((x:Nat):Int)).take j) (ws.set x (-1))).getD eb 0∧(mH ((hsM es ((x:Nat):Int)).take j) (ws.set x (-1))).getD eb 0≤200:=by
     rw[um _ _ _ (λc hc=>by have:=Hj m4 (nh hc); rw[ct,k.len]; omega),pY (by rw[k.len]; exact hxn)];have c1:((hsM es ((x:Nat):Int)).take j).count ((eb:Nat):Int)≤128:=cn yj (by rw[aS]; omega);have c2:=k.lo eb heb;have c3:ws.getD eb 0≤128:=by
      by_cases hm:((eb:Nat):Int)∈out
      ·have:=k.neg eb heb hm; omega
      ·rw[k.cnt eb heb hm];have:sy es out ((eb:Nat):Int)≤es.length:=mh;omega
     split
     ·omega
     ·omega
    have w1:IntKind.i64.wrap ((mH ((hsM es ((x:Nat):Int)).take j) (ws.set x (-1))).getD eb 0-1)=(mH ((hsM es ((x:Nat):Int)).take j) (ws.set x (-1))).getD eb 0-1:=fD om om;have w7:=eA (v:=.int .i64 ((mH ((hsM es ((x:Nat):Int)).take j) (ws.set x (-1))).getD eb 0-1)) j1 (show eb<_ by rw[dS]; omega);rw[AD,← HD] at w7;have ed1:xK (mH ((hsM es ((x:Nat):Int)).take j) (ws.set x (-1))) ((eb:Nat):Int)=mH ((hsM es ((x:Nat):Int)).take (j+1)) (ws.set x (-1)):=by
     rw[aG om,hhj];unfold mH;rw[fK];rfl
    rw[ed1] at w7;have u7:=Mv (o:=.cells ((mH ((hsM es ((x:Nat):Int)).take (j+1)) (ws.set x (-1))).flatMap eI) 1 false) j1;refine ae (aj (M4 e43 ei a6 r6) ?_);refine aj (M10 e3 e0 rv a7 r7 ie @aO rw6 w1 w7) ?_;exact⟨(),⟨u7.get,j2.upd u7 om,j3.trans (u7.ext om),by rw[u7.nx]; exact j4⟩,H6 ei en e43 e3 e0 e2⟩
   ·clear rr2 rr3 e0 e3 e2;rintro _ ts h6 ⟨j1,j2,j3,j4⟩ ⟨e43,e3,e0,e2,-⟩;simp only at e43 e3 e0 e2;rw[← hhl,bp] at j1;exact⟨nn-(out++[((x:Nat):Int)]).length,by
     have h1:(out++[((x:Nat):Int)]) ⊆ (List.range nn).map λx=>((x:Nat):Int):=λv hv=>by
      have:=k'.rng v hv;exact bB.2 ⟨v.toNat,bF.2 om,om⟩
     have:=k'.nd.length_le_of_subset h1;simp only[aN,bf,bt,ai,cL] at this ⊢;omega,s',_,_,rfl,k',j2,j1,j3,j4,H3 e0 e3 e2⟩
theorem Le {h:AH}{ib n:Nat}{ls:List AV}{f:Nat→List Int} (ho:h.get ib=some (.cells ls 1 false)) (hl:ls.length=n) (hn:n≤64) (hr:∀ (y:Nat) (v:AV),ls[y]?=some v→SlI h v (f y)) :
 C prg 116 [.sl ib 0 n n] h λr h'=>IsSl h' 1 h.next r ((((List.range n).filter λx=>(f x).length==0).map λx=>((x:Nat):Int)).flatMap eI)∧Ext h.next h h':=by
 refine Mw pf116 ?_;refine ae (aj (Mi0) ?_);refine ae (ae (aj (Mi0) ?_));refine fA (α:=AV) (N:=n) (λk a=>[(5,.sl ib 0 n n),(2,a)]) (λk a h'=>IsSl h' 1 h.next a ((((List.range k).filter λx=>(f x).length==0).map λx=>((x:Nat):Int)).flatMap eI)∧Ext h.next h h') .nils (λ_ _=>rfl) om (Oi0) ⟨.inl ⟨rfl,rfl⟩,Mu⟩ ?_ ?_
 ·rintro k a ts h1 hk ⟨j1,j2⟩ ⟨ei,en,e5,e2,-⟩;simp only at ei en e5 e2;have ik:eR ((k:Nat):Int) n=some k:=cJ hk;have rk:=bm (show h1.get ib=some (.cells ls 1 false) by rw[j2.gt _ (AH.lt_of_get ho)]; exact ho) (aq (show k<ls.length by omega));have lk:=(hr k _ (aq (show k<ls.length by omega))).len;rw[ai] at lk;have hlen:((((List.range k).filter λx=>(f x).length==0).map λx=>((x:Nat):Int)).flatMap eI).length≤k:=by
   rw[dS,ai];exact cn (dj _ _) (by simp)
  refine ae (aj (M5 e5 ei ik @aO rk) ?_);refine ae (aj (by simp only[am,aK,simprocAttr,lk]<;>rfl) ?_);refine cr (t:=decide ((f k).length=0)) (by simp only[am,aK,simprocAttr]; exact congrArg AV.bool (by simp only[decide_eq_decide]; omega)) (λq=>?_) λq=>?_
  ·have q:(f k).length=0:=aR q;obtain⟨s',h2,a1,i1,x1,n1⟩:=j1.push (bytes:=8) (eI ((k:Nat):Int)) j2.nx om rfl rfl (by unfold aW; omega) (by unfold aW; omega);rw[show eI ((k:Nat):Int)=[.int .i64 ((k:Nat):Int)] from rfl] at a1 i1;refine aj (M2 e2 a1) ?_;refine⟨s',⟨?_,j2.trans x1⟩,O3 ei en e5⟩;rw[du,bI,sE,if_pos (by simp [q]),List.filter_nil,cj,bC];exact i1
  ·have q:¬ (f k).length=0:=aZ q;refine bu ⟨a,⟨?_,j2⟩,O4 ei en e5 e2⟩;rw[du,bI,sE,if_neg (by simpa using q),List.filter_nil,bO];exact j1
 ·rintro a ts h1 ⟨j1,j2⟩ ⟨e5,e2,-⟩;simp only at e5 e2;refine ae (aj (M1 e2) ?_);exact br ⟨a,(by simp only[rs,rf116,am,aK,simprocAttr]<;>rfl),j1,j2⟩
def je (n:Nat) (es:List (Int×Int)):List Int:=((List.range n).filter λx=>(dg es ((x:Nat):Int)).length==0).map λx=>((x:Nat):Int)
theorem AA {h:AH}{vp:AV}{n:Nat}{es:List (Int×Int)} (hv:IsView h vp n es):C prg 63 [vp] h λr h'=>IsSl h' 1 h.next r ((je n es).flatMap eI)∧Ext h.next h h':=by
 obtain⟨b,ev,os,is,ob,ib,rfl,g1,g2,g3,g4,g5,g6,g7,g8,m1,m2,m3,m4⟩:=hv;refine Mw pf63 ?_;have r1:ak h b 3 1=some [.sl ib 0 n n]:=bm g1 rfl;refine ae (aj (Mi0) ?_);refine ae (bN (bo 4 (Mi1 r1) rfl (Zi1 r1) (Mi1 r1) (Le (f:=λy=>dg es ((y:Nat):Int)) g4 g6 m2 (λy v q=>g8 y v q)) λr h2 hq=>?_));refine bH (M0) ?_;exact br ⟨r,(by simp only[rs,rf63,am,aK,simprocAttr]<;>rfl),hq⟩
end Go.Proofs.YtahepnbflofndaaGreatDoor
