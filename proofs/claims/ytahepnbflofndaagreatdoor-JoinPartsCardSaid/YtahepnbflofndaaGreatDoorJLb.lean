/- graph.Of; there, Outs, Ins. -/
import Derived.Test.YtahepnbflofndaaGreatDoorJLa
set_option linter.all false
namespace Go.Proofs.YtahepnbflofndaaGreatDoor
open Go.Am
def dx (p:Int×Int→Bool):List (Int×Int)→Nat→List Int
 | [],_=>[]
 | e::r,i=>if p e then ((i:Nat):Int)::dx p r (i+1) else dx p r (i+1)
theorem qr (p:Int×Int→Bool):∀ (a b:List (Int×Int)) (i:Nat),dx p (a++b) i=dx p a i++dx p b (i+a.length)
 | [],b,i=>by simp [dx]
 | e::r,b,i=>by
   have:=qr p r b (i+1)
   simp only[ct,dx,aV]
   rw[this,show i+1+r.length=i+(r.length+1) by omega]
   split<;>simp
theorem gR (p:Int×Int→Bool):∀ (a:List (Int×Int)) (i:Nat),(dx p a i).length≤a.length
 | [],i=>by simp [dx]
 | e::r,i=>by
   have:=gR p r (i+1)
   simp only[dx,aV]
   split
   ·simp only[aV]; omega
   ·omega
theorem lJ (p:Int×Int→Bool) {es:List (Int×Int)}{k:Nat} (hk:k<es.length):dx p (es.take (k+1)) 0=if p es[k] then dx p (es.take k) 0++[((k:Nat):Int)] else dx p (es.take k) 0:=by
 rw[aK hk,qr,aZ,cw om,bO]
 simp only[dx]
 split<;>simp
def fW (es:List (Int×Int)) (x:Int):List Int:=dx (λe=>decide (e.1=x)) es 0
def eW (es:List (Int×Int)) (x:Int):List Int:=dx (λe=>decide (e.2=x)) es 0
def Rw (h:AH) (lo:Nat) (vs:List AV) (xss:List (List Int)):Prop :=
 vs.length=xss.length∧(∀ (i:Nat) (v:AV) (xs:List Int),vs[i]?=some v→xss[i]?=some xs→IsSl h 1 lo v (xs.flatMap eI))∧∀ (i j b n b' n':Nat),i≠j→vs[i]?=some (AV.sl b 0 n n)→vs[j]?=some (AV.sl b' 0 n' n')→b≠b'
theorem Rw.cong {h h':AH}{lo:Nat}{vs:List AV}{xss:List (List Int)} (hr:Rw h lo vs xss) (hk:∀ c,lo≤c→c<h.next→h'.get c=h.get c):Rw h' lo vs xss :=
 ⟨hr.1,λi v xs h1 h2=>(hr.2.1 i v xs h1 h2).cong λb n e hb=>hk b hb ((hr.2.1 i v xs h1 h2).lt e),hr.2.2⟩
theorem Rw.lt {h:AH}{lo:Nat}{vs:List AV}{xss:List (List Int)} (hr:Rw h lo vs xss) {j b n:Nat} (hj:vs[j]?=some (AV.sl b 0 n n)):b<h.next∧lo≤b:=by
 have hjl:j<vs.length:=(aJ.1 hj).1
 have:=hr.2.1 j _ (xss[j]'(by rw[← hr.1]; exact hjl)) hj (aw _)
 rcases this with ⟨q,_⟩|⟨b',n',q1,q2,q3,_⟩
 ·cases q
 ·cases q2; exact⟨AH.lt_of_get q3,q1⟩
theorem Rw.push {h:AH}{lo:Nat}{vs:List AV}{xss:List (List Int)} (hr:Rw h lo vs xss) {i x:Nat}{k:Int}{xs:List Int} (hi:xss[i]?=some xs) (hlo:lo≤h.next) (hx:h.get x=some (.cells [.int .i64 k] 1 false)) (hxl:lo≤x) (hxn:∀ (j b n:Nat),vs[j]?=some (AV.sl b 0 n n)→b≠x) (hl:xs.length<2 ^ 30) :
 ∃ v v' h',vs[i]?=some v∧gz h 1 8 v (.sl x 0 1 1)=some (v',h')∧v'.cells=[v']∧v'.one=true∧Rw h' lo (vs.set i v') (xss.set i (xs++[k]))∧Ext lo h h'∧h'.next=h.next+1∧∀ c,c<h.next→(∀ (j b n:Nat),vs[j]?=some (AV.sl b 0 n n)→b≠c)→h'.get c=h.get c∧∀ (j b n:Nat),(vs.set i v')[j]?=some (AV.sl b 0 n n)→b≠c:=by
 obtain⟨r1,r2,r3⟩:=hr
 have hil:i<xss.length:=(aJ.1 hi).1
 have hv:vs[i]?=some vs[i]:=aw om
 have hlen:(xs.flatMap eI).length=xs.length:=by rw[dS (f:=eI) (e:=1) (λ_=>rfl)]; omega
 obtain⟨v',h',a1,a2,a3,a4,a5,a6,a7⟩:=(r2 i _ xs hv hi).app (bytes:=8) hlo om hx hxl (λb n e=>hxn i b n (by rw[hv,e])) rfl rfl (by rw[hlen]; unfold bd; omega) (by rw[hlen]; unfold bd; omega)
 obtain⟨c1,c2⟩:=a2.cells
 refine⟨_,v',h',hv,a1,c1,c2,⟨by rw[ce,ce,r1],?_,?_⟩,a3,a5,λc hc hne=>⟨a6 c hc λb n e=>(hne i b n (by rw[hv,e])).symm,λj b n hj=>?_⟩⟩
 rotate_right
 ·by_cases e:i=j
  ·subst e
   rw[eA om,aa,a4] at hj
   cases hj
   omega
  ·rw[dq e] at hj
   exact hne j b n hj
 ·intro j w ys hw hy
  by_cases e:i=j
  ·subst e
   rw[eA om,aa] at hw hy
   subst hw hy
   rw[bQ]
   exact a2
  ·rw[dq e] at hw hy
   refine (r2 j w ys hw hy).cong λb n eb hb=>a6 b ((r2 j w ys hw hy).lt eb) λb' n' e'=>?_
   exact (r3 i j b' n' b n e (by rw[hv,e']) (by rw[hw,eb])).symm
 ·have hlt:∀ j b n,vs[j]?=some (AV.sl b 0 n n)→b<h.next:=λj b n hj=>by
   have hjl:j<vs.length:=(aJ.1 hj).1
   exact (r2 j _ xss[j] hj (aw om)).lt rfl
  intro j1 j2 b n b' n' hne h1 h2
  by_cases e:i=j1
  ·subst e
   rw[eA om,aa,a4] at h1
   rw[dq hne] at h2
   have:=hlt _ _ _ h2
   cases h1
   omega
  ·rw[dq e] at h1
   by_cases e2:i=j2
   ·subst e2
    rw[eA om,aa,a4] at h2
    have:=hlt _ _ _ h1
    cases h2
    omega
   ·rw[dq e2] at h2
    exact r3 _ _ _ _ _ _ hne h1 h2
def IsView (h:AH) (vp:AV) (n:Nat) (es:List (Int×Int)):Prop:=∃ (b:Nat) (ev:AV) (os is:List AV) (ob ib:Nat),vp=.ptr b 0∧h.get b=some (.cells [.int .i64 (n:Nat),ev,.sl ob 0 n n,.sl ib 0 n n] 4 false)∧SlE h ev es ∧
 h.get ob=some (.cells os 1 false)∧h.get ib=some (.cells is 1 false)∧os.length=n∧is.length=n∧(∀ (x:Nat) (v:AV),os[x]?=some v→SlI h v (fW es x))∧(∀ (x:Nat) (v:AV),is[x]?=some v→SlI h v (eW es x))∧1≤n∧n≤64∧es.length≤128∧es.all (okE n)=true
theorem IsView.ext {h h':AH}{vp:AV}{n:Nat}{es:List (Int×Int)} (hv:IsView h vp n es) (hx:Ext h.next h h'):IsView h' vp n es:=by
 obtain⟨b,ev,os,is,ob,ib,rfl,g1,g2,g3,g4,g5,g6,g7,g8,g9⟩:=hv
 exact⟨b,ev,os,is,ob,ib,rfl,by rw[hx.gt _ (AH.lt_of_get g1)]; exact g1,g2.ext hx (ae _),by rw[hx.gt _ (AH.lt_of_get g3)]; exact g3,by rw[hx.gt _ (AH.lt_of_get g4)]; exact g4,g5,g6,
  λx v q=>(g7 x v q).ext hx (ae _),λx v q=>(g8 x v q).ext hx (ae _),g9⟩
def jy (n:Nat) (es:List (Int×Int)):List (List Int):=(List.range n).map (λx=>fW es ((x:Nat):Int))++(List.range n).map (λx=>eW es ((x:Nat):Int))
theorem rq {n x:Nat}{es:List (Int×Int)} (hx:x<n):(jy n es)[x]?=some (fW es x):=by
 unfold jy
 rw[bC (by simpa using hx),be,cS hx]
 rfl
theorem uz {n x:Nat}{es:List (Int×Int)} (hx:x<n):(jy n es)[n+x]?=some (eW es x):=by
 unfold jy
 rw[bu (by simp),au,cB,fL,be,cS hx]
 rfl
theorem ml {n x:Nat}{f g:Nat→List Int} (hx:x<n) (hne:∀ y,y≠x→f y=g y):((List.range n).map f).set x (g x)=(List.range n).map g:=by
 refine dD λi=>?_
 rw[dM]
 by_cases e:x=i
 ·subst e
  simp [hx]
 ·rw[if_neg e,be,be]
  by_cases hi:i<n
  ·rw[cS hi]
   simp only[aH]
   rw[hne i (Ne.symm e)]
  ·rw[bI (by simpa using hi)]
   rfl
theorem zD {n k a b:Nat}{es:List (Int×Int)} (hk:k<es.length) (ha:a<n) (hb:b<n) (he:es[k]=(((a:Nat):Int),((b:Nat):Int))) :
 ((jy n (es.take k)).set a (fW (es.take k) a++[((k:Nat):Int)])).set (n+b) (eW (es.take k) b++[((k:Nat):Int)])=jy n (es.take (k+1)):=by
 have ho:∀ x:Nat,fW (es.take (k+1)) ((x:Nat):Int)=if x=a then fW (es.take k) a++[((k:Nat):Int)] else fW (es.take k) x:=λx=>by
  unfold fW
  rw[lJ _ hk,he]
  by_cases e:x=a
  ·subst e; simp
  ·have:¬ ((a:Nat):Int)=((x:Nat):Int):=om
   simp [e,this]
 have hi:∀ x:Nat,eW (es.take (k+1)) ((x:Nat):Int)=if x=b then eW (es.take k) b++[((k:Nat):Int)] else eW (es.take k) x:=λx=>by
  unfold eW
  rw[lJ _ hk,he]
  by_cases e:x=b
  ·subst e; simp
  ·have:¬ ((b:Nat):Int)=((x:Nat):Int):=om
   simp [e,this]
 unfold jy
 rw[tX _ _ (by simpa using ha),qR _ _ (by simp)]
 have e1:=ml (f:=λx:Nat=>fW (es.take k) ((x:Nat):Int)) (g:=λx:Nat=>fW (es.take (k+1)) ((x:Nat):Int)) ha λy hy=>by simp only[ho,if_neg hy]
 have e2:=ml (f:=λx:Nat=>eW (es.take k) ((x:Nat):Int)) (g:=λx:Nat=>eW (es.take (k+1)) ((x:Nat):Int)) hb λy hy=>by simp only[hi,if_neg hy]
 simp only[ho,if_true] at e1
 simp only[hi,if_true] at e2
 rw[ce,au,cB,fL,e2,e1]
 simp only[ho,hi]
theorem Rw.nil (h:AH) (n:Nat):Rw h h.next (cm [.nils] n++cm [.nils] n) (jy n []):=by
 rw[gf,List.replicate_append_replicate]
 have e2:jy n []=List.replicate (n+n) []:=by
  refine dD λi=>?_
  have e3:jy n []=(List.range n++List.range n).map λ_=>[]:=by rw[cV]; rfl
  rw[e3,be,cP]
  by_cases hi:i<n+n
  ·rw[aw (by simpa using hi),if_pos hi]; rfl
  ·rw[bI (by simpa using hi),if_neg hi]; rfl
 rw[e2]
 refine⟨by rw[cD,cD],λi v xs h1 h2=>?_,λi j b n b' n' _ h1=>?_⟩
 ·rw[cP] at h1 h2
  split at h1
  ·rw[if_pos ‹_›] at h2
   simp only[aa] at h1 h2
   subst h1 h2
   exact .inl ⟨rfl,rfl⟩
  ·cases h1
 ·rw[cP] at h1
  split at h1
  ·cases h1
  ·cases h1
theorem kz {n:Nat}{es:List (Int×Int)} (hm:eV (n:Nat) es=true):1≤n∧n≤64∧es.length≤128∧es.all (okE n)=true:=by
 simp only[eV,aq,aj] at hm
 exact⟨om,om,om,hm.2⟩
theorem lR {n:Nat}{e:Int×Int} (h:okE n e=true):∃ a b:Nat,e=(((a:Nat):Int),((b:Nat):Int))∧a<n∧b<n:=by
 obtain⟨x,y⟩:=e
 simp only[okE,aq,aj] at h
 exact⟨x.toNat,y.toNat,by rw[Int.toNat_of_nonneg om,Int.toNat_of_nonneg om],om,om⟩
theorem Hl {h:AH}{n:Nat}{ev:AV}{es:List (Int×Int)} (he:SlE h ev es) (hm:eV (n:Nat) es=true):C prg 61 [.agg [.int .i64 (n:Nat),ev]] h λr h'=>IsView h' r n es∧Ext h.next h h':=by
 obtain⟨m1,m2,m3,m4⟩:=kz hm
 obtain⟨ec,eo⟩:=he.cells
 refine HH pf61 ?_
 refine ab (ah (Mi0) ?_)
 have x0:Ext h.next h (h.new (.cells [.int .i64 (n:Nat),ev] 2 false)):=HD (ae _)
 have g0:(h.new (.cells [.int .i64 (n:Nat),ev] 2 false)).get h.next=some (.cells [.int .i64 (n:Nat),ev] 2 false):=by rw[AH.get_new,if_pos rfl]
 have n0:(h.new (.cells [.int .i64 (n:Nat),ev] 2 false)).next=h.next+1:=rfl
 generalize h.new (.cells [.int .i64 (n:Nat),ev] 2 false)=h0 at *
 have r0:ar h0 h.next 0 2=some [.int .i64 (n:Nat),ev]:=by rw[aS g0]; rfl
 refine ab (ab (aX (aP 1 (Mi1 r0) rfl (Zi1 r0) (Mi1 r0) (tw (he.ext x0 (ae _)) om) λr h1 hq=>?_)))
 obtain⟨rfl,x1⟩:=hq
 rw[hm]
 refine aW (M0) ?_
 refine cU (Z0) (aN ?_)
 have g1:h1.get h.next=some (.cells [.int .i64 (n:Nat),ev] 2 false):=by rw[x1.gt _ om]; exact g0
 have n1:=x1.nx
 have kn:(h1.keep 3).next=h1.next+3:=AH.keep_next 3 h1
 have kg:∀ c,(h1.keep 3).get c=if h1.next≤c∧c<h1.next+3 then some .resv else h1.get c:=λc=>AH.keep_get 3 h1
 have k1:(h1.keep 3).get h.next=some (.cells [.int .i64 (n:Nat),ev] 2 false):=by rw[kg,if_neg om]; exact g1
 have ra:ar (h1.keep 3) h.next 0 2=some [.int .i64 (n:Nat),ev]:=by rw[aS k1]; rfl
 have rb:ar (h1.keep 3) h.next 0 1=some [.int .i64 (n:Nat)]:=by rw[aS k1]; rfl
 have q0:(h1.keep 3).get h1.next=some .resv:=by rw[kg,if_pos ⟨om,om⟩]
 have mv:=pM (z:=[.nils]) (bytes:=24) (n:=n) (by unfold bd; omega) (by unfold bd; omega)
 have q1:((h1.keep 3).put h1.next (.cells (cm [.nils] n) 1 false)).get (h1.next+1)=some .resv:=by rw[AH.get_put _ _ _ _ om,if_neg om,kg,if_pos ⟨om,om⟩]
 have q2:(((h1.keep 3).put h1.next (.cells (cm [.nils] n) 1 false)).put (h1.next+1) (.cells (cm [.nils] n) 1 false)).get (h1.next+2)=some .resv:=by
  rw[AH.get_put _ _ _ _ (by rw[AH.next_put]; omega),if_neg om,AH.get_put _ _ _ _ om,if_neg om,kg,if_pos ⟨om,om⟩]
 have bx:=vZ (k:=4) (cs:=[.int .i64 (n:Nat),ev,.sl h1.next 0 n n,.sl (h1.next+1) 0 n n]) rfl
 refine ab (yQ (λts h2=>h2=(((h1.keep 3).put h1.next (.cells (cm [.nils] n) 1 false)).put (h1.next+1) (.cells (cm [.nils] n) 1 false)).put (h1.next+2) (.cells [.int .i64 (n:Nat),ev,.sl h1.next 0 n n,.sl (h1.next+1) 0 n n] 4 false)∧aB ts 1=.ptr h.next 0∧aB ts 3=.ptr (h1.next+2) 0)
  (by simp only[am,aD,simprocAttr,bL,ra,rb,fc,jW q0,jW q1,sy q2,mv,bx,ec,eo,eD]) ?_)
 rintro ts h2 ⟨hh2,t1,t3⟩
 have n2:h2.next=h1.next+3:=by rw[hh2]; simp only[AH.next_put]; omega
 have gg:∀ c,h2.get c=if h1.next+2=c then some (.cells [.int .i64 (n:Nat),ev,.sl h1.next 0 n n,.sl (h1.next+1) 0 n n] 4 false) else if h1.next+1=c then some (.cells (cm [.nils] n) 1 false) else if h1.next=c then some (.cells (cm [.nils] n) 1 false) else (h1.keep 3).get c:=λc=>by
  rw[hh2,AH.get_put _ _ _ _ (by simp only[AH.next_put]; omega),AH.get_put _ _ _ _ (by simp only[AH.next_put]; omega),AH.get_put _ _ _ _ om]
 have x2:Ext h1.next h1 h2:=⟨om,λc hc=>by rw[gg,if_neg om,if_neg om,if_neg om,kg,if_neg om],λc hc=>by rw[hh2]; exact HC 3 h1⟩
 clear q0 q1 q2 mv bx ra rb k1 kg kn hh2
 have g2:h2.get h.next=some (.cells [.int .i64 (n:Nat),ev] 2 false):=by rw[x2.gt _ om]; exact g1
 have gv:h2.get (h1.next+2)=some (.cells [.int .i64 (n:Nat),ev,.sl h1.next 0 n n,.sl (h1.next+1) 0 n n] 4 false):=by rw[gg,if_pos rfl]
 have go:h2.get h1.next=some (.cells (cm [.nils] n) 1 false):=by rw[gg,if_neg om,if_neg om,if_pos rfl]
 have gi:h2.get (h1.next+1)=some (.cells (cm [.nils] n) 1 false):=by rw[gg,if_neg om,if_pos rfl]
 clear gg
 have r2:ar h2 h.next 1 1=some [ev]:=by rw[aS g2]; rfl
 have he2:SlE h2 ev es:=((he.ext x0 (ae _)).ext x1 (ae _)).ext x2 (ae _)
 refine ab (aX (aP 3 (M2 t1 r2) rfl (Z2 t1 r2) (M2 t1 r2) (Ay he2 om) λcv h3 hq=>?_))
 obtain⟨c1,x3,_⟩:=hq
 have n3:=x3.nx
 have gv3:h3.get (h1.next+2)=some (.cells [.int .i64 (n:Nat),ev,.sl h1.next 0 n n,.sl (h1.next+1) 0 n n] 4 false):=by rw[x3.gt _ om]; exact gv
 have w3:bV h3 (h1.next+2) 1 [cv]=some (h3.put (h1.next+2) (.cells [.int .i64 (n:Nat),cv,.sl h1.next 0 n n,.sl (h1.next+1) 0 n n] 4 false)):=by rw[dI gv3]; rfl
 obtain⟨cc,co⟩:=c1.cells
 refine aW (M4 t3 cc co w3) ?_
 have u4:=HF (o:=.cells [.int .i64 (n:Nat),cv,.sl h1.next 0 n n,.sl (h1.next+1) 0 n n] 4 false) gv3
 generalize h3.put (h1.next+2) (.cells [.int .i64 (n:Nat),cv,.sl h1.next 0 n n,.sl (h1.next+1) 0 n n] 4 false)=h4 at *
 have n4:=u4.nx
 have c4:=c1.upd u4 om
 have gv4:=u4.get
 have go4:h4.get h1.next=some (.cells (cm [.nils] n) 1 false):=by rw[u4.ne om,x3.gt _ om]; exact go
 have gi4:h4.get (h1.next+1)=some (.cells (cm [.nils] n) 1 false):=by rw[u4.ne om,x3.gt _ om]; exact gi
 have g4:h4.get h.next=some (.cells [.int .i64 (n:Nat),ev] 2 false):=by rw[u4.ne om,x3.gt _ om]; exact g2
 have x4:Ext h1.next h1 h4:=x2.trans ((x3.mono om).trans (u4.ext om))
 have r4:ar h4 h.next 1 1=some [ev]:=by rw[aS g4]; rfl
 have he4:SlE h4 ev es:=((he.ext x0 (ae _)).ext x1 (ae _)).ext x4 (ae _)
 clear gv3 w3 u4 c1 go gi gv g2 r2 he2
 have hlen:=he.len
 rw[au] at hlen
 have rl:(cm [AV.nils] n).length=n:=by rw[gf,cD]
 refine ab (ab (ah (M4 t1 t3 r4 hlen) ?_))
 refine hU (α:=List AV×List AV) (N:=es.length) (λ_ _=>[(3,.ptr (h1.next+2) 0),(27,ev)])
  (λk a h'=>h'.get (h1.next+2)=some (.cells [.int .i64 (n:Nat),cv,.sl h1.next 0 n n,.sl (h1.next+1) 0 n n] 4 false)∧h'.get h1.next=some (.cells a.1 1 false)∧h'.get (h1.next+1)=some (.cells a.2 1 false)∧a.1.length=n∧a.2.length=n∧Rw h' h4.next (a.1++a.2) (jy n (es.take k))∧Ext h1.next h1 h'∧IsSl h' 2 h2.next cv (es.flatMap eE)∧h4.next≤h'.next)
  (cm [.nils] n,cm [.nils] n) (λ_ _=>rfl) om (H1 t3) ⟨gv4,go4,gi4,rl,rl,Rw.nil h4 n,x4,c4,ae _⟩ ?_ ?_
 ·rintro k ⟨os,is⟩ ts h5 hk ⟨j1,j2,j3,j4,j5,j6,j7,j8,j9⟩ ⟨ei,en,e3,e27,-⟩
  simp only at ei en e3 e27 j2 j3 j4 j5 j6
  obtain⟨a,b,eab,ha,hb⟩:=lR (bA.1 m4 _ (bq hk))
  obtain⟨b1,p1,a1,r1,_⟩:=(((he.ext x0 (ae _)).ext x1 (ae _)).ext j7 (ae _)).at (cF (f:=eE) hk)
  rw[eab] at r1
  obtain⟨h6,w6,x6,g6,n6⟩:=ij (h:=h5) (z:=[.int .i64 0,.int .i64 0]) (cs:=[.int .i64 (a:Nat),.int .i64 (b:Nat)]) (e:=2) rfl
  refine ab (ah (by simp only[am,aD,simprocAttr,e3,e27,ei,a1,r1,eE,w6]<;>rfl) ?_)
  obtain⟨x7,p7,n7,y7⟩:=gO (h:=h6) (o:=.cells [.int .i64 (k:Nat)] 1 false)
  have kg:∀ c,c<h6.next→(h6.keep 1).get c=h6.get c:=λc hc=>by rw[AH.keep_get,if_neg om]
  have q7:(h6.keep 1).get h6.next=some .resv:=fX
  have j1':h6.get (h1.next+2)=some (.cells [.int .i64 (n:Nat),cv,.sl h1.next 0 n n,.sl (h1.next+1) 0 n n] 4 false):=by rw[x6.gt _ om]; exact j1
  have j2':h6.get h1.next=some (.cells os 1 false):=by rw[x6.gt _ om]; exact j2
  have j3':h6.get (h1.next+1)=some (.cells is 1 false):=by rw[x6.gt _ om]; exact j3
  have v1:ar (h6.keep 1) (h1.next+2) 2 1=some [.sl h1.next 0 n n]:=by rw[aS (by rw[kg _ om]; exact j1')]; rfl
  have v2:ar (h6.keep 1) h5.next 0 1=some [.int .i64 (a:Nat)]:=by rw[aS (by rw[kg _ om]; exact g6)]; rfl
  have hR:Rw ((h6.keep 1).put h6.next (.cells [.int .i64 (k:Nat)] 1 false)) h4.next (os++is) (jy n (es.take k)):=j6.cong λc hc hcn=>by rw[y7 _ om,x6.gt _ om]
  obtain⟨va,va',h8,s1,s2,s3,s4,s5,s6,s7,s8⟩:=hR.push (i:=a) (x:=h6.next) (k:=(k:Nat)) (rq ha) om p7 om (λj b n q=>by have:=j6.lt q; omega)
   (by have:=gR (λe=>decide (e.1=((a:Nat):Int))) (es.take k) 0; rw[aZ] at this; unfold fW; omega)
  rw[bC om] at s1
  have v3:ar (h6.keep 1) h1.next a 1=some [va]:=bB (by rw[kg _ om]; exact j2') s1
  have ia:bN ((a:Nat):Int) n=some a:=aO ha
  have d1:h8.get (h1.next+2)=some (.cells [.int .i64 (n:Nat),cv,.sl h1.next 0 n n,.sl (h1.next+1) 0 n n] 4 false):=by rw[s6.gt _ om,y7 _ om]; exact j1'
  have d2:h8.get h1.next=some (.cells os 1 false):=by rw[s6.gt _ om,y7 _ om]; exact j2'
  have d3:h8.get (h1.next+1)=some (.cells is 1 false):=by rw[s6.gt _ om,y7 _ om]; exact j3'
  have d5:h8.get h5.next=some (.cells [.int .i64 (a:Nat),.int .i64 (b:Nat)] 2 false):=by rw[(s8 _ om (λj b n q=>by have:=j6.lt q; omega)).1,y7 _ om]; exact g6
  have f1:ar h8 (h1.next+2) 2 1=some [.sl h1.next 0 n n]:=by rw[aS d1]; rfl
  have f2:ar h8 h5.next 0 1=some [.int .i64 (a:Nat)]:=by rw[aS d5]; rfl
  have f3:=dW (v:=va') d2 (show a<os.length by omega)
  have u9:=HF (o:=.cells (os.set a va') 1 false) d2
  refine ab (oa (by simp only[am,aD,simprocAttr,e3,v1,v2,v3,fc,eS q7,ia,ai,s2,s3,s4,f1,f2,f3]<;>rfl) ?_)
  generalize h8.put h1.next (.cells (os.set a va') 1 false)=h9 at *
  have n9:=u9.nx
  have hR9:Rw h9 h4.next (os.set a va'++is) ((jy n (es.take k)).set a (fW (es.take k) a++[((k:Nat):Int)])):=by
   rw[← tX _ _ om]
   exact s5.cong λc hc _=>u9.ne om
  have l9:∀ (j b n:Nat),(os.set a va'++is)[j]?=some (AV.sl b 0 n n)→b≠h5.next:=λj b n' q=>by
   rw[← tX _ _ om] at q
   exact (s8 _ om (λj b n q=>by have:=j6.lt q; omega)).2 j b n' q
  have l6:∀ (j b n:Nat),(os.set a va'++is)[j]?=some (AV.sl b 0 n n)→b<h9.next:=λj b n' q=>(hR9.lt q).1
  obtain⟨X7,P7,N7,Y7⟩:=gO (h:=h9) (o:=.cells [.int .i64 (k:Nat)] 1 false)
  have kg2:∀ c,c<h9.next→(h9.keep 1).get c=h9.get c:=λc hc=>by rw[AH.keep_get,if_neg om]
  have Q7:(h9.keep 1).get h9.next=some .resv:=fX
  have J1:h9.get (h1.next+2)=some (.cells [.int .i64 (n:Nat),cv,.sl h1.next 0 n n,.sl (h1.next+1) 0 n n] 4 false):=by rw[u9.ne om]; exact d1
  have J3:h9.get (h1.next+1)=some (.cells is 1 false):=by rw[u9.ne om]; exact d3
  have J5:h9.get h5.next=some (.cells [.int .i64 (a:Nat),.int .i64 (b:Nat)] 2 false):=by rw[u9.ne om]; exact d5
  have V1:ar (h9.keep 1) (h1.next+2) 3 1=some [.sl (h1.next+1) 0 n n]:=by rw[aS (by rw[kg2 _ om]; exact J1)]; rfl
  have V2:ar (h9.keep 1) h5.next 1 1=some [.int .i64 (b:Nat)]:=by rw[aS (by rw[kg2 _ om]; exact J5)]; rfl
  have HR:Rw ((h9.keep 1).put h9.next (.cells [.int .i64 (k:Nat)] 1 false)) h4.next (os.set a va'++is) ((jy n (es.take k)).set a (fW (es.take k) a++[((k:Nat):Int)])):=hR9.cong λc hc hcn=>Y7 _ om
  obtain⟨vb,vb',H8,S1,S2,S3,S4,S5,S6,S7,S8⟩:=HR.push (i:=n+b) (x:=h9.next) (k:=(k:Nat)) (xs:=eW (es.take k) b) (by rw[dq om]; exact uz hb) om P7 om (λj b n q=>by have:=l6 j b n q; omega)
   (by have:=gR (λe=>decide (e.2=((b:Nat):Int))) (es.take k) 0; rw[aZ] at this; unfold eW; omega)
  have hol:(os.set a va').length=n:=by rw[ce,j4]
  rw[bu om,hol,fL] at S1
  rw[qR _ _ om,hol,fL,zD hk ha hb eab] at S5
  have V3:ar (h9.keep 1) (h1.next+1) b 1=some [vb]:=bB (by rw[kg2 _ om]; exact J3) S1
  have ib:bN ((b:Nat):Int) n=some b:=aO hb
  have D1:H8.get (h1.next+2)=some (.cells [.int .i64 (n:Nat),cv,.sl h1.next 0 n n,.sl (h1.next+1) 0 n n] 4 false):=by rw[S6.gt _ om,Y7 _ om]; exact J1
  have D2:H8.get h1.next=some (.cells (os.set a va') 1 false):=by rw[S6.gt _ om,Y7 _ om]; exact u9.get
  have D3:H8.get (h1.next+1)=some (.cells is 1 false):=by rw[S6.gt _ om,Y7 _ om]; exact J3
  have D5:H8.get h5.next=some (.cells [.int .i64 (a:Nat),.int .i64 (b:Nat)] 2 false):=by rw[(S8 _ om l9).1,Y7 _ om]; exact J5
  have F1:ar H8 (h1.next+2) 3 1=some [.sl (h1.next+1) 0 n n]:=by rw[aS D1]; rfl
  have F2:ar H8 h5.next 1 1=some [.int .i64 (b:Nat)]:=by rw[aS D5]; rfl
  have F3:=dW (v:=vb') D3 (show b<is.length by omega)
  have U9:=HF (o:=.cells (is.set b vb') 1 false) D3
  refine oa (by simp only[am,aD,simprocAttr,e3,V1,V2,V3,fc,eS Q7,ib,ai,S2,S3,S4,F1,F2,F3]<;>rfl) ?_
  generalize H8.put (h1.next+1) (.cells (is.set b vb') 1 false)=H9 at *
  have N9:=U9.nx
  refine⟨(os.set a va',is.set b vb'),⟨by rw[U9.ne om]; exact D1,by rw[U9.ne om]; exact D2,U9.get,hol,by rw[ce,j5],S5.cong λc hc _=>U9.ne om,?_,?_,om⟩,H4 ei en e3 e27⟩
  ·exact j7.trans ((x6.mono om).trans ((x7.mono om).trans ((s6.mono om).trans ((u9.ext (ae _)).trans ((X7.mono om).trans ((S6.mono om).trans (U9.ext om)))))))
  ·refine j8.cong λb n e hb=>?_
   have:=c4.lt e
   rw[U9.ne om,S6.gt _ om,Y7 _ om,u9.ne om,s6.gt _ om,y7 _ om,x6.gt _ om]
 ·rintro⟨os,is⟩ ts h5 ⟨j1,j2,j3,j4,j5,j6,j7,j8,j9⟩ ⟨e3,e27,-⟩
  simp only at e3 e27 j2 j3 j4 j5 j6
  rw[bp] at j6
  refine ab (ah (M1 e3) ?_)
  have hx:Ext h.next h h5:=x0.trans ((x1.mono om).trans (j7.mono om))
  refine bt ⟨.ptr (h1.next+2) 0,(by simp only[rs,rf61,am,aD,simprocAttr]<;>rfl),⟨h1.next+2,cv,os,is,h1.next,h1.next+1,rfl,j1,HB om (λ_=>rfl) j8,j2,j3,j4,j5,λx v q=>?_,λx v q=>?_,m1,m2,m3,m4⟩,hx⟩
  ·have hxn:x<n:=by rw[← j4]; exact (aJ.1 q).1
   exact HB om (λ_=>rfl) (j6.2.1 x v _ (by rw[bC om]; exact q) (rq hxn))
  ·have hxn:x<n:=by rw[← j5]; exact (aJ.1 q).1
   exact HB om (λ_=>rfl) (j6.2.1 (n+x) v _ (by rw[bu om,j4,fL]; exact q) (uz hxn))
theorem lv {n:Int}{e:Int×Int} (h:okE n e=true):0≤e.1∧e.1<n∧0≤e.2∧e.2<n:=by
 simp only[okE,aq,aj] at h
 omega
open Go.Am
def oT (es:List (Int×Int)) (out:List Int) (v:Int):Nat:=es.countP λe=>decide (e.2=v)&&!out.contains e.1
def hsM (es:List (Int×Int)) (x:Int):List Int:=(es.filter λe=>decide (e.1=x)).map (·.2)
def tG (w:List Int) (b:Int):List Int:=w.set b.toNat (w.getD b.toNat 0-1)
def kH (hs:List Int) (w:List Int):List Int:=hs.foldl tG w
theorem vO (w:List Int) (b:Int):(tG w b).length=w.length:=by simp [tG]
theorem qy:∀ (hs w:List Int),(kH hs w).length=w.length
 | [],_=>rfl
 | b::r,w=>by
   show (kH r (tG w b)).length=_
   rw[qy r,vO]
theorem pZ {w:List Int}{i j:Nat}{x:Int} (hi:i<w.length):(w.set i x).getD j 0=if i=j then x else w.getD j 0:=by
 rw[aL,dM,aL]
 by_cases e:i=j
 ·subst e; simp [hi]
 ·simp [e]
theorem qz:∀ (hs w:List Int) (v:Nat),(∀ b∈hs,0≤b∧b.toNat<w.length)→(kH hs w).getD v 0=w.getD v 0-(hs.count ((v:Nat):Int):Nat)
 | [],w,v,_=>by simp [kH]
 | b::r,w,v,h=>by
   obtain⟨h1,h2⟩:=h b (by simp)
   show (kH r (tG w b)).getD v 0=_
   rw[qz r (tG w b) v (λc hc=>by rw[vO]; exact h c (by simp [hc])),tG,pZ h2,qL]
   by_cases e:b.toNat=v
   ·have:b=((v:Nat):Int):=om
    subst this
    simp
    omega
   ·have:¬ b=((v:Nat):Int):=om
    simp [e,this]
structure Kahn (n:Nat) (es:List (Int×Int)) (out ws:List Int):Prop where
 len:ws.length=n
 nd:out.Nodup
 rng:∀ v∈out,0≤v∧v<n
 neg:∀ v:Nat,v<n→((v:Nat):Int)∈out→ws.getD v 0<0
 cnt:∀ v:Nat,v<n→¬ ((v:Nat):Int)∈out→ws.getD v 0=(oT es out v:Nat)
 ord:∀ p v q,out=p++v::q→∀ e∈es,e.2=v→e.1∈p
 lo:∀ v:Nat,v<n→-(200*(out.length:Nat):Int)≤ws.getD v 0
theorem Dd (es:List (Int×Int)) (x v:Int):(hsM es x).count v=es.countP λe=>decide (e.2=v)&&decide (e.1=x):=by
 unfold hsM
 rw[List.count_eq_countP,List.countP_map,List.countP_filter]
 congr 1
theorem DJ {es:List (Int×Int)}{out:List Int}{x v:Int} (hx:¬ x∈out):oT es (out++[x]) v+(hsM es x).count v=oT es out v:=by
 rw[Dd]
 unfold oT
 induction es with
 | nil=>rfl
 | cons e r ih =>
   simp only[fj]
   by_cases h1:e.2=v
   ·by_cases h2:e.1=x
    ·have h3:¬ e.1∈out:=by rw[h2]; exact hx
     simp [h1,h2,hx] at ih ⊢
     omega
    ·by_cases h3:e.1∈out
     ·simp [h1,h2,h3] at ih ⊢
      omega
     ·simp [h1,h2,h3] at ih ⊢
      omega
   ·simp [h1] at ih ⊢
    omega
theorem Dc {n:Nat}{es:List (Int×Int)} (he:es.all (okE n)=true) {x b:Int} (hb:b∈hsM es x):0≤b∧b<n:=by
 unfold hsM at hb
 obtain⟨e,h1,rfl⟩:=bJ.1 hb
 have:=lv (bA.1 he e (bH.1 h1).1)
 omega
theorem Kahn.step {n:Nat}{es:List (Int×Int)}{out ws:List Int} (k:Kahn n es out ws) (he:es.all (okE n)=true) (hl:es.length≤128) {x:Nat} (hx:x<n) (h0:ws.getD x 0=0) :
 Kahn n es (out++[((x:Nat):Int)]) (kH (hsM es x) (ws.set x (-1))):=by
 have hno:¬ ((x:Nat):Int)∈out:=λh=>by have:=k.neg x hx h; omega
 have hxl:x<ws.length:=by rw[k.len]; exact hx
 have hmem:∀ b∈hsM es ((x:Nat):Int),0≤b∧b.toNat<(ws.set x (-1)).length:=λb hb=>by
  have:=Dc he hb
  rw[ce,k.len]
  omega
 have hg:∀ v:Nat,(kH (hsM es x) (ws.set x (-1))).getD v 0=(if x=v then -1 else ws.getD v 0)-((hsM es x).count ((v:Nat):Int):Nat):=λv=>by
  rw[qz _ _ v hmem,pZ hxl]
 have hc0:oT es out ((x:Nat):Int)=0:=by have:=k.cnt x hx hno; omega
 refine⟨by rw[qy,ce,k.len],?_,?_,?_,?_,?_,?_⟩
 ·rw[bX]
  refine⟨k.nd,by simp,λa ha b hb=>?_⟩
  simp only[aC,bj,or_false] at hb
  subst hb
  exact λe=>hno (e▸ha)
 ·intro v hv
  rw[aQ] at hv
  rcases hv with hv|hv
  ·exact k.rng v hv
  ·simp only[aC,bj,or_false] at hv
   subst hv
   omega
 ·intro v hv hm
  rw[hg]
  rw[aQ] at hm
  by_cases e:x=v
  ·rw[if_pos e]; omega
  ·rw[if_neg e]
   have:((v:Nat):Int)∈out:=by
    rcases hm with hm|hm
    ·exact hm
    ·simp only[aC,bj,or_false] at hm; omega
   have:=k.neg v hv this
   omega
 ·intro v hv hm
  rw[aQ,not_or] at hm
  have e:¬ x=v:=λe=>hm.2 (by subst e; simp)
  rw[hg,if_neg e,k.cnt v hv hm.1]
  have:=DJ (es:=es) (v:=((v:Nat):Int)) hno
  omega
 ·intro p v q hq e hee hev
  by_cases hqn:q=[]
  ·subst hqn
   obtain⟨rfl,h2⟩:=List.append_inj' hq rfl
   simp only[fC,and_true] at h2
   subst h2
   by_cases hm:e.1∈out
   ·exact hm
   ·exfalso
    unfold oT at hc0
    rw[lY] at hc0
    exact hc0 e hee (by simp [hev,hm])
  ·have h1:out=p++v::q.dropLast:=by
    have h3:q=q.dropLast++[q.getLast hqn]:=(List.dropLast_concat_getLast hqn).symm
    rw[h3,← ct,← dN] at hq
    exact (List.append_inj' hq rfl).1
   exact k.ord p v _ h1 e hee hev
 ·intro v hv
  rw[hg,aM]
  have h1:=k.lo v hv
  have h2:(hsM es ((x:Nat):Int)).count ((v:Nat):Int)≤128:=by
   refine bS tZ ?_
   unfold hsM
   rw[au]
   exact bS (da _ _) hl
  simp only[aV,bh]
  split
  ·omega
  ·omega
theorem na (p:Int×Int→Bool):∀ (es:List (Int×Int)) (i:Nat),(dx p es i).length=es.countP p
 | [],_=>rfl
 | e::r,i=>by
   have:=na p r (i+1)
   rw[fj]
   simp only[dx]
   cases p e
   ·simpa using this
   ·simpa using this
theorem Kahn.start {n:Nat}{es:List (Int×Int)}:Kahn n es [] ((List.range n).map λx=>(((eW es ((x:Nat):Int)).length:Nat):Int)):=by
 refine⟨by simp,by simp,by simp,by simp,λv hv _=>?_,λp v q h=>by simp at h,λv hv=>?_⟩
 ·rw[aL,be,cS hv]
  simp only[aH,dh]
  unfold eW oT
  rw[na]
  simp
 ·rw[aL,be,cS hv]
  simp
theorem mD (p:Int×Int→Bool):∀ (es pre:List (Int×Int)),(dx p es pre.length).map (λi=>((pre++es)[i.toNat]?).getD (0,0))=es.filter p
 | [],pre=>by simp [dx]
 | e::r,pre=>by
   have ih:=mD p r (pre++[e])
   rw[aM,aV,bh,bO,dN,ct,df] at ih
   simp only[dx,pg]
   split
   ·rw[cC,ih]
    congr 1
    rw[bK,bu (ae _),ff]
    rfl
   ·exact ih
theorem kF (p:Int×Int→Bool):∀ (es:List (Int×Int)) (i:Nat) (x:Int),x∈dx p es i→∃ j:Nat,x=((i+j:Nat):Int)∧j<es.length∧∃ e,es[j]?=some e∧p e=true
 | [],i,x,h=>by simp [dx] at h
 | e::r,i,x,h=>by
   have key:x∈dx p r (i+1)→∃ j:Nat,x=((i+j:Nat):Int)∧j<(e::r).length∧∃ e',(e::r)[j]?=some e'∧p e'=true:=λh=>by
    obtain⟨j,h1,h2,e',h3,h4⟩:=kF p r (i+1) x h
    exact⟨j+1,by rw[h1]; congr 1; omega,by simp only[aV]; omega,e',by simpa using h3,h4⟩
   simp only[dx] at h
   split at h
   ·rename_i hp
    rw[aC] at h
    rcases h with rfl|h
    ·exact⟨0,rfl,by simp,e,rfl,hp⟩
    ·exact key h
   ·exact key h
theorem pG (es:List (Int×Int)) (x:Int):(fW es x).map (λi=>((es[i.toNat]?).getD (0,0)).2)=hsM es x:=by
 have:=mD (λe=>decide (e.1=x)) es []
 simp only[bh,df] at this
 unfold fW hsM
 rw[← this,jM]
 rfl
def Acy (es:List (Int×Int)):Prop:=∃ rank:Int→Nat,∀ e∈es,rank e.1<rank e.2
theorem Kahn.acy {n:Nat}{es:List (Int×Int)}{out ws:List Int} (k:Kahn n es out ws) (he:es.all (okE n)=true) (hz:∀ v:Nat,v<n→ws.getD v 0≠0) :
 (∀ v:Nat,v<n→ws.getD v 0≤0)↔Acy es:=by
 constructor
 ·intro h
  have hall:∀ x:Int,0≤x→x<n→x∈out:=λx h1 h2=>by
   refine Classical.byContradiction λhm=>?_
   have e:x=((x.toNat:Nat):Int):=om
   rw[e] at hm
   have h3:=k.cnt x.toNat om hm
   have h4:=h x.toNat om
   have h5:=hz x.toNat om
   omega
  refine⟨λx=>out.idxOf x,λe hee=>?_⟩
  have ho:=lv (bA.1 he e hee)
  have hm:=hall e.2 om om
  obtain⟨p,q,hpq⟩:=mJ hm
  have hp:=k.ord p e.2 q hpq e hee rfl
  have hn:¬ e.2∈p:=λh=>by
   have:=k.nd
   rw[hpq,bX] at this
   exact this.2.2 _ h _ (by simp) rfl
  show out.idxOf e.1<out.idxOf e.2
  rw[hpq,AW,AW,if_pos hp,if_neg hn]
  have:=List.idxOf_lt_length_of_mem hp
  omega
 ·rintro⟨rank,hr⟩ v hv
  have key:∀ N,∀ v:Nat,v<n→rank v<N→((v:Nat):Int)∈out:=by
   intro N
   induction N with
   | zero=>intro v _ h; omega
   | succ N ih =>
     intro v hv hN
     refine Classical.byContradiction λhm=>?_
     have h1:=k.cnt v hv hm
     have h2:=hz v hv
     have h3:0<oT es out ((v:Nat):Int):=om
     unfold oT at h3
     rw[iB] at h3
     obtain⟨e,hee,h4⟩:=h3
     simp only[aq,aj,eB,dX,aR] at h4
     have h5:=hr e hee
     rw[h4.1] at h5
     have ho:=lv (bA.1 he e hee)
     have e1:e.1=((e.1.toNat:Nat):Int):=om
     refine h4.2 ?_
     rw[e1]
     exact ih e.1.toNat om (by rw[← e1]; omega)
  have:=k.neg v hv (key (rank v+1) v hv om)
  omega
theorem Kahn.back {n:Nat}{es:List (Int×Int)}{out ws:List Int} (k:Kahn n es out ws) (he:es.all (okE n)=true) (hz:∀ v:Nat,v<n→ws.getD v 0≠0) {v:Nat} (hv:v<n) (hp:0<ws.getD v 0) :
 ∃ e∈es,e.2=((v:Nat):Int)∧0<ws.getD e.1.toNat 0:=by
 have hm:¬ ((v:Nat):Int)∈out:=λh=>by have:=k.neg v hv h; omega
 have h1:=k.cnt v hv hm
 have h3:0<oT es out ((v:Nat):Int):=om
 unfold oT at h3
 rw[iB] at h3
 obtain⟨e,hee,h4⟩:=h3
 simp only[aq,aj,eB,dX,aR] at h4
 have ho:=lv (bA.1 he e hee)
 have e1:e.1=((e.1.toNat:Nat):Int):=om
 refine⟨e,hee,h4.1,?_⟩
 have h5:=k.cnt e.1.toNat om (by rw[← e1]; exact h4.2)
 have h6:=hz e.1.toNat om
 omega
open Go.Am
theorem jV {α:Type} (P:α→Bool):∀ (l:List α) (i:Nat),0≤dK P l i→∃ k,dK P l i=((i+k:Nat):Int)∧∃ (hk:k<l.length),P l[k]=true
 | [],i,h=>by simp [dK] at h
 | x::r,i,h=>by
   simp only[dK] at h ⊢
   by_cases hp:P x=true
   ·exact⟨0,by simp [hp],by simp,by simpa using hp⟩
   ·simp only[hp,if_false] at h ⊢
    obtain⟨k,h1,h2,h3⟩:=jV P r (i+1) (by simpa using h)
    exact⟨k+1,by simp only[bF,if_false,h1]; congr 1; omega,by simp only[aV]; omega,by simpa using h3⟩
theorem qg {α:Type} (P:α→Bool) (l:List α) (i:Nat) (h:dK P l i<0):∀ x∈l,P x=false:=by
 have:=(kD P l i).2.1 h
 rw[AX] at this
 intro x hx
 simpa using this x hx
theorem lS (xs:List Int):xs.flatMap eI=xs.map (AV.int .i64):=by
 induction xs with
 | nil=>rfl
 | cons x r ih=>rw[eP,ih]; rfl
theorem BF {xs:List Int}{i:Nat}{z:Int}:(xs.flatMap eI).set i (.int .i64 z)=(xs.set i z).flatMap eI:=by
 rw[lS,lS,AU]
theorem at_cI {xs:List Int}{i:Nat} (hi:i<xs.length):(xs.flatMap eI)[i]?=some (.int .i64 (xs.getD i 0)):=by
 rw[lS,be,aw hi,aL,aw hi]
 rfl
theorem dQ (xs:List Int):(xs.flatMap eI).length=xs.length:=by rw[lS,au]
theorem Dv {xs:List Int}{b:Nat}:tG xs ((b:Nat):Int)=xs.set b (xs.getD b 0-1):=rfl
theorem FG {h:AH}{vp:AV}{n:Nat}{es:List (Int×Int)} (hv:IsView h vp n es) :
 C prg 108 [vp] h λr h'=>∃ a w out ws,r=.tup [a,w]∧IsSl h' 1 h.next w (ws.flatMap eI)∧Kahn n es out ws∧(∀ v:Nat,v<n→ws.getD v 0≠0)∧Ext h.next h h':=by
 obtain⟨b,ev,os,is,ob,ib,rfl,g1,g2,g3,g4,g5,g6,g7,g8,m1,m2,m3,m4⟩:=hv
 refine HH pf108 ?_
 have r1:ar h b 3 1=some [.sl ib 0 n n]:=bB g1 rfl
 refine ab (ah (Mi0) ?_)
 refine ab (ab (ah (Mi1 r1) ?_))
 refine hU (α:=AV) (N:=n) (λk a=>[(0,.ptr b 0),(12,.sl ib 0 n n),(3,a),(2,.nils)])
  (λk a h'=>IsSl h' 1 h.next a (((List.range k).map λx=>(((eW es ((x:Nat):Int)).length:Nat):Int)).flatMap eI)∧Ext h.next h h') .nils (λ_ _=>rfl) om (Hi0) ⟨.inl ⟨rfl,rfl⟩,HE⟩ ?_ ?_
 ·rintro k a ts h1 hk ⟨j1,j2⟩ ⟨ei,en,e0,e12,e3,e2,-⟩
  simp only at ei en e0 e12 e3 e2
  have ik:bN ((k:Nat):Int) n=some k:=aO hk
  have rk:=bB (show h1.get ib=some (.cells is 1 false) by rw[j2.gt _ (AH.lt_of_get g4)]; exact g4) (aw (show k<is.length by omega))
  have lk:=(g8 k _ (aw (show k<is.length by omega))).len
  rw[au] at lk
  have hlen:(((List.range k).map λx=>(((eW es ((x:Nat):Int)).length:Nat):Int)).flatMap eI).length=k:=by rw[dQ]; simp
  obtain⟨s',h2,a1,i1,x1,n1⟩:=j1.push (bytes:=8) (eI ((eW es ((k:Nat):Int)).length:Nat)) j2.nx om rfl rfl (by rw[hlen]; unfold bd; omega) (by rw[hlen]; unfold bd; omega)
  rw[show eI (((eW es ((k:Nat):Int)).length:Nat):Int)=[.int .i64 (((eW es ((k:Nat):Int)).length:Nat):Int)] from rfl] at a1 i1
  refine ab (ah (M5 e12 ei ik @ai rk) ?_)
  refine ah (by simp only[am,aD,simprocAttr,e3,lk,a1]<;>rfl) ?_
  refine⟨s',⟨?_,j2.trans x1⟩,H5 ei en e0 e12 e2⟩
  rw[cJ,cV,bQ]
  exact i1
 ·rintro w0 ts h1 ⟨j1,j2⟩ ⟨e0,e12,e3,e2,-⟩
  simp only at e0 e12 e3 e2
  rcases j1 with ⟨_,hz⟩|⟨wb,nn,hwb,rfl,gw,hwl⟩
  ·exfalso
   have:=congrArg List.length hz
   rw[dQ] at this
   simp at this
   omega
  have hnn:nn=n:=by rw[dQ] at hwl; simp at hwl; omega
  subst hnn
  refine aU (cf (λm ts h'=>∃ (a:AV) (out ws:List Int),m=nn-out.length∧Kahn nn es out ws∧IsSl h' 1 (wb+1) a (out.flatMap eI)∧h'.get wb=some (.cells (ws.flatMap eI) 1 false)∧Ext h.next h h'∧wb<h'.next∧Held [(0,.ptr b 0),(3,.sl wb 0 nn nn),(2,a)] ts) ?_ (n:=nn)
   ⟨.nils,[],_,rfl,Kahn.start,.inl ⟨rfl,rfl⟩,gw,j2,AH.lt_of_get gw,H3 e0 e3 e2⟩)
  clear e0 e12 e3 e2 gw j2
  rintro m ts h2 ⟨a,out,ws,rfl,k,ia,gw,x2,hwn,e0,e3,e2,-⟩
  simp only at e0 e3 e2
  have hlo:out.length≤nn:=by
   have h1:out ⊆ (List.range nn).map λx=>((x:Nat):Int):=λv hv=>by
    have:=k.rng v hv
    exact bJ.2 ⟨v.toNat,bz.2 om,om⟩
   have:=k.nd.length_le_of_subset h1
   simpa using this
  have hsl:SlI h2 (.sl wb 0 nn nn) ws:=HB (lo:=0) om (λ_=>rfl) (.inr ⟨wb,nn,om,rfl,gw,by rw[dQ,k.len,ai]⟩)
  refine aU (ab (aX (aP 1 (M1 e3) rfl (Z1 e3) (M1 e3) (mZ (y:=0) hsl (by rw[k.len]; omega)) λr h3 hq=>?_)))
  obtain⟨rfl,x3⟩:=hq
  refine aW (M0) ?_
  refine ab (ab (ah (M0) ?_))
  refine bg (t:=decide (dK (0==·) ws 0<0)) (Z0) (λq=>?_) λq=>?_
  ·have q:dK (0==·) ws 0<0:=aF q
   have hz:=qg _ _ _ q
   refine ab (ah (M2 e2 e3) ?_)
   refine bt ⟨.tup [a,.sl wb 0 nn nn],(by simp only[rs,rf108,am,aD,simprocAttr]<;>rfl),a,_,out,ws,rfl,.inr ⟨wb,nn,hwb,rfl,by rw[x3.gt _ hwn]; exact gw,by rw[dQ,k.len,ai]⟩,k,λv hv h0=>?_,x2.trans (x3.mono x2.nx)⟩
   have:=hz (ws[v]'(by rw[k.len]; exact hv)) (bq _)
   rw[aL,aw (by rw[k.len]; exact hv),dh] at h0
   rw[h0] at this
   simp at this
  ·have q:¬ dK (0==·) ws 0<0:=aE q
   obtain⟨x,hx1,hx2,hx3⟩:=jV (0==·) ws 0 om
   rw[bO] at hx1
   rw[hx1]
   have hx0:ws.getD x 0=0:=by
    rw[aL,aw hx2,dh]
    simp at hx3
    exact hx3.symm
   have hxn:x<nn:=by rw[← k.len]; exact hx2
   refine aN ?_
   have k':=k.step m4 m3 hxn hx0
   have gw3:h3.get wb=some (.cells (ws.flatMap eI) 1 false):=by rw[x3.gt _ hwn]; exact gw
   obtain⟨s',h4,a1,i4,x4,n4⟩:=(ia.ext x3 (ae _)).push (bytes:=8) (eI ((x:Nat):Int)) (by have:=x3.nx; omega) om rfl rfl (by rw[dQ]; unfold bd; omega) (by rw[dQ]; unfold bd; omega)
   rw[show eI ((x:Nat):Int)=[.int .i64 ((x:Nat):Int)] from rfl] at a1 i4
   refine ab (ah (M2 e2 a1) ?_)
   have gw4:h4.get wb=some (.cells (ws.flatMap eI) 1 false):=by rw[x4.gt _ om]; exact gw3
   have ix:bN ((x:Nat):Int) nn=some x:=aO hxn
   have w5:=dW (v:=.int .i64 (-1)) gw4 (show x<(ws.flatMap eI).length by rw[dQ]; exact hx2)
   rw[BF] at w5
   have u5:=HF (o:=.cells ((ws.set x (-1)).flatMap eI) 1 false) gw4
   refine ab (ah (M4 e3 ix @ai w5) ?_)
   generalize h4.put wb (.cells ((ws.set x (-1)).flatMap eI) 1 false)=h5 at *
   have n3:=x3.nx
   have n5:=u5.nx
   have X5:Ext h.next h h5:=x2.trans ((x3.mono x2.nx).trans ((x4.mono om).trans (u5.ext om)))
   have rr2:ar h5 b 2 1=some [.sl ob 0 nn nn]:=bB (by rw[X5.gt _ (AH.lt_of_get g1)]; exact g1) rfl
   have hol:x<os.length:=om
   have rr3:ar h5 ob x 1=some [os[x]]:=bB (by rw[X5.gt _ (AH.lt_of_get g3)]; exact g3) (aw hol)
   have so:=g7 x _ (aw hol)
   have lo':=so.len
   rw[au] at lo'
   refine ab (ah (M6 e0 rr2 ix @ai rr3 lo') ?_)
   have hll:(fW es ((x:Nat):Int)).length≤128:=bS (gR _ _ _) m3
   have hhl:(hsM es ((x:Nat):Int)).length=(fW es ((x:Nat):Int)).length:=by rw[← pG,au]
   refine hU (α:=Unit) (N:=(fW es ((x:Nat):Int)).length) (λ_ _=>[(43,os[x]),(3,.sl wb 0 nn nn),(0,.ptr b 0),(2,s')])
    (λk _ h'=>h'.get wb=some (.cells ((kH ((hsM es ((x:Nat):Int)).take k) (ws.set x (-1))).flatMap eI) 1 false)∧IsSl h' 1 (wb+1) s' ((out++[((x:Nat):Int)]).flatMap eI)∧Ext h.next h h'∧wb<h'.next) () (λ_ _=>rfl) om (H2 e0 e3)
    ⟨u5.get,by rw[bQ]; exact i4.upd u5 om,X5,om⟩ ?_ ?_
   ·clear rr2 rr3 e0 e3 e2
    rintro j _ ts h6 hj ⟨j1,j2,j3,j4⟩ ⟨ei,en,e43,e3,e0,e2,-⟩
    simp only at ei en e43 e3 e0 e2
    obtain⟨jb,jp,a6,r6,_⟩:=(so.ext j3 (ae _)).at1 (cF (f:=eI) hj)
    obtain⟨ed,hed1,hed2,ed',hed3,hed4⟩:=kF (λe=>decide (e.1=((x:Nat):Int))) es 0 _ (bq hj)
    rw[bO] at hed1
    have hed1:(fW es ((x:Nat):Int))[j]=((ed:Nat):Int):=hed1
    rw[hed1] at r6
    obtain⟨ea,eb,eab,hea,heb⟩:=lR (bA.1 m4 _ (bq hed2))
    have hhj:(hsM es ((x:Nat):Int))[j]'om=((eb:Nat):Int):=by
     have:(hsM es ((x:Nat):Int))[j]?=some ((eb:Nat):Int):=by
      rw[← pG,be,aw hj,hed1,aH,bK,aw hed2,dh,eab]
     exact (aJ.1 this).2
    obtain⟨eb1,ep,a7,_,r7,_⟩:=(g2.ext j3 (ae _)).at (cF (f:=eE) hed2)
    have r7:=r7 1 (.int .i64 ((eb:Nat):Int)) (by rw[eab]; rfl)
    have rv:ar h6 b 1 1=some [ev]:=bB (by rw[j3.gt _ (AH.lt_of_get g1)]; exact g1) rfl
    have ie:bN ((eb:Nat):Int) nn=some eb:=aO heb
    have hdl:(kH ((hsM es ((x:Nat):Int)).take j) (ws.set x (-1))).length=nn:=by rw[qy,ce,k.len]
    have rw6:=bB j1 (at_cI (show eb<(kH ((hsM es ((x:Nat):Int)).take j) (ws.set x (-1))).length by omega))
    have hbd:-20000≤(kH ((hsM es ((x:Nat):Int)).take j) (ws.set x (-1))).getD eb 0∧(kH ((hsM es ((x:Nat):Int)).take j) (ws.set x (-1))).getD eb 0≤200:=by
     rw[qz _ _ _ (λc hc=>by have:=Dc m4 (List.mem_of_mem_take hc); rw[ce,k.len]; omega),pZ (by rw[k.len]; exact hxn)]
     have c1:((hsM es ((x:Nat):Int)).take j).count ((eb:Nat):Int)≤128:=bS tZ (by rw[aZ]; omega)
     have c2:=k.lo eb heb
     have c3:ws.getD eb 0≤128:=by
      by_cases hm:((eb:Nat):Int)∈out
      ·have:=k.neg eb heb hm; omega
      ·rw[k.cnt eb heb hm]
       have:oT es out ((eb:Nat):Int)≤es.length:=kh
       omega
     split
     ·omega
     ·omega
    have w1:IntKind.i64.wrap ((kH ((hsM es ((x:Nat):Int)).take j) (ws.set x (-1))).getD eb 0-1)=(kH ((hsM es ((x:Nat):Int)).take j) (ws.set x (-1))).getD eb 0-1:=bE om om
    have w7:=dW (v:=.int .i64 ((kH ((hsM es ((x:Nat):Int)).take j) (ws.set x (-1))).getD eb 0-1)) j1 (show eb<_ by rw[dQ]; omega)
    rw[BF,← Dv] at w7
    have ed1:tG (kH ((hsM es ((x:Nat):Int)).take j) (ws.set x (-1))) ((eb:Nat):Int)=kH ((hsM es ((x:Nat):Int)).take (j+1)) (ws.set x (-1)):=by
     rw[aK om,hhj]
     unfold kH
     rw[eO]
     rfl
    rw[ed1] at w7
    have u7:=HF (o:=.cells ((kH ((hsM es ((x:Nat):Int)).take (j+1)) (ws.set x (-1))).flatMap eI) 1 false) j1
    refine ab (ah (M4 e43 ei a6 r6) ?_)
    refine ah (M10 e3 e0 rv a7 r7 ie @ai rw6 w1 w7) ?_
    exact⟨(),⟨u7.get,j2.upd u7 om,j3.trans (u7.ext om),by rw[u7.nx]; exact j4⟩,H6 ei en e43 e3 e0 e2⟩
   ·clear rr2 rr3 e0 e3 e2
    rintro _ ts h6 ⟨j1,j2,j3,j4⟩ ⟨e43,e3,e0,e2,-⟩
    simp only at e43 e3 e0 e2
    rw[← hhl,bp] at j1
    exact⟨nn-(out++[((x:Nat):Int)]).length,by
     have h1:(out++[((x:Nat):Int)]) ⊆ (List.range nn).map λx=>((x:Nat):Int):=λv hv=>by
      have:=k'.rng v hv
      exact bJ.2 ⟨v.toNat,bz.2 om,om⟩
     have:=k'.nd.length_le_of_subset h1
     simp only[aM,aV,bh,au,cB] at this ⊢
     omega,s',_,_,rfl,k',j2,j1,j3,j4,H3 e0 e3 e2⟩
theorem Gu {h:AH}{ib n:Nat}{ls:List AV}{f:Nat→List Int} (ho:h.get ib=some (.cells ls 1 false)) (hl:ls.length=n) (hn:n≤64) (hr:∀ (y:Nat) (v:AV),ls[y]?=some v→SlI h v (f y)) :
 C prg 116 [.sl ib 0 n n] h λr h'=>IsSl h' 1 h.next r ((((List.range n).filter λx=>(f x).length==0).map λx=>((x:Nat):Int)).flatMap eI)∧Ext h.next h h':=by
 refine HH pf116 ?_
 refine ab (ah (Mi0) ?_)
 refine ab (ab (ah (Mi0) ?_))
 refine hU (α:=AV) (N:=n) (λk a=>[(5,.sl ib 0 n n),(2,a)]) (λk a h'=>IsSl h' 1 h.next a ((((List.range k).filter λx=>(f x).length==0).map λx=>((x:Nat):Int)).flatMap eI)∧Ext h.next h h') .nils (λ_ _=>rfl) om (Oi0) ⟨.inl ⟨rfl,rfl⟩,HE⟩ ?_ ?_
 ·rintro k a ts h1 hk ⟨j1,j2⟩ ⟨ei,en,e5,e2,-⟩
  simp only at ei en e5 e2
  have ik:bN ((k:Nat):Int) n=some k:=aO hk
  have rk:=bB (show h1.get ib=some (.cells ls 1 false) by rw[j2.gt _ (AH.lt_of_get ho)]; exact ho) (aw (show k<ls.length by omega))
  have lk:=(hr k _ (aw (show k<ls.length by omega))).len
  rw[au] at lk
  have hlen:((((List.range k).filter λx=>(f x).length==0).map λx=>((x:Nat):Int)).flatMap eI).length≤k:=by
   rw[dQ,au]
   exact bS (da _ _) (by simp)
  refine ab (ah (M5 e5 ei ik @ai rk) ?_)
  refine ab (ah (by simp only[am,aD,simprocAttr,lk]<;>rfl) ?_)
  refine bg (t:=decide ((f k).length=0)) (by simp only[am,aD,simprocAttr]; exact congrArg AV.bool (by simp only[decide_eq_decide]; omega)) (λq=>?_) λq=>?_
  ·have q:(f k).length=0:=aF q
   obtain⟨s',h2,a1,i1,x1,n1⟩:=j1.push (bytes:=8) (eI ((k:Nat):Int)) j2.nx om rfl rfl (by unfold bd; omega) (by unfold bd; omega)
   rw[show eI ((k:Nat):Int)=[.int .i64 ((k:Nat):Int)] from rfl] at a1 i1
   refine ah (M2 e2 a1) ?_
   refine⟨s',⟨?_,j2.trans x1⟩,O3 ei en e5⟩
   rw[cJ,ft,pg,if_pos (by simp [q]),List.filter_nil,cV,bQ]
   exact i1
  ·have q:¬ (f k).length=0:=aE q
   refine aN ⟨a,⟨?_,j2⟩,O4 ei en e5 e2⟩
   rw[cJ,ft,pg,if_neg (by simpa using q),List.filter_nil,bU]
   exact j1
 ·rintro a ts h1 ⟨j1,j2⟩ ⟨e5,e2,-⟩
  simp only at e5 e2
  refine ab (ah (M1 e2) ?_)
  exact bt ⟨a,(by simp only[rs,rf116,am,aD,simprocAttr]<;>rfl),j1,j2⟩
def iR (n:Nat) (es:List (Int×Int)):List Int:=((List.range n).filter λx=>(eW es ((x:Nat):Int)).length==0).map λx=>((x:Nat):Int)
theorem wC {h:AH}{vp:AV}{n:Nat}{es:List (Int×Int)} (hv:IsView h vp n es):C prg 63 [vp] h λr h'=>IsSl h' 1 h.next r ((iR n es).flatMap eI)∧Ext h.next h h':=by
 obtain⟨b,ev,os,is,ob,ib,rfl,g1,g2,g3,g4,g5,g6,g7,g8,m1,m2,m3,m4⟩:=hv
 refine HH pf63 ?_
 have r1:ar h b 3 1=some [.sl ib 0 n n]:=bB g1 rfl
 refine ab (ah (Mi0) ?_)
 refine ab (aX (aP 4 (Mi1 r1) rfl (Zi1 r1) (Mi1 r1) (Gu (f:=λy=>eW es ((y:Nat):Int)) g4 g6 m2 (λy v q=>g8 y v q)) λr h2 hq=>?_))
 refine aW (M0) ?_
 exact bt ⟨r,(by simp only[rs,rf63,am,aD,simprocAttr]<;>rfl),hq⟩
end Go.Proofs.YtahepnbflofndaaGreatDoor
