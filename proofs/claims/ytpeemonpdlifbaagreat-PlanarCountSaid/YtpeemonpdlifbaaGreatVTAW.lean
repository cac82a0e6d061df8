/- planar -/
import Derived.Test.YtpeemonpdlifbaaGreatVTAV
import Derived.Test.YtpeemonpdlifbaaGreatVTAL
set_option linter.all false
namespace Go.Proofs.YtpeemonpdlifbaaGreat
open Go.Am
open Go.Pla (at_ jn On)
theorem AW {g:Go.Blk.Gr}{w:List Nat}{k i:Nat} (hk:k<w.length):On g (w.take (k+1)) i↔On g (w.take k) i∨∃ j,k=j+1∧jn g i (w.getD j 0) (w.getD k 0)=true:=by
 have h1:w.take (k+1)=w.take k++[w[k]]:=by rw[eJ,ah hk]; rfl
 have hd:w.getD k 0=w[k]:=by simp [List.getD,hk]
 constructor
 ·rintro⟨a,x,y,b,h2,h3⟩
  rw[h1] at h2
  rcases cJ b with rfl|⟨b,q,rfl⟩
  ·have h4:w.take k++[w[k]]=(a++[x])++[y]:=by rw[h2]; simp
   obtain⟨h5,h6⟩:=dH h4 rfl
   injection h6 with h6
   have hl:=congrArg List.length h5
   rw[bS,aI,tD] at hl
   have hk1:k=a.length+1:=om
   refine .inr ⟨a.length,hk1,?_⟩
   have:w.getD a.length 0=x:=by
    have h7:(w.take k)[a.length]?=some x:=by rw[h5]; simp
    rw[cQ] at h7
    rw[if_pos om] at h7
    simp [List.getD,h7]
   rw[this,hd,h6]; exact h3
  ·rw[dj] at h2
   have h4:w.take k++[w[k]]=(a++x::y::b)++[q]:=by rw[h2]; simp
   obtain⟨h5,_⟩:=dH h4 rfl
   exact .inl ⟨a,x,y,b,h5,h3⟩
 ·rintro (⟨a,x,y,b,h2,h3⟩|⟨j,rfl,h3⟩)
  ·exact⟨a,x,y,b++[w[k]],by rw[h1,h2]; simp,h3⟩
  ·have hj:j<w.length:=om
   have h4:w.take (j+1)=w.take j++[w[j]]:=by rw[eJ,ah hj]; rfl
   have hdj:w.getD j 0=w[j]:=by simp [List.getD,hj]
   rw[hd,hdj] at h3
   exact⟨w.take j,w[j],w[j+1],[],by rw[h1,h4,bP]; rfl,h3⟩
theorem Ki {n:Nat}{E:List (Int×Int)}{hE:InG n E}{hL:∀ i,i<E.length→tlE E i≠hdE E i}{i x y:Nat}:jn (grE n E hE hL) i y x=true↔kB E i x=true∧mf E i x=((y:Nat):Int):=by
 rw[Go.Pla.jn_iff]
 show ((tlE E i=y∧hdE E i=x)∨(tlE E i=x∧hdE E i=y))↔_
 simp only[kB,mf,bN,aA]
 omega
set_option maxHeartbeats 2000000 in
theorem xE {h:AH}{bb n:Nat}{ev edv wv:AV}{E:List (Int×Int)}{Bl w:List Nat}{la pa:Nat}{H V:Nat→Bool}{fav:AV} (u:Bu h bb n ev edv E Bl la pa H V fav) (hE:InG n E) (hL:∀ i,i<E.length→tlE E i≠hdE E i) (hn:n<2 ^ 30) (hm:E.length<2 ^ 30) (hB:∀ i∈Bl,i<E.length) (hBn:Bl.length<2 ^ 30) (hw:SlN h wv w) (hwn:∀ x∈w,x<n) (hwl:w.length<2 ^ 30) (ho:Off (λc=>c=la∨c=pa) wv) :
 C prg 49 [.ptr bb 0,wv] h λ_ h'=>∃ H' V',Bu h' bb n ev edv E Bl la pa H' V' fav∧Kp (λc=>c=la∨c=pa) h h'∧(∀ i,H' i=true↔H i=true∨(i∈Bl∧On (grE n E hE hL) w i))∧(∀ v,V' v=true↔V v=true∨v∈w):=by
 refine LB pf49 ?_
 have wl:=hw.len
 rw[ak,ak] at wl
 refine aj (aB (Mi1 wl) ?_)
 refine fB (α:=(Nat→Bool)×(Nat→Bool)) (N:=w.length) (λ_ _=>[(10,wv),(0,.ptr bb 0),(1,wv)])
  (λk a h'=>Bu h' bb n ev edv E Bl la pa a.1 a.2 fav∧Kp (λc=>c=la∨c=pa) h h'∧(∀ i,a.1 i=true↔H i=true∨(i∈Bl∧On (grE n E hE hL) (w.take k) i))∧(∀ v,a.2 v=true↔V v=true∨v∈w.take k))
  (H,V) (λ_ _=>rfl) om (Hi1 @cH) ⟨u,Kp.refl,λi=>?_,λv=>by simp⟩ ?_ ?_
 ·constructor
  ·exact .inl
  ·rintro (h|⟨_,a,x,y,b,h,_⟩)
   ·exact h
   ·have:=congrArg List.length h
    simp at this
 ·rintro k ⟨Hk,Vk⟩ ts h1 hk ⟨j1,j2,j3,j4⟩ ⟨ei,en,e10,e0,e1,-⟩
  simp only at ei en e10 e0 e1 j1 j2 j3 j4
  have hw1:=hw.kp j2 ho
  obtain⟨b,o,a,rr,_⟩:=hw1.at1 (i:=k) (y:=.int .i64 (w[k]:Nat)) (by rw[aG,aG,ah hk]; rfl)
  have hxn:=hwn _ (aR hk)
  have hgd:w.getD k 0=w[k]:=by simp [List.getD,hk]
  have htk:w.take (k+1)=w.take k++[w[k]]:=by rw[eJ,ah hk]; rfl
  generalize hx:w[k]=x at *
  refine aj (aB (M4 e10 ei a rr) ?_)
  have r4:ar h1 bb 4 1=some [.sl pa 0 n n]:=bq j1.o rfl
  have ix:fU ((x:Nat):Int) n=some x:=dU hxn
  obtain⟨h2,w2,u2,up2⟩:=j1.putV hxn
  refine aj (bT (λts h'=>h'=h2∧Held [(12,.int .i64 (k:Nat)),(11,.int .i64 (w.length:Nat)),(10,wv),(0,.ptr bb 0),(1,wv),(4,.int .i64 (k:Nat)),(5,.int .i64 (x:Nat))] ts) (by simp only[am,aF,simprocAttr,ei,en,e10,e0,e1,r4,ix,aO,w2,cz,cK]) ?_)
  rintro ts h2' ⟨rfl,ei,en,e10,e0,e1,e4,e5,-⟩
  have k2:=j2.trans (up2.kp (S:=λc=>c=la∨c=pa) (.inr rfl)) (λ_ _ q=>q)
  have hV2:∀ v,(if v=x then true else Vk v)=true↔V v=true∨v∈w.take (k+1):=λv=>by
   rw[htk,aC,cq]
   by_cases q:v=x
   ·simp [q]
   ·simp [q,j4 v]
  by_cases hk0:k=0
  ·subst hk0
   refine aj (aj (aB (M3 e4 @cH @decide_true) ?_))
   refine cX (Z1 @decide_true) (ft ⟨λ_=>⟨(Hk,λj=>if j=x then true else Vk j),⟨u2,k2,λi=>?_,hV2⟩,by simp only[hl,am,aF,simprocAttr,ei,en,e10,e0,e1]⟩,λe=>absurd rfl e⟩)
   rw[AW hk,j3]
   constructor
   ·rintro (h|⟨h1,h2⟩)
    ·exact .inl h
    ·exact .inr ⟨h1,.inl h2⟩
   ·rintro (h|⟨h1,h2|⟨j,h2,_⟩⟩)
    ·exact .inl h
    ·exact .inr ⟨h1,h2⟩
    ·omega
  ·obtain⟨k',rfl⟩:∃ k',k=k'+1:=⟨k-1,om⟩
   have d0:decide (((k'+1:Nat):Int)=0)=false:=by rw[aV]; omega
   refine aj (aj (aB (M2 e4 d0) ?_))
   refine dL (Z1 d0) (bK ?_)
   have rb:ar h2' bb 2 1=some [edv]:=bq u2.o rfl
   have lb:=u2.b.len
   rw[ak,ak] at lb
   refine aj (aB (M3 e0 rb lb) ?_)
   have hk':k'<w.length:=om
   have hgd':w.getD k' 0=w[k']:=by simp [List.getD,hk']
   have w1:IntKind.i64.wrap (((k'+1:Nat):Int)-1)=((k':Nat):Int):=by
    have:((k'+1:Nat):Int)-1=((k':Nat):Int):=om
    rw[this]; exact fz om om
   refine fB (α:=Nat→Bool) (N:=Bl.length) (λ_ _=>[(28,edv),(12,.int .i64 ((k'+1:Nat):Int)),(11,.int .i64 (w.length:Nat)),(10,wv),(0,.ptr bb 0),(1,wv),(4,.int .i64 ((k'+1:Nat):Int)),(5,.int .i64 (x:Nat))])
    (λi a h'=>Bu h' bb n ev edv E Bl la pa a (λj=>if j=x then true else Vk j) fav∧Kp (λc=>c=la∨c=pa) h h'∧∀ j,a j=true↔Hk j=true∨(j∈Bl.take i∧jn (grE n E hE hL) j (w.getD k' 0) x=true))
    Hk (λ_ _=>rfl) om (by simp only[hl,am,aF,simprocAttr,ei,en,e10,e0,e1,e4,e5]) ⟨u2,k2,λj=>by simp⟩ ?_ ?_
   ·clear ei en e10 e0 e1 e4 e5 rb lb r4 a rr
    rintro i Hi ts h3 hi ⟨i1,i2,i3⟩ ⟨f30,f29,f28,ei,en,e10,e0,e1,e4,e5,-⟩
    simp only at f30 f29 f28 ei en e10 e0 e1 e4 e5 i1 i2 i3
    obtain⟨b3,o3,a3,r3,_⟩:=i1.b.at1 (i:=i) (y:=.int .i64 (Bl[i]:Nat)) (by rw[aG,aG,ah hi]; rfl)
    have hBi:=aR hi
    have htb:Bl.take (i+1)=Bl.take i++[Bl[i]]:=by rw[eJ,ah hi]; rfl
    have hei:=hB _ hBi
    generalize hq:Bl[i]=q at *
    refine aj (aB (M4 f28 f30 a3 r3) ?_)
    have hC:=lz i1 hE (show n<2 ^ 40 by omega) hei hxn
    refine aj (bO (bt 3 (M2 e0 e5) rfl (Z2 e0 e5) (M2 e0 e5) (hC) λv h4 hv=>?_))
    obtain⟨rfl,x4⟩:=hv
    refine bI (M0) ?_
    have u4:=i1.ext x4 (ae _)
    have k4:Kp (λc=>c=la∨c=pa) h h4:=i2.trans (x4.kp (S:=λc=>c=la∨c=pa) (ae _)) (λ_ _ q=>q)
    have hw4:=hw.kp k4 ho
    obtain⟨b5,o5,a5,r5,_⟩:=hw4.at1 (i:=k') (y:=.int .i64 (w[k']:Nat)) (by rw[aG,aG,ah hk']; rfl)
    have jiff:=Ki (n:=n) (E:=E) (hE:=hE) (hL:=hL) (i:=q) (x:=x) (y:=w.getD k' 0)
    have step:∀ (a':Nat→Bool),(∀ j,a' j=true↔Hi j=true∨(j=q∧jn (grE n E hE hL) q (w.getD k' 0) x=true))→∀ j,a' j=true↔Hk j=true∨(j∈Bl.take (i+1)∧jn (grE n E hE hL) j (w.getD k' 0) x=true):=λa' ha' j=>by
     rw[ha',i3,htb,aC,cq]
     constructor
     ·rintro ((h|⟨h1,h2⟩)|⟨rfl,h2⟩)
      ·exact .inl h
      ·exact .inr ⟨.inl h1,h2⟩
      ·exact .inr ⟨.inr rfl,h2⟩
     ·rintro (h|⟨h1|h1,h2⟩)
      ·exact .inl (.inl h)
      ·exact .inl (.inr ⟨h1,h2⟩)
      ·subst h1; exact .inr ⟨rfl,h2⟩
    cases hI:kB E q x with
    | false =>
      refine aj (aB (M0) ?_)
      refine dL (Z0) (bK ?_)
      exact⟨Hi,⟨u4,k4,step Hi λj=>by rw[jiff,hI]; simp⟩,by simp only[hl,am,aF,simprocAttr,f30,f29,f28,ei,en,e10,e0,e1,e4,e5]⟩
    | true =>
      by_cases hy:mf E q x=((w[k']:Nat):Int)
      ·have dy:decide (mf E q x=((w[k']:Nat):Int))=true:=aL hy
       refine aj (aB (M6 e1 e4 w1 a5 r5 dy) ?_)
       refine cX (Z1 dy) ?_
       have r6:ar h4 bb 3 1=some [.sl la 0 E.length E.length]:=bq u4.o rfl
       have iq:fU ((q:Nat):Int) E.length=some q:=dU hei
       obtain⟨h6,w6,u6,up6⟩:=u4.putH hei
       refine bT (λts h'=>h'=h6∧Held [(30,.int .i64 (i:Nat)),(29,.int .i64 (Bl.length:Nat)),(28,edv),(12,.int .i64 ((k'+1:Nat):Int)),(11,.int .i64 (w.length:Nat)),(10,wv),(0,.ptr bb 0),(1,wv),(4,.int .i64 ((k'+1:Nat):Int)),(5,.int .i64 (x:Nat))] ts) (by simp only[am,aF,simprocAttr,f30,f29,f28,ei,en,e10,e0,e1,e4,e5,r6,iq,aO,w6,cz,cK]) ?_
       rintro ts h6' ⟨rfl,hh⟩
       refine⟨_,⟨u6,k4.trans (up6.kp (S:=λc=>c=la∨c=pa) (.inl rfl)) (λ_ _ q=>q),step _ λj=>?_⟩,hh⟩
       have hj:jn (grE n E hE hL) q (w.getD k' 0) x=true:=jiff.2 ⟨hI,by rw[hgd']; exact hy⟩
       by_cases hjq:j=q
       ·subst hjq
        exact⟨λ_=>.inr ⟨rfl,hj⟩,λ_=>by simp⟩
       ·simp [hjq]
      ·have dy:decide (mf E q x=((w[k']:Nat):Int))=false:=aJ hy
       refine aj (aB (M6 e1 e4 w1 a5 r5 dy) ?_)
       refine dL (Z1 dy) (bK ?_)
       refine⟨Hi,⟨u4,k4,step Hi λj=>?_⟩,by simp only[hl,am,aF,simprocAttr,f30,f29,f28,ei,en,e10,e0,e1,e4,e5]⟩
       rw[jiff,hgd']
       simp [hy]
   ·rintro Hi ts h3 ⟨i1,i2,i3⟩ ⟨f28,ei,en,e10,e0,e1,e4,e5,-⟩
    simp only at f28 ei en e10 e0 e1 e4 e5 i1 i2 i3
    refine⟨(Hi,λj=>if j=x then true else Vk j),⟨i1,i2,λj=>?_,hV2⟩,by simp only[hl,am,aF,simprocAttr,ei,en,e10,e0,e1]⟩
    rw[de (ae _)] at i3
    rw[i3,j3,AW hk,hgd]
    constructor
    ·rintro ((h|⟨h1,h2⟩)|⟨h1,h2⟩)
     ·exact .inl h
     ·exact .inr ⟨h1,.inl h2⟩
     ·exact .inr ⟨h1,.inr ⟨k',rfl,h2⟩⟩
    ·rintro (h|⟨h1,h2|⟨j',h3,h2⟩⟩)
     ·exact .inl (.inl h)
     ·exact .inl (.inr ⟨h1,h2⟩)
     ·have:j'=k':=om
      subst this
      exact .inr ⟨h1,h2⟩
 ·rintro⟨Hk,Vk⟩ ts h1 ⟨j1,j2,j3,j4⟩ ⟨e10,e0,e1,-⟩
  rw[de (ae _)] at j3 j4
  exact⟨.tup [],rfl,Hk,Vk,j1,j2,j3,j4⟩
end Go.Proofs.YtpeemonpdlifbaaGreat
namespace Go.Pla
open Go.Blk
variable {g:Gr}{Bl:List Nat}{laid thr:Nat→Bool}
theorem yz (p:Pln g Bl) {X:Nat→Bool} (hX:Even g Bl X) (K:Nat→Bool):par Bl (λe=>X e&&(K (g.tl e) ^^ K (g.hd e)))=false:=by
 have h1:par (List.range g.n) (λv=>K v&&par Bl (λe=>X e&&at_ g e v))=false:=dW λv _=>by rw[hX v]; simp
 rw[par_congr (q:=λv=>par Bl (λe=>X e&&(K v&&at_ g e v))) (λv _=>by
  rw[← fS]
  exact par_congr λe _=>by cases X e<;>cases K v<;>rfl),gQ] at h1
 rw[← h1]
 refine par_congr λe he=>?_
 rw[fS]
 congr 1
 have hok:=g.ok e (p.lt e he)
 rw[par_congr (q:=λv=>((v==g.tl e)&&K v) ^^ ((v==g.hd e)&&K v)) (λv _=>by
  unfold at_
  rw[eM (a:=g.tl e),eM (a:=g.hd e)]
  cases v==g.tl e<;>cases v==g.hd e<;>cases K v<;>rfl),df,cY aQ (by simpa using hok.1),cY aQ (by simpa using hok.2.1)]
theorem tr_in {r:Nat}{L:List (Nat×Nat)} (m:Met g Bl laid thr r L) {y z:Nat} (hy:y∈ks L) (hz:z∈tr L y):z∈ks L:=by
 obtain⟨t,h1,_,_,_,h5⟩:=tr_ok L.length (ae _) m y hy
 rw[h1] at hz
 exact (h5 z hz).1
theorem vz {r:Nat}:∀ (n:Nat) {L:List (Nat×Nat)},L.length≤n→Met g Bl laid thr r L→∀ (y z:Nat),y∈ks L→z∈tr L y→∃ s,tr L y=tr L z++s
 | 0,L,hn,m=>by
   obtain⟨T,hT⟩:=m.root
   rw[hT] at hn; simp at hn
 | n+1,L,hn,m=>by
   intro y z hy hz
   rcases cJ L with h|⟨A,⟨w,x⟩,h⟩
   ·rw[h] at hy; simp [ks] at hy
   rw[dj] at h
   subst h
   by_cases hA:A=[]
   ·subst hA
    obtain⟨T,hT⟩:=m.root
    rw[bj] at hT hy hz ⊢
    injection hT with h1 h2
    injection h1 with h1 h3
    subst h1 h3
    have hyw:=hy
    simp only[ks,bA,List.map_nil,cq] at hyw
    subst hyw
    have hzy:=hz
    simp [tr,trr] at hzy
    subst hzy
    exact⟨[],by simp⟩
   ·have mA:=m.pre hA
    by_cases hyA:y∈ks A
    ·rw[tr_app m.nd hyA] at hz ⊢
     have hzA:=tr_in mA hyA hz
     obtain⟨s,hs⟩:=vz n (by simp at hn; omega) mA y z hyA hz
     exact⟨s,by rw[tr_app m.nd hzA]; exact hs⟩
    ·have hyw:y=w:=by
      rw[ks_app,aC] at hy
      rcases hy with hy|hy
      ·exact absurd hy hyA
      ·simpa [ks] using hy
     subst hyw
     obtain⟨hx,_⟩:=m.par A y x [] rfl hA
     by_cases hzy:z=y
     ·subst hzy; exact⟨[],by simp⟩
     ·rw[tr_last hA] at hz ⊢
      have hz:z∈tr A x:=by
       rcases aC.1 hz with h|h
       ·exact h
       ·exact absurd (by simpa using h) hzy
      have hzA:=tr_in mA hx hz
      obtain⟨s,hs⟩:=vz n (by simp at hn; omega) mA x z hx hz
      exact⟨s++[y],by rw[tr_app m.nd hzA,hs,bP]⟩
theorem rU {z:Nat}:∀ {a b c d:List Nat},(a++z::b).Nodup→a++z::b=c++z::d→a=c
 | [],b,[],d,_,_=>rfl
 | [],b,e::c,d,nd,h=>by
   rw[bj,aE] at h
   injection h with h1 h2
   rw[bj,aW] at nd
   exact absurd (by rw[h2]; simp) nd.1
 | e::a,b,[],d,nd,h=>by
   rw[bj,aE] at h
   injection h with h1 h2
   subst h1
   rw[aE,aW] at nd
   exact absurd (by simp) nd.1
 | e::a,b,e'::c,d,nd,h=>by
   rw[aE,aE] at h
   injection h with h1 h2
   subst h1
   rw[aE,aW] at nd
   rw[rU nd.2 h2]
theorem lst_cat {r:Nat}:∀ {t:List Nat},∃ s,r::t=s++[lst r t]
 | []=>⟨[],rfl⟩
 | y::t=>by
   obtain⟨s,h⟩:=lst_cat (r:=y) (t:=t)
   exact⟨r::s,by rw[lst,aE,← h]⟩
theorem fork {r:Nat}{L:List (Nat×Nat)} (m:Met g Bl laid thr r L) {y1 y2:Nat} (h1:y1∈ks L) (h2:y2∈ks L) {c a b:List Nat}{v:Nat} (e1:tr L y1=c++v::a) (e2:tr L y2=c++v::b) (hd:∀ z a' b',a=z::a'→b=z::b'→False):∀ z∈a,z∉b:=by
 intro z hza hzb
 obtain⟨s1,q1⟩:=vz L.length (ae _) m y1 z h1 (by rw[e1]; simp [hza])
 obtain⟨s2,q2⟩:=vz L.length (ae _) m y2 z h2 (by rw[e2]; simp [hzb])
 have hz:z∈ks L:=tr_in m h1 (by rw[e1]; simp [hza])
 obtain⟨t,t1,t2,_⟩:=tr_ok L.length (ae _) m z hz
 obtain⟨s,hs⟩:=lst_cat (r:=r) (t:=t)
 rw[← t1,t2] at hs
 obtain⟨a1,a2,rfl⟩:=bL hza
 obtain⟨b1,b2,rfl⟩:=bL hzb
 have n1:(c++v::(a1++z::a2)).Nodup:=by
  obtain⟨t',u1,_,u3,_⟩:=tr_ok L.length (ae _) m y1 h1
  rw[← e1,u1]; exact u3
 have n2:(c++v::(b1++z::b2)).Nodup:=by
  obtain⟨t',u1,_,u3,_⟩:=tr_ok L.length (ae _) m y2 h2
  rw[← e2,u1]; exact u3
 rw[e1,hs] at q1
 rw[e2,hs] at q2
 have r1:c++v::a1=s:=rU (z:=z) (b:=a2) (d:=s1) (by simpa using n1) (by simpa using q1)
 have r2:c++v::b1=s:=rU (z:=z) (b:=b2) (d:=s2) (by simpa using n2) (by simpa using q2)
 have r3:a1=b1:=by
  have:=r1.trans r2.symm
  have:=List.append_cancel_left this
  injection this
 subst r3
 cases a1 with
 | nil=>exact hd z a2 b2 rfl rfl
 | cons w a1=>exact hd w (a1++z::a2) (a1++z::b2) rfl rfl
theorem back_ex (p:Pln g Bl) (hb:Bond g Bl) (hl:Link g Bl) {e0 k0:Nat} (he0:e0∈Bl) (hk0:k0∈Bl) (hne:k0≠e0) {f:Nat} (hf:g.n≤f) {o:Option Nat} (h:Hit (full g Bl (λe=>decide (e=e0)) (λ_=>true) f ([(g.tl e0,g.tl e0)],[g.tl e0])) (λy=>decide (y=g.hd e0)) o) :
 o=some (g.hd e0)∧∃ t,tr (full g Bl (λe=>decide (e=e0)) (λ_=>true) f ([(g.tl e0,g.tl e0)],[g.tl e0])) (g.hd e0)=t∧Cc g Bl t∧∃ t',t=g.tl e0::t'∧lst (g.tl e0) t'=g.hd e0:=by
 have hlt:=p.lt e0 he0
 have hok:=g.ok e0 hlt
 have hs:=full_srch (g:=g) (Bl:=Bl) (laid:=λe=>decide (e=e0)) (thr:=λ_=>true) (r:=g.tl e0) p.lt hok.1 f Srch.start (by show g.n-1+1≤f; omega)
 generalize full g Bl (λe=>decide (e=e0)) (λ_=>true) f ([(g.tl e0,g.tl e0)],[g.tl e0])=F at h hs ⊢
 have hm:Met g Bl (λe=>decide (e=e0)) (λ_=>true) (g.tl e0) F:=hs.met
 have hcl:∀ z∈ks F,∀ i∈Bl,at_ g i z=true→i≠e0→g.oth i z∈ks F:=λz hz i hi ha hie=>by
  rcases hs.done z hz (.inr rfl) with h1|⟨_,h1⟩|h1
  ·simp at h1
  ·cases h1
  ·exact h1 i hi ha (by simpa using hie)
 obtain⟨T,hT⟩:=hm.root
 have hroot:g.tl e0∈ks F:=by rw[hT]; simp [ks]
 have hmet:g.hd e0∈ks F:=by
  refine Classical.byContradiction λhno=>?_
  have:∃ v k,k∈Bl∧k≠e0∧at_ g e0 v=true∧at_ g k v=true:=by
   refine Classical.byContradiction λhnx=>?_
   have:=hl (λe=>e==e0) (λv e k he hk hev hkv=>by
    by_cases q1:e=e0
    ·by_cases q2:k=e0
     ·rw[q1,q2]
     ·exact absurd ⟨v,k,hk,q2,q1▸hev,hkv⟩ hnx
    ·by_cases q2:k=e0
     ·exact absurd ⟨v,e,he,q1,q2▸hkv,hev⟩ hnx
     ·rw[beq_eq_false_iff_ne.2 q1,beq_eq_false_iff_ne.2 q2]) e0 he0 k0 hk0
   simp [hne] at this
  obtain⟨v,k,hk,hke,hev,hkv⟩:=this
  obtain⟨X,hX,hXj⟩:=hb v e0 k he0 hk hev hkv (Ne.symm hke)
  have hx0:X e0=true:=by rw[hXj e0 he0 hev]; simp
  have h1:=yz p hX (λz=>decide (z∈ks F))
  rw[par_congr (q:=λe=>(e==e0)&&X e) (λe he=>by
   by_cases q:e=e0
   ·subst q
    rw[aL hroot,aJ hno,beq_self_eq_true]; cases X e<;>rfl
   ·rw[beq_eq_false_iff_ne.2 q]
    have hie:=p.lt e he
    have it:g.inc e (g.tl e):=⟨hie,.inl rfl⟩
    have ih:g.inc e (g.hd e):=⟨hie,.inr rfl⟩
    have ot:g.oth e (g.tl e)=g.hd e:=by unfold Gr.oth; omega
    have oh:g.oth e (g.hd e)=g.tl e:=by unfold Gr.oth; omega
    have:(g.tl e∈ks F)↔(g.hd e∈ks F):=by
     constructor
     ·intro hz; have:=hcl _ hz e he ((at_inc hie).2 it) q; rwa [ot] at this
     ·intro hz; have:=hcl _ hz e he ((at_inc hie).2 ih) q; rwa [oh] at this
    have this:decide (g.tl e∈ks F)=decide (g.hd e∈ks F):=by rw[decide_eq_decide]; exact this
    rw[this]; simp),cY p.nd he0,hx0] at h1
  cases h1
 obtain⟨t,t1,t2,t3,t4,t5⟩:=tr_ok F.length (ae _) hm (g.hd e0) hmet
 constructor
 ·cases o with
  | none =>
    exfalso
    have h:∀ z∈ks F.tail,decide (z=g.hd e0)=false:=h
    have:g.hd e0∈ks F.tail:=by
     rw[hT] at hmet ⊢
     simp only[ks,bA,au,ol] at hmet ⊢
     rcases hmet with h1|h1
     ·exact absurd h1.symm hok.2.2
     ·exact h1
    have:=h _ this
    simp at this
  | some y =>
    obtain⟨A,x,C,_,_,_,hy⟩:=h
    have:y=g.hd e0:=by simpa using hy
    rw[this]
 ·refine⟨_,t1,?_⟩
  have hmono:∀ (s:List Nat),Ch g (Bl.filter λi=>!(decide (i=e0))) s→Ch g Bl s:=by
   intro s
   induction s with
   | nil=>exact λh=>h
   | cons a s ih =>
     cases s with
     | nil=>exact λh=>h
     | cons b s =>
       rintro⟨⟨e,he,hj⟩,h2⟩
       exact⟨⟨e,(aS.1 he).1,hj⟩,ih h2⟩
  refine⟨⟨?_,t3,?_⟩,t,rfl,t2⟩
  ·have key:∀ (t:List Nat) (u:Nat),Ch g Bl (u::t)→lst u t=g.hd e0→Ch g Bl (u::t++[g.tl e0]):=by
    intro t
    induction t with
    | nil =>
      intro u _ hu
      have hu:u=g.hd e0:=hu
      subst hu
      exact⟨⟨e0,he0,by rw[jn_iff]; exact .inr ⟨rfl,rfl⟩⟩,trivial⟩
    | cons w t ih =>
      intro u hc hu
      exact⟨hc.1,ih w hc.2 hu⟩
   exact key t _ (hmono _ t4) t2
  ·cases t with
   | nil=>exact absurd t2 hok.2.2
   | cons a t =>
     cases t with
     | nil =>
       have:a=g.hd e0:=t2
       subst this
       obtain⟨⟨e,he,hj⟩,_⟩:=t4
       obtain⟨he1,he2⟩:=aS.1 he
       have:=p.one e he1 e0 he0 _ _ hj (by rw[jn_iff]; exact .inl ⟨rfl,rfl⟩)
       simp [this] at he2
     | cons b t=>simp
open Go.Blk
variable {g:Gr}{Bl:List Nat}{H V:Nat→Bool}{pt:Nat→Nat}
def Plc (g:Gr) (Bl:List Nat) (H V:Nat→Bool):Prop:=∀ v,V v=true↔∃ e∈Bl,at_ g e v=true∧H e=true
theorem Plc.fresh (h:Plc g Bl H V) {v:Nat} (hv:V v=false):∀ e∈Bl,at_ g e v=true→H e=false:=λe he ha=>by
 cases hH:H e
 ·rfl
 ·rw[(h v).2 ⟨e,he,ha,hH⟩] at hv; cases hv
theorem oth_at {e v:Nat} (he:e<g.m) (h:at_ g e v=true):at_ g e (g.oth e v)=true∧g.oth e (g.oth e v)=v:=by
 have:=inc_oth ((at_inc he).1 h)
 exact⟨(at_inc he).2 this.1,this.2.2⟩
theorem Fz (p:Pln g Bl) (hV:Plc g Bl H V) (P:Part g Bl H pt) {x0 e0:Nat} (h0:V x0=false) (he0:e0∈Bl) (ha0:at_ g e0 x0=true):∀ (n:Nat) {L:List (Nat×Nat)},L.length≤n→Met g Bl H (λv=>!(V v)) x0 L→∀ z∈ks L,V z=false→∀ e∈Bl,at_ g e z=true→pt e=pt e0
 | 0,L,hn,m=>by
   obtain⟨T,hT⟩:=m.root
   rw[hT] at hn; simp at hn
 | n+1,L,hn,m=>by
   intro z hz hvz e he ha
   rcases cJ L with h|⟨A,⟨y,x⟩,h⟩
   ·rw[h] at hz; simp [ks] at hz
   rw[dj] at h
   subst h
   by_cases hA:A=[]
   ·subst hA
    obtain⟨T,hT⟩:=m.root
    rw[bj] at hT hz
    injection hT with h1 _
    injection h1 with h1 _
    subst h1
    have:z=y:=by simpa [ks] using hz
    subst this
    exact P.same z (hV.fresh hvz) e he e0 he0 ha ha0
   ·have mA:=m.pre hA
    have ih:=Fz p hV P h0 he0 ha0 n (by simp at hn; omega) mA
    by_cases hzA:z∈ks A
    ·exact ih z hzA hvz e he ha
    ·have hzy:z=y:=by
      rw[ks_app,aC] at hz
      rcases hz with h|h
      ·exact absurd h hzA
      ·simpa [ks] using h
     subst hzy
     obtain⟨hx,hxr,i,hi,hj,_⟩:=m.par A z x [] rfl hA
     have hvx:V x=false:=by
      rcases hxr with h|h
      ·rw[h]; exact h0
      ·simpa using h
     have aix:at_ g i x=true:=by rw[p.jat hi hj]; simp [Ne.symm (p.jne hi hj)]
     have aiz:at_ g i z=true:=by rw[p.jat hi hj]; simp [p.jne hi hj]
     rw[← ih x hx hvx i hi aix]
     exact P.same z (hV.fresh hvz) e he i hi ha aiz
structure Deep (g:Gr) (Bl:List Nat) (H V:Nat→Bool) (x0:Nat) (F:List (Nat×Nat)):Prop where
 met:Met g Bl H (λv=>!(V v)) x0 F
 shut:∀ z∈ks F,V z=false→∀ i∈Bl,at_ g i z=true→g.oth i z∈ks F
theorem deep_full (p:Pln g Bl) (hV:Plc g Bl H V) {x0 f:Nat} (h0:V x0=false) (hx:x0<g.n) (hf:g.n≤f):Deep g Bl H V x0 (full g Bl H (λv=>!(V v)) f ([(x0,x0)],[x0])):=by
 have hs:=full_srch (g:=g) (Bl:=Bl) (laid:=H) (thr:=λv=>!(V v)) (r:=x0) p.lt hx f Srch.start (by show g.n-1+1≤f; omega)
 refine⟨hs.met,λz hz hv i hi ha=>?_⟩
 rcases hs.done z hz (.inr (by simp [hv])) with h1|⟨_,h1⟩|h1
 ·simp at h1
 ·cases h1
 ·exact h1 i hi ha (hV.fresh hv i hi ha)
theorem yx {x0:Nat}{F:List (Nat×Nat)} (d:Deep g Bl H V x0 F) (h0:V x0=false) {z:Nat} (hz:z∈ks F) (hv:V z=true):z∈ks F.tail:=by
 obtain⟨T,hT⟩:=d.met.root
 rw[hT] at hz ⊢
 simp only[ks,bA,au,ol] at hz ⊢
 rcases hz with h|h
 ·rw[h,h0] at hv; cases hv
 ·exact h
theorem first_end (p:Pln g Bl) (hl:Link g Bl) (hV:Plc g Bl H V) {x0:Nat}{F:List (Nat×Nat)} (d:Deep g Bl H V x0 F) (h0:V x0=false) {e0:Nat} (he0:e0∈Bl) (ha0:at_ g e0 x0=true) (hex:∃ j∈Bl,H j=true) {o:Option Nat} (h:Hit F V o):∃ y,o=some y∧y∈ks F∧V y=true:=by
 cases o with
 | some y =>
   obtain⟨A,x,C,h1,_,_,h2⟩:=h
   exact⟨y,rfl,by rw[h1]; simp [ks],h2⟩
 | none =>
   exfalso
   have h:∀ z∈ks F.tail,V z=false:=h
   have hall:∀ z∈ks F,V z=false:=λz hz=>by
    cases hv:V z
    ·rfl
    ·rw[← hv]; exact h z (yx d h0 hz hv)
   obtain⟨j,hj,hjH⟩:=hex
   have key:=hl (λe=>decide (g.tl e∈ks F)) (λv e k he hk hev hkv=>by
    have one:∀ e∈Bl,at_ g e v=true→(g.tl e∈ks F↔v∈ks F):=λe he ha=>by
     have hinc:=(at_inc (p.lt e he)).1 ha
     rcases hinc.2 with h1|h1
     ·rw[h1]
     ·have ot:g.oth e (g.tl e)=v:=by unfold Gr.oth; omega
      have oh:g.oth e v=g.tl e:=by unfold Gr.oth; omega
      constructor
      ·intro hz
       have:=d.shut _ hz (hall _ hz) e he ((at_inc (p.lt e he)).2 ⟨p.lt e he,.inl rfl⟩)
       rwa [ot] at this
      ·intro hz
       have:=d.shut _ hz (hall _ hz) e he ha
       rwa [oh] at this
    rw[decide_eq_decide,one e he hev,one k hk hkv]) e0 he0 j hj
   obtain⟨T,hT⟩:=d.met.root
   have hr:x0∈ks F:=by rw[hT]; simp [ks]
   have h1:g.tl e0∈ks F:=by
    have hinc:=(at_inc (p.lt e0 he0)).1 ha0
    rcases hinc.2 with h1|h1
    ·rw[h1]; exact hr
    ·have oh:g.oth e0 x0=g.tl e0:=by unfold Gr.oth; omega
     have:=d.shut _ hr h0 e0 he0 ha0
     rwa [oh] at this
   have h2:g.tl j∈ks F:=by
    have:decide (g.tl e0∈ks F)=decide (g.tl j∈ks F):=key
    rw[aL h1] at this
    exact dV this.symm
   have:=hall _ h2
   rw[(hV _).2 ⟨j,hj,(at_inc (p.lt j hj)).2 ⟨p.lt j hj,.inl rfl⟩,hjH⟩] at this
   cases this
theorem second_end (p:Pln g Bl) (hb:Bond g Bl) (hV:Plc g Bl H V) {x0:Nat}{F:List (Nat×Nat)} (d:Deep g Bl H V x0 F) (h0:V x0=false) {y1:Nat} (hy1:y1∈ks F) (hvy:V y1=true) {o:Option Nat} (h:Hit F (λy=>V y&&!(decide (y=y1))) o):∃ y,o=some y∧y∈ks F∧V y=true∧y≠y1:=by
 cases o with
 | some y =>
   obtain⟨A,x,C,h1,_,_,h2⟩:=h
   simp only[aM,da,aV] at h2
   exact⟨y,rfl,by rw[h1]; simp [ks],h2.1,h2.2⟩
 | none =>
   exfalso
   have h:∀ z∈ks F.tail,(V z&&!(decide (z=y1)))=false:=h
   have hall:∀ z∈ks F,V z=true→z=y1:=λz hz hv=>by
    have:=h z (yx d h0 hz hv)
    rw[hv] at this
    simpa using this
   obtain⟨K,hK⟩:∃ K:Nat→Bool,∀ z,K z=true↔z∈ks F∧V z=false:=⟨λz=>decide (z∈ks F∧V z=false),λz=>by simp⟩
   have hcut:∀ e∈Bl,(K (g.tl e) ^^ K (g.hd e))=((K (g.tl e)||K (g.hd e))&&at_ g e y1):=by
    intro e he
    have hok:=g.ok e (p.lt e he)
    have ky:K y1=false:=by
     cases hk:K y1
     ·rfl
     ·rw[((hK _).1 hk).2] at hvy; cases hvy
    have it:=(at_inc (p.lt e he)).2 (⟨p.lt e he,.inl rfl⟩:g.inc e (g.tl e))
    have ih:=(at_inc (p.lt e he)).2 (⟨p.lt e he,.inr rfl⟩:g.inc e (g.hd e))
    have ot:g.oth e (g.tl e)=g.hd e:=by unfold Gr.oth; omega
    have oh:g.oth e (g.hd e)=g.tl e:=by unfold Gr.oth; omega
    have next:∀ a b,K a=true→at_ g e a=true→g.oth e a=b→K b=true∨b=y1:=λa b ha hat hab=>by
     have:=d.shut a ((hK _).1 ha).1 ((hK _).1 ha).2 e he hat
     rw[hab] at this
     cases hvb:V b
     ·exact .inl ((hK _).2 ⟨this,hvb⟩)
     ·exact .inr (hall b this hvb)
    have hat:at_ g e y1=((g.tl e==y1) ^^ (g.hd e==y1)):=rfl
    cases h1:K (g.tl e)
    ·cases h2:K (g.hd e)
     ·rfl
     ·rcases next _ _ h2 ih oh with h3|h3
      ·rw[h1] at h3; cases h3
      ·have:g.hd e≠y1:=λq=>by rw[q,ky] at h2; cases h2
       rw[hat,beq_iff_eq.2 h3,beq_eq_false_iff_ne.2 this]; rfl
    ·have t1:g.tl e≠y1:=λq=>by rw[q,ky] at h1; cases h1
     cases h2:K (g.hd e)
     ·rcases next _ _ h1 it ot with h3|h3
      ·rw[h2] at h3; cases h3
      ·rw[hat,beq_iff_eq.2 h3,beq_eq_false_iff_ne.2 t1]; rfl
     ·have t2:g.hd e≠y1:=λq=>by rw[q,ky] at h2; cases h2
      rw[hat,beq_eq_false_iff_ne.2 t1,beq_eq_false_iff_ne.2 t2]; rfl
   obtain⟨q,hq,hqy⟩:=bu.1 hy1
   obtain⟨A,C,hF⟩:=bL hq
   have hA:A≠[]:=by
    intro hA; subst hA
    obtain⟨T,hT⟩:=d.met.root
    rw[hT,bj] at hF
    injection hF with h1 _
    rw[← h1] at hqy
    have:x0=y1:=hqy
    rw[this,hvy] at h0; cases h0
   have hq':q=(y1,q.2):=by rw[← hqy]
   rw[hq'] at hF
   obtain⟨hx,hxr,i,hi,hj,_⟩:=d.met.par A y1 q.2 C hF hA
   have hvx:V q.2=false:=by
    rcases hxr with h|h
    ·rw[h]; exact h0
    ·simpa using h
   have kx:K q.2=true:=(hK _).2 ⟨by rw[hF,ks_app]; exact aZ _ hx,hvx⟩
   have iy:at_ g i y1=true:=by rw[p.jat hi hj]; simp [p.jne hi hj]
   have Yi:(K (g.tl i)||K (g.hd i))=true:=by
    rcases jn_iff.1 hj with ⟨a,b⟩|⟨a,b⟩
    ·rw[a,kx]; rfl
    ·rw[b,kx]; simp
   obtain⟨j,hj',hja,hjH⟩:=(hV y1).1 hvy
   have Yj:(K (g.tl j)||K (g.hd j))=false:=by
    have t1:K (g.tl j)=false:=by
     cases hk:K (g.tl j)
     ·rfl
     ·have:=hV.fresh ((hK _).1 hk).2 j hj' ((at_inc (p.lt j hj')).2 ⟨p.lt j hj',.inl rfl⟩)
      rw[hjH] at this; cases this
    have t2:K (g.hd j)=false:=by
     cases hk:K (g.hd j)
     ·rfl
     ·have:=hV.fresh ((hK _).1 hk).2 j hj' ((at_inc (p.lt j hj')).2 ⟨p.lt j hj',.inr rfl⟩)
      rw[hjH] at this; cases this
    rw[t1,t2]; rfl
   have:=mN p.nd hb (Y:=λe=>K (g.tl e)||K (g.hd e)) (v:=y1) (λX hX=>by
    rw[← yz p hX K]
    exact par_congr λe he=>by rw[hcut e he]) hi hj' iy hja
   rw[Yi,Yj] at this
   cases this
theorem mid_way (p:Pln g Bl) (hV:Plc g Bl H V) {x0:Nat}{F:List (Nat×Nat)} (d:Deep g Bl H V x0 F) (h0:V x0=false) {y1 y2:Nat} (h1:y1∈ks F) (h2:y2∈ks F) (v1:V y1=true) (v2:V y2=true) (hne:y2≠y1) {c a b:List Nat}{v:Nat} (e1:tr F y1=c++v::a) (e2:tr F y2=c++v::b) (hd:∀ z a' b',a=z::a'→b=z::b'→False) :
 ∃ i,a.reverse++v::b=y1::i++[y2]∧(y1::i++[y2]).Nodup∧Ch g Bl (y1::i++[y2])∧i≠[]∧∀ z∈i,z∈ks F∧V z=false:=by
 obtain⟨t1,q1,q2,q3,q4,q5⟩:=tr_ok F.length (ae _) d.met y1 h1
 obtain⟨t2,r1,r2,r3,r4,r5⟩:=tr_ok F.length (ae _) d.met y2 h2
 have in1:∀ z∈tr F y1,V z=true→z=y1:=λz hz hv=>by
  rw[q1] at hz
  rcases (q5 z hz).2 with h|h|h
  ·rw[h,h0] at hv; cases hv
  ·rw[hv] at h; cases h
  ·exact h
 have in2:∀ z∈tr F y2,V z=true→z=y2:=λz hz hv=>by
  rw[r1] at hz
  rcases (r5 z hz).2 with h|h|h
  ·rw[h,h0] at hv; cases hv
  ·rw[hv] at h; cases h
  ·exact h
 have hfork:=fork d.met h1 h2 e1 e2 hd
 have vv:V v=false:=by
  cases h:V v
  ·rfl
  ·have a1:=in1 v (by rw[e1]; simp) h
   have a2:=in2 v (by rw[e2]; simp) h
   exact absurd (a2.symm.trans a1) hne
 obtain⟨s1,l1⟩:=lst_cat (r:=x0) (t:=t1)
 obtain⟨s2,l2⟩:=lst_cat (r:=x0) (t:=t2)
 rw[← q1,q2,e1] at l1
 rw[← r1,r2,e2] at l2
 have last:∀ {a:List Nat}{y:Nat}{s:List Nat},c++v::a=s++[y]→V y=true→∃ a',a=a'++[y]:=fun {a y s} h hv=>by
  rcases cJ a with rfl|⟨a',w,rfl⟩
  ·have h':c++[v]=s++[y]:=h
   obtain⟨_,h3⟩:=dH h' rfl
   injection h3 with h3
   rw[h3,hv] at vv; cases vv
  ·rw[dj] at h ⊢
   have h':(c++v::a')++[w]=s++[y]:=by rw[← h]; simp
   obtain⟨_,h3⟩:=dH h' rfl
   injection h3 with h3
   exact⟨a',by rw[h3]⟩
 obtain⟨a',rfl⟩:=last l1 v1
 obtain⟨b',rfl⟩:=last l2 v2
 have n1:(c++v::(a'++[y1])).Nodup:=by rw[← e1,q1]; exact q3
 have n2:(c++v::(b'++[y2])).Nodup:=by rw[← e2,r1]; exact r3
 have hmono:∀ (s:List Nat),Ch g (Bl.filter λi=>!(H i)) s→Ch g Bl s:=by
  intro s
  induction s with
  | nil=>exact λh=>h
  | cons a s ih =>
    cases s with
    | nil=>exact λh=>h
    | cons b s =>
      rintro⟨⟨e,he,hj⟩,h2⟩
      exact⟨⟨e,(aS.1 he).1,hj⟩,ih h2⟩
 have c1:Ch g Bl (v::(a'++[y1])):=by
  have:Ch g Bl (c++v::(a'++[y1])):=by rw[← e1,q1]; exact hmono _ q4
  exact (gI.1 this).2
 have c2:Ch g Bl (v::(b'++[y2])):=by
  have:Ch g Bl (c++v::(b'++[y2])):=by rw[← e2,r1]; exact hmono _ r4
  exact (gI.1 this).2
 rw[aN] at n1 n2
 refine⟨a'.reverse++v::b',by simp,?_,?_,by simp,λz hz=>?_⟩
 ·rw[show y1::(a'.reverse++v::b')++[y2]=(a'++[y1]).reverse++v::(b'++[y2]) by simp]
  rw[aN]
  refine⟨(pi _).nodup_iff.2 (aW.1 n1.2.1).2,n2.2.1,λz hz w hw=>?_⟩
  intro h; subst h
  have hz:z∈a'++[y1]:=List.mem_reverse.1 hz
  rcases au.1 hw with rfl|hw
  ·exact (aW.1 n1.2.1).1 hz
  ·exact hfork z hz hw
 ·rw[show y1::(a'.reverse++v::b')++[y2]=(a'++[y1]).reverse++v::(b'++[y2]) by simp,gI]
  refine⟨?_,c2⟩
  rw[show (a'++[y1]).reverse++[v]=(v::(a'++[y1])).reverse by simp,wC]
  exact c1
 ·have key:z∈tr F y1∧z≠y1∨z∈tr F y2∧z≠y2:=by
   rcases aC.1 hz with h|h
   ·refine .inl ⟨by rw[e1]; simp; right; right; left; simpa using h,λe=>?_⟩
    have:=(aW.1 n1.2.1).2
    rw[aN] at this
    exact this.2.2 z (by simpa using h) y1 (by simp) e
   ·rcases au.1 h with rfl|h
    ·exact .inl ⟨by rw[e1]; simp,λe=>by rw[e,v1] at vv; cases vv⟩
    ·refine .inr ⟨by rw[e2]; simp; right; right; left; exact h,λe=>?_⟩
     have:=(aW.1 n2.2.1).2
     rw[aN] at this
     exact this.2.2 z h y2 (by simp) e
  rcases key with ⟨k1,k2⟩|⟨k1,k2⟩
  ·refine⟨tr_in d.met h1 k1,?_⟩
   cases hv:V z
   ·rfl
   ·exact absurd (in1 z k1 hv) k2
  ·refine⟨tr_in d.met h2 k1,?_⟩
   cases hv:V z
   ·rfl
   ·exact absurd (in2 z k1 hv) k2
end Go.Pla
