/- arborref13.Parts. -/
import Derived.Test.YtahepnbflofndaaGreatDoorJNh
import Derived.Test.YtahepnbflofndaaGreatDoorJRbs
import Derived.Test.YtahepnbflofndaaGreatDoorJNb
set_option linter.all false
namespace Go.Proofs.YtahepnbflofndaaGreatDoor
open Go.Am
open Go.Blk (Gr Lst canon)
theorem kG {n:Nat}{E:List (Int×Int)} (hE:InG n E) {i:Nat} (hi:i<E.length):edM E ((i:Nat):Int)=(((tlE E i:Nat):Int),((hdE E i:Nat):Int)):=by
 rw[Dt rfl hi]
 exact (hE i hi).1
theorem wg {n:Nat}{E:List (Int×Int)} (hE:InG n E) {b:List Nat} (hb:∀ i∈b,i<E.length) (x:Nat):(b.any λi=>decide (tlE E i=x)||decide (hdE E i=x))=decide (((x:Nat):Int)∈fB E (nI b)):=by
 rw[dg,Eg,aj]
 unfold fB nI
 rw[dH]
 constructor
 ·rintro⟨i,h1,h2⟩
  refine⟨_,bJ.2 ⟨i,h1,rfl⟩,?_⟩
  rw[kG hE (hb i h1)]
  simp only[dy,aj] at h2
  simp only[aC,bj,or_false]
  omega
 ·rintro⟨j,h1,h2⟩
  obtain⟨i,h3,rfl⟩:=bJ.1 h1
  rw[kG hE (hb i h3)] at h2
  simp only[aC,bj,or_false] at h2
  refine⟨i,h3,?_⟩
  simp only[dy,aj]
  omega
theorem nR:∀ (l:List Int) (v:Int) (k:Nat),l.Pairwise (·<·)→v∈l→dK (v==·) l k=((k+l.countP (λu=>decide (u<v)):Nat):Int)
 | [],v,k,_,h=>by cases h
 | a::l,v,k,hp,h=>by
   obtain⟨p1,p2⟩:=cG.1 hp
   show (if (v==a)=true then ((k:Nat):Int) else dK (v==·) l (k+1))=_
   by_cases e:v=a
   ·subst e
    have:(v::l).countP (λu=>decide (u<v))=0:=by
     rw[lY]
     intro u hu
     rcases aC.1 hu with rfl|hu
     ·simp
     ·have:=p1 u hu
      simp only[aj]; omega
    rw[if_pos (by simp),this]
    rfl
   ·have hm:v∈l:=by
     rcases aC.1 h with q|q
     ·exact absurd q e
     ·exact q
    have:=p1 v hm
    rw[if_neg (by rw[beq_iff_eq]; exact e),nR l v (k+1) p2 hm,eQ (by simp only[aj]; omega)]
    congr 1
    omega
theorem sR (n:Nat) (E:List (Int×Int)) (es:List Int):(vsM n E es).length≤n:=by
 unfold vsM
 have:=da (λv=>decide (v∈fB E es)) (oN n)
 rwa [ui] at this
theorem yH {n:Nat}{E:List (Int×Int)} (hE:InG n E) {b:List Nat} (hb:∀ i∈b,i<E.length) {i:Nat} (hi:i∈b):((tlE E i:Nat):Int)∈vsM n E (nI b)∧((hdE E i:Nat):Int)∈vsM n E (nI b):=by
 have hil:=hb i hi
 obtain⟨_,q2,q3⟩:=hE i hil
 unfold vsM
 rw[bH,bH,lz,lz,aj,aj]
 have key:∀ x:Int,x∈[((tlE E i:Nat):Int),((hdE E i:Nat):Int)]→x∈fB E (nI b):=λx hx=>by
  unfold fB nI
  rw[dH]
  exact⟨_,bJ.2 ⟨i,hi,rfl⟩,by rw[kG hE hil]; exact hx⟩
 exact⟨⟨om,key _ (by simp)⟩,om,key _ (by simp)⟩
theorem LL.at2 {h:AH}{lo:Nat}{a:AV}{xss:List (List Nat)} (hl:LL h lo a xss) {i:Nat} (hi:i<xss.length):∃ b o v,jf 1 a (.int .i64 (i:Nat))=some (.ptr b o)∧ar h b o 1=some [v]∧IsSl h 1 lo v (nC xss[i])∧b<h.next∧lo≤b:=by
 obtain⟨b,o,v,q1,q2,q3,q4⟩:=hl.at hi
 refine⟨b,o,v,q1,q2,q3,q4,?_⟩
 obtain⟨vs,h1,h2,h3⟩:=hl
 rcases h1 with ⟨rfl,_⟩|⟨b',n,hb,rfl,_⟩
 ·cases q1
 ·rw[pY] at q1
  obtain⟨j,_,e⟩:=aA.1 q1
  cases e
  exact hb
set_option maxHeartbeats 4000000 in
theorem zz {h:AH}{n:Nat}{ev:AV}{E:List (Int×Int)} (he:SlE h ev E) (hE:InG n E) (hL:∀ i,i<E.length→tlE E i≠hdE E i) (hxl:E.length≤128) (hnl:n≤64) :
 C prg 21 [.agg (gW n ev)] h λr h'=>Ext h.next h h'∧∃ l,Lst (grE n E hE hL) l∧PL h' h.next r ((canon E.length l).map (mT n E)):=by
 obtain⟨ec,eo⟩:=he.cells
 have hB:∀ {h':AH},SlE h' ev E→_:=fun {h'} q=>wN (n:=n) q hE hL om om
 have hAt:∀ {h':AH}{bv:AV}{b:List Nat}{x:Nat},SlE h' ev E→SlN h' bv b→(∀ i∈b,i<E.length)→b.length<2 ^ 40→_:=fun {h' bv b x} q1 q2 q3 q4=>Fc (n:=n) (x:=x) q1 q2 hE q3 q4
 unfold gW at hB hAt ⊢
 refine HH pf21 ?_
 refine ab (ah (Mi0) ?_)
 have x0:Ext h.next h (h.new (.cells [.int .i64 (n:Nat),ev] 2 false)):=HD (ae _)
 have g0:(h.new (.cells [.int .i64 (n:Nat),ev] 2 false)).get h.next=some (.cells [.int .i64 (n:Nat),ev] 2 false):=by rw[AH.get_new,if_pos rfl]
 have n0:(h.new (.cells [.int .i64 (n:Nat),ev] 2 false)).next=h.next+1:=rfl
 generalize (h.new (.cells [.int .i64 (n:Nat),ev] 2 false))=h1 at *
 have x2:Ext h1.next h1 (h1.new (.cells [] 4 false)):=HD (ae _)
 have g2:(h1.new (.cells [] 4 false)).get h1.next=some (.cells [] 4 false):=by rw[AH.get_new,if_pos rfl]
 have n2:(h1.new (.cells [] 4 false)).next=h1.next+1:=rfl
 refine ab (ah (Mi0) ?_)
 generalize (h1.new (.cells [] 4 false))=h2 at *
 have X2:Ext h.next h h2:=x0.trans (x2.mono om)
 have gA2:h2.get h.next=some (.cells [.int .i64 (n:Nat),ev] 2 false):=by rw[x2.gt _ om]; exact g0
 have rA2:ar h2 h.next 0 2=some [.int .i64 (n:Nat),ev]:=by rw[aS gA2]; rfl
 refine ab (aX (aP 1 (Mi1 rA2) rfl (Zi1 rA2) (Mi1 rA2) (hB (he.ext X2 (ae _))) λbv h3 hq=>?_))
 obtain⟨l,hlst,x3,hLL⟩:=hq
 refine aW (M0) ?_
 have hBm:=λb hb=>jZ (m:=E.length) (l:=l) (b:=b) hb
 have hBlen:=nV (m:=E.length) (l:=l)
 have bl3:=hLL.len
 generalize hBc:canon E.length l=B at *
 have X3:Ext h.next h h3:=X2.trans (x3.mono om)
 have n3:=x3.nx
 have gA3:h3.get h.next=some (.cells [.int .i64 (n:Nat),ev] 2 false):=by rw[x3.gt _ om]; exact gA2
 have g3:h3.get h1.next=some (.cells [] 4 false):=by rw[x3.gt _ om]; exact g2
 refine ab (ab (ah (M0) ?_))
 refine eg (α:=AV) (N:=B.length) (λk a=>[(1,.ptr h.next 0),(3,a),(4,bv),(5,.int .i64 (k:Nat))])
  (λk a h'=>Ext h1.next h3 h'∧(∀ c,c<h3.next→c≠h1.next→h'.get c=h3.get c)∧PL h' h1.next a ((B.take k).map (mT n E))∧∀ b o m c,a=.sl b o m c→b=h1.next∨h3.next≤b) (.sl h1.next 0 0 0) (Hi1 @bm)
  ⟨HE,λ_ _ _=>rfl,⟨[],.inr ⟨h1.next,0,ae _,rfl,g3,rfl⟩,rfl,λi x p e=>by simp at e⟩,λb o m c e=>by cases e; exact .inl rfl⟩ ?_ ?_ ?_
 ·rintro k a ts h4 hk ⟨jx,jk,ja,jb⟩ ⟨e1,e3,e4,e5,-⟩
  simp only at e1 e3 e4 e5
  exact⟨_,(M4 e4 e5 bl3 @bi),Z0,H4 e1 e3 e4 e5⟩
 ·rintro k a ts h4 hk ⟨jx,jk,ja,jb⟩ ⟨e1,e3,e4,e5,-⟩
  simp only at e1 e3 e4 e5
  have w5:=eF (k:=k) om
  have n4:=jx.nx
  obtain⟨k1,k2,k3,_⟩:=hBm _ (bq hk)
  obtain⟨b1,p1,rv,a1,r1,i1,lb1,lo1⟩:=hLL.at2 hk
  generalize hbk:B[k]=bk at *
  have kk:∀ {h':AH}{c:Nat},Ext h4.next h4 h'→c<h3.next→c≠h1.next→h'.get c=h3.get c:=fun {h' c} q hc hne=>by rw[q.gt _ om]; exact jk c hc hne
  have rrow:∀ {h':AH},Ext h4.next h4 h'→ar h' b1 p1 1=some [rv]:=fun {h'} q=>by rw[cy (kk q lb1 om)]; exact r1
  have srow:∀ {h':AH},Ext h4.next h4 h'→IsSl h' 1 h2.next rv (nC bk):=fun {h'} q=>i1.cong λb m e hb=>kk q (i1.lt e) om
  have Xe:∀ {h':AH},Ext h4.next h4 h'→Ext h.next h h':=fun {h'} q=>X3.trans ((jx.mono om).trans (q.mono om))
  have gA:∀ {h':AH},Ext h4.next h4 h'→h'.get h.next=some (.cells [.int .i64 (n:Nat),ev] 2 false):=fun {h'} q=>by rw[kk q om om]; exact gA3
  obtain⟨rc,ro⟩:=i1.cells
  obtain⟨h5,w5',x5,g5,n5⟩:=ij (h:=h4) (z:=[.int .i64 0,.nils,.nils,.nils]) (cs:=[.int .i64 0,.nils,.nils,rv]) (e:=4) rfl
  refine ab (ah (by simp only[am,aD,simprocAttr,e4,e5,a1,rrow HE,rc,ro,eD,w5']<;>rfl) ?_)
  have bkl:bk.length≤128:=bS k3 hxl
  have hNI:∀ {h':AH},Ext h4.next h4 h'→SlN h' rv bk:=fun {h'} q=>nC_sl (srow q)
  have hrvlt:∀ b o m c,rv=.sl b o m c→b<h3.next:=λb o m c e=>i1.lt e
  refine ab (ab (ah (M0) ?_))
  refine eg (α:=AV) (N:=n) (λx a2=>[(1,.ptr h.next 0),(3,a),(4,bv),(5,.int .i64 (k:Nat)),(6,.ptr h4.next 0),(7,.int .i64 (x:Nat))])
   (λx a2 h'=>Ext h4.next h4 h'∧h4.next+1≤h'.next∧h'.get h4.next=some (.cells [.int .i64 0,.nils,a2,rv] 4 false)∧IsSl h' 1 (h4.next+1) a2 ((vsM x E (nI bk)).flatMap eI)) .nils (H5 e1 e3 e4 e5 @bm)
   ⟨x5,om,g5,.inl ⟨rfl,rfl⟩⟩ ?_ ?_ ?_
  ·clear e1 e3 e4 e5
   rintro x a2 ts h6 hx ⟨kx,kn,kg,ka⟩ ⟨e1,e3,e4,e5,e6,e7,-⟩
   simp only at e1 e3 e4 e5 e6 e7
   have rN:ar h6 h.next 0 1=some [.int .i64 (n:Nat)]:=bB (gA kx) rfl
   exact⟨_,(M4 e1 e7 rN @bi),Z0,H6 e1 e3 e4 e5 e6 e7⟩
  ·clear e1 e3 e4 e5
   rintro x a2 ts h6 hx ⟨kx,kn,kg,ka⟩ ⟨e1,e3,e4,e5,e6,e7,-⟩
   simp only at e1 e3 e4 e5 e6 e7 kg ka
   have w7:=eF (k:=x) om
   have rA6:ar h6 h.next 0 2=some [.int .i64 (n:Nat),ev]:=by rw[aS (gA kx)]; rfl
   refine ab (aX (aP 6 (M7 e1 e4 e5 e7 rA6 a1 (rrow kx)) rfl (Z7 e1 e4 e5 e7 rA6 a1 (rrow kx)) (M7 e1 e4 e5 e7 rA6 a1 (rrow kx)) (hAt (x:=x) (he.ext (Xe kx) (ae _)) (hNI kx) k2 om) λr h7 hq=>?_))
   obtain⟨rfl,x7⟩:=hq
   rw[wg hE k2]
   refine aW (M0) ?_
   have kx7:Ext h4.next h4 h7:=kx.trans (x7.mono om)
   have n7:=x7.nx
   have kg7:h7.get h4.next=some (.cells [.int .i64 0,.nils,a2,rv] 4 false):=by rw[x7.gt _ om]; exact kg
   have ka7:=ka.ext x7 (ae _)
   refine bg (t:=decide (((x:Nat):Int)∈fB E (nI bk))) (Z0) (λq=>?_) λq=>?_
   ·have q:((x:Nat):Int)∈fB E (nI bk):=aF q
    have hvl:=sR x E (nI bk)
    have hlk:((vsM x E (nI bk)).flatMap eI).length=(vsM x E (nI bk)).length:=by rw[dS (f:=eI) (e:=1) (λ_=>rfl),ai]
    obtain⟨a3,h8,q8,i8,x8,n8⟩:=ka7.push (bytes:=8) [.int .i64 (x:Nat)] om om rfl rfl (by rw[hlk,fi]; unfold bd; omega) (by rw[hlk,fi]; unfold bd; omega)
    have rn7:ar h7 h4.next 2 1=some [a2]:=bB kg7 rfl
    have kg8:h8.get h4.next=some (.cells [.int .i64 0,.nils,a2,rv] 4 false):=by rw[x8.gt _ om]; exact kg7
    have w8:=dW (v:=a3) kg8 (i:=2) (by simp)
    change bV h8 h4.next 2 [a3]=some (h8.put h4.next (.cells [.int .i64 0,.nils,a3,rv] 4 false)) at w8
    have u8:=HF (o:=.cells [.int .i64 0,.nils,a3,rv] 4 false) kg8
    obtain⟨ac,ao⟩:=i8.cells
    refine ah (M7 e6 e7 rn7 q8 ac ao w8) ?_
    refine⟨a3,⟨kx7.trans ((x8.mono om).trans (u8.ext (ae _))),by rw[u8.nx]; omega,u8.get,?_⟩,_,(M2 e7 w7),H5 e1 e3 e4 e5 e6⟩
    rw[xZ,if_pos q,bQ]
    exact i8.upd u8 om
   ·have q:¬ ((x:Nat):Int)∈fB E (nI bk):=aE q
    refine aN ⟨a2,⟨kx7,om,kg7,?_⟩,_,(M2 e7 w7),H5 e1 e3 e4 e5 e6⟩
    rw[xZ,if_neg q,bU]
    exact ka7
  clear e1 e3 e4 e5
  rintro nm ts h6 ⟨kx,kn,kg,ka⟩ ⟨e1,e3,e4,e5,e6,e7,-⟩
  simp only at e1 e3 e4 e5 e6 kg ka
  have snm:SlI h6 nm (vsM n E (nI bk)):=HB om (λ_=>rfl) ka
  have lnm:=snm.len
  rw[au] at lnm
  have rn6:ar h6 h4.next 2 1=some [nm]:=bB kg rfl
  have w6:=dW (v:=.int .i64 ((vsM n E (nI bk)).length:Nat)) kg (i:=0) (by simp)
  change bV h6 h4.next 0 [.int .i64 ((vsM n E (nI bk)).length:Nat)]=some (h6.put h4.next (.cells [.int .i64 ((vsM n E (nI bk)).length:Nat),.nils,nm,rv] 4 false)) at w6
  have u6:=HF (o:=.cells [.int .i64 ((vsM n E (nI bk)).length:Nat),.nils,nm,rv] 4 false) kg
  refine ab (ah (M4 e6 rn6 lnm w6) ?_)
  generalize h6.put h4.next (.cells [.int .i64 ((vsM n E (nI bk)).length:Nat),.nils,nm,rv] 4 false)=h7 at *
  have kx7:Ext h4.next h4 h7:=kx.trans (u6.ext (ae _))
  have n7:=u6.nx
  have ka7:=ka.upd u6 om
  have nmb:∀ b o m c,nm=.sl b o m c→h4.next+1≤b∧b<h7.next:=λb o m c e=>by
   refine⟨?_,ka7.lt e⟩
   rcases ka with ⟨rfl,_⟩|⟨b',m',hb',rfl,_⟩
   ·cases e
   ·cases e; exact hb'
  have snm7:SlI h7 nm (vsM n E (nI bk)):=HB om (λ_=>rfl) ka7
  have same_nm:nm.same nm=true:=by rcases ka with ⟨rfl,_⟩|⟨_,_,_,rfl,_⟩<;>first|rfl|exact mR
  have hvl:=sR n E (nI bk)
  have hrise:=qT n E (nI bk)
  have g7:=u6.get
  refine ab ?_
  refine ab (ah (M0) ?_)
  refine eg (α:=AV) (N:=bk.length) (λi a3=>[(1,.ptr h.next 0),(3,a),(4,bv),(5,.int .i64 (k:Nat)),(6,.ptr h4.next 0),(8,.int .i64 (i:Nat))])
   (λi a3 h'=>Ext h4.next h4 h'∧h7.next≤h'.next∧(∀ c,c<h7.next→c≠h4.next→h'.get c=h7.get c)∧h'.get h4.next=some (.cells [.int .i64 ((vsM n E (nI bk)).length:Nat),a3,nm,rv] 4 false)∧IsSl h' 2 h7.next a3 ((((nI bk).take i).map λi=>(((dE n E (nI bk) (edM E i).1:Nat):Int),((dE n E (nI bk) (edM E i).2:Nat):Int))).flatMap eE)) .nils (H6 e1 e3 e4 e5 e6 @bm)
   ⟨kx7,ae _,λ_ _ _=>rfl,g7,.inl ⟨rfl,by simp⟩⟩ ?_ ?_ ?_
  ·clear e1 e3 e4 e5 e6 e7
   rintro i a3 ts h8 hi ⟨jx8,jn8,jk8,jg8,ja8⟩ ⟨e1,e3,e4,e5,e6,e8,-⟩
   simp only at e1 e3 e4 e5 e6 e8
   have lrv:=(hNI jx8).len
   rw[au,au] at lrv
   exact⟨_,(M7 e4 e5 e8 a1 (rrow jx8) lrv @bi),Z0,H6 e1 e3 e4 e5 e6 e8⟩
  ·clear e1 e3 e4 e5 e6 e7
   rintro i a3 ts h8 hi ⟨jx8,jn8,jk8,jg8,ja8⟩ ⟨e1,e3,e4,e5,e6,e8,-⟩
   simp only at e1 e3 e4 e5 e6 e8 jg8 ja8
   have w8:=eF (k:=i) om
   have him:=k2 _ (bq hi)
   have hin:=yH hE k2 (bq hi)
   obtain⟨q1,q2,q3⟩:=hE _ him
   have rE8:ar h8 h.next 1 1=some [ev]:=bB (gA jx8) rfl
   obtain⟨b2,p2,a2,r2,_⟩:=(hNI jx8).at1 (i:=i) (y:=.int .i64 (bk[i]:Nat)) (by rw[be,be,aw hi]; rfl)
   obtain⟨b3,p3,a3',r3,_⟩:=(he.ext (Xe jx8) (ae _)).at (cF (f:=eE) him)
   rw[q1] at r3
   have hst:=uk (n:=n) (E:=E) (F:=nI bk) (es:=nI bk) (k:=i) (by rw[eZ]; exact hi)
   rw[show (nI bk)[i]'(by rw[eZ]; exact hi)=((bk[i]:Nat):Int) by simp [nI],kG hE him] at hst
   generalize bk[i]=e at *
   obtain⟨h9,w9,x9,g9,n9⟩:=ij (h:=h8) (z:=[.int .i64 0,.int .i64 0]) (cs:=[.int .i64 (tlE E e:Nat),.int .i64 (hdE E e:Nat)]) (e:=2) rfl
   refine ab (ah (by simp only[am,aD,simprocAttr,e1,e4,e5,e8,rE8,a1,rrow jx8,a2,r2,a3',r3,eE,w9]<;>rfl) ?_)
   have jx9:Ext h4.next h4 h9:=jx8.trans (x9.mono jx8.nx)
   have g9p:h9.get h4.next=some (.cells [.int .i64 ((vsM n E (nI bk)).length:Nat),a3,nm,rv] 4 false):=by rw[x9.gt _ om]; exact jg8
   have jk9:∀ c,c<h7.next→c≠h4.next→h9.get c=h7.get c:=λc hc hne=>by rw[x9.gt _ om]; exact jk8 c hc hne
   have ja9:=ja8.ext x9 (ae _)
   have kg9:∀ c,c<h9.next→(h9.keep 1).get c=h9.get c:=λc hc=>by rw[AH.keep_get,if_neg om]
   have kq9:(h9.keep 1).get h9.next=some .resv:=fX
   have c9:(h9.keep 1).get h4.next=some (.cells [.int .i64 ((vsM n E (nI bk)).length:Nat),a3,nm,rv] 4 false):=by rw[kg9 _ om]; exact g9p
   have d9:(h9.keep 1).get h8.next=some (.cells [.int .i64 (tlE E e:Nat),.int .i64 (hdE E e:Nat)] 2 false):=by rw[kg9 _ om]; exact g9
   have s1:ar (h9.keep 1) h4.next 1 1=some [a3]:=bB c9 rfl
   have s2:ar (h9.keep 1) h4.next 2 1=some [nm]:=bB c9 rfl
   have s3:ar (h9.keep 1) h8.next 0 1=some [.int .i64 (tlE E e:Nat)]:=bB d9 rfl
   have s4:ar (h9.keep 1) h8.next 1 1=some [.int .i64 (hdE E e:Nat)]:=bB d9 rfl
   have snm9:SlI (h9.keep 1) nm (vsM n E (nI bk)):=snm7.cong λb o m c e'=>by
    have:=nmb b o m c e'
    rw[kg9 _ om,jk9 _ this.2 om]
   have same_a3:a3.same a3=true:=by rcases ja8 with ⟨rfl,_⟩|⟨_,_,_,rfl,_⟩<;>first|rfl|exact mR
   refine qH (nl 11 (M5 e6 s1 s2 s3 s4) rfl (Z5 e6 s1 s2 s3 s4) (M5 e6 s1 s2 s3 s4) (uM (x:=((tlE E e:Nat):Int)) snm9 om) λr h10 hq=>?_)
   obtain⟨rfl,rfl⟩:=hq
   refine⟨by simp only[am,aD,simprocAttr,s1,s2,s4,same_a3,same_nm],?_⟩
   refine nl 0 (M0) rfl (Z0) (M0) (uM (x:=((hdE E e:Nat):Int)) snm9 om) λr h11 hq=>?_
   obtain⟨rfl,rfl⟩:=hq
   refine⟨by simp only[am,aD,simprocAttr,s1,same_a3],?_⟩
   have f1:=nR _ _ 0 hrise hin.1
   have f2:=nR _ _ 0 hrise hin.2
   rw[bO] at f1 f2
   change _=((dE n E (nI bk) (tlE E e:Nat):Nat):Int) at f1
   change _=((dE n E (nI bk) (hdE E e:Nat):Nat):Int) at f2
   obtain⟨p1',pp2,pp3,pp4⟩:=gO (h:=h9) (o:=.cells [.int .i64 (dE n E (nI bk) (tlE E e:Nat):Nat),.int .i64 (dE n E (nI bk) (hdE E e:Nat):Nat)] 2 false)
   have hlenk:((((nI bk).take i).map λi=>(((dE n E (nI bk) (edM E i).1:Nat):Int),((dE n E (nI bk) (edM E i).2:Nat):Int))).flatMap eE).length=i*2:=by
    rw[dS (f:=eE) (e:=2) (λ_=>rfl),au,aZ,eZ,cw om]
   obtain⟨a4,h12,q12,i12,x12,e12,n12,k12,_⟩:=(ja9.ext p1' (ae _)).app (bytes:=16) (x:=h9.next) (new:=[.int .i64 (dE n E (nI bk) (tlE E e:Nat):Nat),.int .i64 (dE n E (nI bk) (hdE E e:Nat):Nat)]) (by rw[pp3]; omega) om pp2 om (λb m e'=>by have:=ja9.lt e'; omega) rfl rfl
    (by rw[hlenk,fp _ om]; unfold bd; omega) (by rw[hlenk,fp _ om]; unfold bd; omega)
   rw[pp3] at n12
   have hlo3:∀ b m,a3=.sl b 0 m m→h7.next≤b:=λb m e'=>by
    rcases ja8 with ⟨rfl,_⟩|⟨b',m',hb',rfl,_⟩
    ·cases e'
    ·cases e'; exact hb'
   have g12:h12.get h4.next=some (.cells [.int .i64 ((vsM n E (nI bk)).length:Nat),a3,nm,rv] 4 false):=by rw[k12 _ (by rw[pp3]; omega) (λb m e'=>by have:=hlo3 b m e'; omega),pp4 _ om]; exact g9p
   have w12:=dW (v:=a4) g12 (i:=1) (by simp)
   change bV h12 h4.next 1 [a4]=some (h12.put h4.next (.cells [.int .i64 ((vsM n E (nI bk)).length:Nat),a4,nm,rv] 4 false)) at w12
   have u12:=HF (o:=.cells [.int .i64 ((vsM n E (nI bk)).length:Nat),a4,nm,rv] 4 false) g12
   obtain⟨ac,ao⟩:=i12.cells
   have rp2:cm [AV.int .i64 0,AV.int .i64 0] 1=[.int .i64 0,.int .i64 0]:=rfl
   refine aW (by simp only[am,aD,simprocAttr,e6,f1,f2,fc,eS kq9,rp2,q12,ac,ao,w12]<;>rfl) ?_
   refine⟨a4,⟨jx9.trans ((p1'.mono om).trans ((x12.mono om).trans (u12.ext (ae _)))),by rw[u12.nx]; omega,λc hc hne=>?_,u12.get,?_⟩,_,(M2 e8 w8),H5 e1 e3 e4 e5 e6⟩
   ·rw[u12.ne hne,k12 _ (by rw[pp3]; omega) (λb m e'=>by have:=hlo3 b m e'; omega),pp4 _ om]
    exact jk9 c hc hne
   ·rw[hst,bQ]
    exact i12.cong λb m _ hb=>u12.ne om
  clear e1 e3 e4 e5 e6 e7
  rintro ed ts h8 ⟨jx8,jn8,jk8,jg8,ja8⟩ ⟨e1,e3,e4,e5,e6,e8,-⟩
  simp only at e1 e3 e4 e5 e6 jg8 ja8
  rw[ew (by rw[eZ]; exact ae _)] at ja8
  have rP8:ar h8 h4.next 0 4=some [.int .i64 ((vsM n E (nI bk)).length:Nat),ed,nm,rv]:=by rw[aS jg8]; rfl
  have x9:Ext h8.next h8 (h8.new (.cells [.int .i64 ((vsM n E (nI bk)).length:Nat),ed,nm,rv] 4 false)):=HD (ae _)
  have g9:(h8.new (.cells [.int .i64 ((vsM n E (nI bk)).length:Nat),ed,nm,rv] 4 false)).get h8.next=some (.cells [.int .i64 ((vsM n E (nI bk)).length:Nat),ed,nm,rv] 4 false):=by rw[AH.get_new,if_pos rfl]
  have n9:(h8.new (.cells [.int .i64 ((vsM n E (nI bk)).length:Nat),ed,nm,rv] 4 false)).next=h8.next+1:=rfl
  obtain⟨dc,do_⟩:=ja8.cells
  obtain⟨mc,mo⟩:=ka.cells
  have snm8:SlI h8 nm (vsM n E (nI bk)):=snm7.cong λb o m c e'=>by
   have:=nmb b o m c e'
   exact jk8 _ this.2 om
  have hpc:PartC (h8.new (.cells [.int .i64 ((vsM n E (nI bk)).length:Nat),ed,nm,rv] 4 false)) a (.int .i64 ((vsM n E (nI bk)).length:Nat),ed,nm,rv) (mT n E bk):=by
   refine⟨rfl,(HB (f:=eE) om (λ_=>rfl) ja8).ext x9 (ae _),snm8.ext x9 (ae _),(hNI jx8).ext x9 (ae _),λb o m c o' m' c' e1 e2=>?_,λb o m c o' m' c' e1 e2=>?_,λb o m c o' m' c' e1 e2=>?_⟩
   ·have h1:=ja.lt e2
    rcases ja8 with ⟨rfl,_⟩|⟨b',m',hb',rfl,_⟩
    ·cases e1
    ·cases e1; omega
   ·have h1:=ja.lt e2
    have h2:=(nmb _ _ _ _ e1).1
    omega
   ·have h1:=hrvlt _ _ _ _ e1
    have h2:=jb _ _ _ _ e2
    rcases i1 with ⟨rfl,_⟩|⟨b',m',hb',rfl,_⟩
    ·cases e1
    ·cases e1; omega
  obtain⟨a',h10,a10,i10,x10,n10,f10,k10⟩:=((ja.ext jx8 (ae _)).ext x9 (ae _)).push (q:=h8.next) (by rw[n9]; have:=jx8.nx; omega) hpc g9 (by have:=jx8.nx; omega) (λb m e=>by have:=ja.lt e; have:=jx8.nx; omega) (by rw[au,aZ]; omega)
  refine ah (by simp only[am,aD,simprocAttr,e3,e6,rP8,dc,do_,mc,mo,rc,ro,eD,a10]<;>rfl) ?_
  have n8:=jx8.nx
  refine⟨a',⟨jx.trans ((jx8.mono om).trans ((x9.mono om).trans x10)),λc hc hne=>?_,?_,λb o m c e=>?_⟩,_,(M2 e5 w5),H2 e1 e4⟩
  ·rw[k10 c om (λb m e=>by have:=jb _ _ _ _ e; omega),x9.gt _ om,jx8.gt _ om]
   exact jk c hc hne
  ·rw[aK hk,cV,hbk]
   exact i10
  ·have:=f10 b o m c e
   rw[n9] at this
   omega
 ·rintro a ts h4 ⟨jx,jk,ja,jb⟩ ⟨e1,e3,e4,e5,-⟩
  simp only at e3
  rw[bp] at ja
  have ac:=ja.cells
  refine ab (ah (M1 e3) ?_)
  refine bt ⟨_,(by simp only[rs,rf21,am,aD,simprocAttr,ac.1]<;>rfl),X3.trans (jx.mono om),l,hlst,?_⟩
  rw[hBc]
  exact ja.mono om
open Go.Am
open Go.Blk (Gr Lst canon IsBlock Cls Rel)
theorem vW {g:Gr}{l:Nat→Nat} (hl:Lst g l) {b:List Nat} (hb:b∈canon g.m l):IsBlock g b:=by
 unfold canon at hb
 obtain⟨i,hi,rfl⟩:=bJ.1 hb
 rw[bH,bz,beq_iff_eq] at hi
 refine⟨λe=>?_,λj hj k hk=>?_,λj hj k r=>?_⟩
 ·have:i∈(List.range g.m).filter λk=>l k==i:=by rw[bH,bz,beq_iff_eq]; exact hi
  rw[e] at this
  cases this
 ·rw[bH,bz,beq_iff_eq] at hj hk
  exact (hl.iff hj.1 hk.1).1 (hj.2.trans hk.2.symm)
 ·rw[bH,bz,beq_iff_eq] at hj ⊢
  have hk:k<g.m:=by obtain⟨x,_,q,_⟩:=r; exact q.1
  exact⟨hk,(hl.same j k hj.1 hk r).symm.trans hj.2⟩
theorem yj:∀ (l:List Int) (v:Int),l.Pairwise (·<·)→v∈l→l[l.countP λu=>decide (u<v)]?=some v
 | [],v,_,h=>by cases h
 | a::l,v,hp,h=>by
   obtain⟨p1,p2⟩:=cG.1 hp
   by_cases e:v=a
   ·subst e
    have:(v::l).countP (λu=>decide (u<v))=0:=by
     rw[lY]
     intro u hu
     rcases aC.1 hu with rfl|hu
     ·simp
     ·have:=p1 u hu
      simp only[aj]; omega
    rw[this]; rfl
   ·have hm:v∈l:=by
     rcases aC.1 h with q|q
     ·exact absurd q e
     ·exact q
    have:=p1 v hm
    rw[eQ (by simp only[aj]; omega),eN]
    exact yj l v p2 hm
theorem ky {n:Nat}{E:List (Int×Int)}{es:List Int}{v:Int} (h:v∈vsM n E es):(vsM n E es)[dE n E es v]?=some v:=yj _ v (qT n E es) h
theorem sY {n:Nat}{E:List (Int×Int)}{es:List Int}{v:Int} (h:v∈vsM n E es):dE n E es v<(vsM n E es).length:=(aJ.1 (ky h)).1
theorem pD {n:Nat}{E:List (Int×Int)}{es:List Int}{v w:Int} (h1:v∈vsM n E es) (h2:w∈vsM n E es) (e:dE n E es v=dE n E es w):v=w:=by
 have a:=ky h1
 have b:=ky h2
 rw[e,b] at a
 exact (Option.some.inj a).symm
theorem BD {l:List Nat} (hn:l.Nodup) (h:∀ a∈l,∀ b∈l,a=b):l.length≤1:=by
 match l,hn,h with
 | [],_,_=>simp
 | [a],_,_=>simp
 | a::b::r,hn,h =>
   have:=h a (by simp) b (by simp)
   subst this
   simp at hn
theorem oE {E:List (Int×Int)}{x:Int}:∀ (i:Nat),(dx (λe=>decide (e.2=x)) E i).length=0↔∀ e∈E,e.2≠x:=by
 induction E with
 | nil=>intro i; simp [dx]
 | cons e E ih =>
   intro i
   unfold dx
   by_cases q:e.2=x
   ·simp [q]
   ·simp only[q,decide_false,bF,if_false]
    rw[ih (i+1)]
    constructor
    ·intro h e' he'
     rcases aC.1 he' with rfl|he'
     ·exact q
     ·exact h e' he'
    ·exact λh e' he'=>h e' (bw _ he')
theorem zN {n:Nat}{E:List (Int×Int)} (hg:jr (n:Nat) E) (hE:InG n E) (hL:∀ i,i<E.length→tlE E i≠hdE E i) {l:Nat→Nat} (hl:Lst (grE n E hE hL) l) {b:List Nat} (hb:b∈canon E.length l) :
 jr (((vsM n E (nI b)).length:Nat):Int) (oP n E (nI b)):=by
 obtain⟨k1,k2,k3,k4⟩:=jZ hb
 obtain⟨hm,_,hnd,⟨rk,hrk⟩,hsrc⟩:=hg
 obtain⟨m1,m2,m3,m4⟩:=kz hm
 have hbk:=vW (g:=grE n E hE hL) hl hb
 have hvl:=sR n E (nI b)
 have hsl:(oP n E (nI b)).length=b.length:=by unfold oP; rw[au,eZ]
 have hend:=λi (hi:i∈b)=>yH hE k2 hi
 have hsub:∀ e,e∈oP n E (nI b)↔∃ i∈b,e=(((dE n E (nI b) (tlE E i:Nat):Nat):Int),((dE n E (nI b) (hdE E i:Nat):Nat):Int)):=λe=>by
  unfold oP nI
  rw[bJ]
  constructor
  ·rintro⟨j,h1,rfl⟩
   obtain⟨i,h2,rfl⟩:=bJ.1 h1
   exact⟨i,h2,by rw[kG hE (k2 i h2)]⟩
  ·rintro⟨i,h1,rfl⟩
   exact⟨_,bJ.2 ⟨i,h1,rfl⟩,by rw[kG hE (k2 i h1)]⟩
 obtain⟨i0,hi0⟩:∃ i,i∈b:=by
  cases b with
  | nil=>exact absurd rfl k1
  | cons a r=>exact⟨a,aY ..⟩
 have hpos:0<(vsM n E (nI b)).length:=List.length_pos_of_mem (hend i0 hi0).1
 refine⟨?_,?_,?_,?_,?_⟩
 ·unfold eV
  simp only[aq,aj,bA]
  refine⟨⟨⟨om,om⟩,by rw[hsl]; omega⟩,λe he=>?_⟩
  obtain⟨i,hi,rfl⟩:=(hsub e).1 he
  have h1:=sY (hend i hi).1
  have h2:=sY (hend i hi).2
  simp only[okE,aq,aj]
  omega
 ·intro e he
  obtain⟨i,hi,rfl⟩:=(hsub e).1 he
  intro q
  have q:dE n E (nI b) (tlE E i:Nat)=dE n E (nI b) (hdE E i:Nat):=by simp only at q; omega
  have:=pD (hend i hi).1 (hend i hi).2 q
  exact hL i (k2 i hi) om
 ·have key:oP n E (nI b)=b.map λi=>(((dE n E (nI b) (tlE E i:Nat):Nat):Int),((dE n E (nI b) (hdE E i:Nat):Nat):Int)):=by
   unfold oP
   conv=>lhs; arg 2; unfold nI
   rw[jM]
   refine cH λi hi=>?_
   show (((dE n E (nI b) (edM E ((i:Nat):Int)).1:Nat):Int),((dE n E (nI b) (edM E ((i:Nat):Int)).2:Nat):Int))=_
   rw[kG hE (k2 i hi)]
  rw[key]
  unfold List.Nodup
  rw[jL]
  refine List.Pairwise.imp_of_mem ?_ k4
  intro i k hi hk hne e
  simp only[ak] at e
  have e1:=pD (hend i hi).1 (hend k hk).1 om
  have e2:=pD (hend i hi).2 (hend k hk).2 om
  have q1:=(hE i (k2 i hi)).1
  have q2:=(hE k (k2 k hk)).1
  have:E[i]'(k2 i hi)=E[k]'(k2 k hk):=by rw[q1,q2,e1,e2]
  exact hne ((List.getElem_inj hnd).1 this)
 ·refine⟨λj=>rk ((vsM n E (nI b)).getD j.toNat 0),λe he=>?_⟩
  obtain⟨i,hi,rfl⟩:=(hsub e).1 he
  have h1:=ky (hend i hi).1
  have h2:=ky (hend i hi).2
  simp only[bK]
  rw[aL,aL,h1,h2]
  have:=hrk _ (bq (k2 i hi))
  rw[(hE i (k2 i hi)).1] at this
  exact this
 ·rw[bK]
  unfold iR
  rw[au]
  refine BD (List.nodup_range.filter _) λa ha c hc=>?_
  rw[bH,bz,beq_iff_eq] at ha hc
  obtain⟨s,hs⟩:∃ s,∀ v,v<n→v≠s→∃ i,i<E.length∧hdE E i=v:=by
   have hsr:∀ v,v<n→(¬ ∃ i,i<E.length∧hdE E i=v)→((v:Nat):Int)∈iR n E:=λv hv hno=>by
    unfold iR
    refine bJ.2 ⟨v,?_,rfl⟩
    rw[bH,bz,beq_iff_eq]
    refine⟨hv,(oE 0).2 λe he q=>hno ?_⟩
    obtain⟨i,hi,rfl⟩:=List.getElem_of_mem he
    rw[(hE i hi).1] at q
    exact⟨i,hi,by simp only at q; omega⟩
   rw[bK] at hsrc
   match hsl:iR n E,hsrc with
   | [],_=>exact⟨0,λv hv _=>Classical.byContradiction λh=>by have:=hsr v hv h; rw[hsl] at this; cases this⟩
   | [z],_=>exact⟨z.toNat,λv hv hne=>Classical.byContradiction λh=>by
    have:=hsr v hv h
    rw[hsl,fU] at this
    omega⟩
  have hr:∀ i,i<E.length→rk ((tlE E i:Nat):Int)<rk ((hdE E i:Nat):Int):=λi hi=>by
   have:=hrk _ (bq hi)
   rw[(hE i hi).1] at this
   exact this
  have key:∀ a,a<(vsM n E (nI b)).length∧(eW (oP n E (nI b)) ((a:Nat):Int)).length=0→∃ v:Nat,(vsM n E (nI b))[a]?=some ((v:Nat):Int)∧(∃ e∈b,(grE n E hE hL).inc e v)∧∀ i∈b,hdE E i≠v:=by
   rintro a ⟨h1,h2⟩
   have hv:=bq h1
   have hv2:∀ x∈vsM n E (nI b),(0≤x∧x<(n:Nat))∧x∈fB E (nI b):=λx hx=>by
    unfold vsM at hx
    rw[bH,lz,aj] at hx
    exact hx
   have hv':=hv2 _ hv
   obtain⟨v,ev⟩:∃ v:Nat,(vsM n E (nI b))[a]=((v:Nat):Int):=⟨((vsM n E (nI b))[a]).toNat,om⟩
   refine⟨v,by rw[aw h1,ev],?_,λi hi q=>?_⟩
   ·have h3:=hv'.2
    rw[ev] at h3
    have h4:=wg hE k2 v
    rw[aI h3,Eg] at h4
    obtain⟨e,he,hq⟩:=h4
    simp only[dy,aj] at hq
    exact⟨e,he,k2 e he,hq⟩
   ·refine (oE 0).1 h2 _ ((hsub _).2 ⟨i,hi,rfl⟩) ?_
    have h5:=ky (hend i hi).2
    rw[q,← ev] at h5
    have hra:dE n E (nI b) ((v:Nat):Int)=a:=by
     rw[← ev]
     have hlt:dE n E (nI b) (vsM n E (nI b))[a]<(vsM n E (nI b)).length:=sY hv
     have hp:=qT n E (nI b)
     have e1:(vsM n E (nI b))[dE n E (nI b) (vsM n E (nI b))[a]]=(vsM n E (nI b))[a]:=by
      have:=ky hv
      rw[aw hlt] at this
      exact Option.some.inj this
     rw[ig] at hp
     rcases nq (dE n E (nI b) (vsM n E (nI b))[a]) a with h|h|h
     ·have:=hp _ _ hlt h1 h; omega
     ·exact h
     ·have:=hp _ _ h1 hlt h; omega
    show ((dE n E (nI b) ((hdE E i:Nat):Int):Nat):Int)=_
    rw[q,hra]
  obtain⟨v,v1,⟨e,v2,v3⟩,v4⟩:=key a ha
  obtain⟨w,w1,⟨f,w2,w3⟩,w4⟩:=key c hc
  have hvw:v=w:=Go.Blk.one_source (g:=grE n E hE hL) (r:=λx=>rk ((x:Nat):Int)) hr hs hbk v2 v3 v4 w2 w3 w4
  subst hvw
  obtain⟨a1,a2⟩:=aJ.1 v1
  obtain⟨c1,c2⟩:=aJ.1 w1
  have hp:=qT n E (nI b)
  rw[ig] at hp
  rcases nq a c with h|h|h
  ·have:=hp _ _ a1 c1 h; omega
  ·exact h
  ·have:=hp _ _ c1 a1 h; omega
end Go.Proofs.YtahepnbflofndaaGreatDoor
