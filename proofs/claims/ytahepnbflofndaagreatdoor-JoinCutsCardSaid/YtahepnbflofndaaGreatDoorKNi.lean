/- arborref13.Parts. -/
import Derived.Test.YtahepnbflofndaaGreatDoorKNh
import Derived.Test.YtahepnbflofndaaGreatDoorKRbs
import Derived.Test.YtahepnbflofndaaGreatDoorKNb
set_option linter.all false
namespace Go.Proofs.YtahepnbflofndaaGreatDoor
open Go.Am
open Go.Blk (Gr Lst canon)
theorem lD {n:Nat}{E:List (Int×Int)} (hE:InG n E) {i:Nat} (hi:i<E.length):edM E ((i:Nat):Int)=(((tlE E i:Nat):Int),((hdE E i:Nat):Int)):=by
 rw[HA rfl hi];exact (hE i hi).1
theorem Aj {n:Nat}{E:List (Int×Int)} (hE:InG n E) {b:List Nat} (hb:∀ i∈b,i<E.length) (x:Nat):(b.any λi=>decide (tlE E i=x)||decide (hdE E i=x))=decide (((x:Nat):Int)∈gI E (nI b)):=by
 rw[dE,Iz,aJ];unfold gI nI;rw[er];constructor
 ·rintro⟨i,h1,h2⟩;refine⟨_,bB.2 ⟨i,h1,rfl⟩,?_⟩;rw[lD hE (hb i h1)];simp only[cZ,aJ] at h2;simp only[aA,bq,or_false];omega
 ·rintro⟨j,h1,h2⟩;obtain⟨i,h3,rfl⟩:=bB.1 h1;rw[lD hE (hb i h3)] at h2;simp only[aA,bq,or_false] at h2;refine⟨i,h3,?_⟩;simp only[cZ,aJ];omega
theorem lZ:∀ (l:List Int) (v:Int) (k:Nat),l.Pairwise (·<·)→v∈l→dW (v==·) l k=((k+l.countP (λu=>decide (u<v)):Nat):Int)
 | [],v,k,_,h=>by cases h
 | a::l,v,k,hp,h=>by
   obtain⟨p1,p2⟩:=cX.1 hp;show (if (v==a)=true then ((k:Nat):Int) else dW (v==·) l (k+1))=_;by_cases e:v=a
   ·subst e;have:(v::l).countP (λu=>decide (u<v))=0:=by
     rw[jM];intro u hu;rcases aA.1 hu with rfl|hu
     ·simp
     ·have:=p1 u hu;simp only[aJ]; omega
    rw[if_pos (by simp),this];rfl
   ·have hm:v∈l:=by
     rcases aA.1 h with q|q
     ·exact absurd q e
     ·exact q
    have:=p1 v hm;rw[if_neg (by rw[beq_iff_eq]; exact e),lZ l v (k+1) p2 hm,fL (by simp only[aJ]; omega)];congr 1;omega
theorem qw (n:Nat) (E:List (Int×Int)) (es:List Int):(vsM n E es).length≤n:=by
 unfold vsM;have:=dj (λv=>decide (v∈gI E es)) (ju n);rwa [kh] at this
theorem mG {n:Nat}{E:List (Int×Int)} (hE:InG n E) {b:List Nat} (hb:∀ i∈b,i<E.length) {i:Nat} (hi:i∈b):((tlE E i:Nat):Int)∈vsM n E (nI b)∧((hdE E i:Nat):Int)∈vsM n E (nI b):=by
 have hil:=hb i hi;obtain⟨_,q2,q3⟩:=hE i hil;unfold vsM;rw[bj,bj,gf,gf,aJ,aJ];have key:∀ x:Int,x∈[((tlE E i:Nat):Int),((hdE E i:Nat):Int)]→x∈gI E (nI b):=λx hx=>by
  unfold gI nI;rw[er];exact⟨_,bB.2 ⟨i,hi,rfl⟩,by rw[lD hE hil]; exact hx⟩
 exact⟨⟨om,key _ (by simp)⟩,om,key _ (by simp)⟩
theorem LL.at2 {h:AH}{lo:Nat}{a:AV}{xss:List (List Nat)} (hl:LL h lo a xss) {i:Nat} (hi:i<xss.length):∃ b o v,jO 1 a (.int .i64 (i:Nat))=some (.ptr b o)∧ak h b o 1=some [v]∧IsSl h 1 lo v (nC xss[i])∧b<h.next∧lo≤b:=by
 obtain⟨b,o,v,q1,q2,q3,q4⟩:=hl.at hi;refine⟨b,o,v,q1,q2,q3,q4,?_⟩;obtain⟨vs,h1,h2,h3⟩:=hl;rcases h1 with ⟨rfl,_⟩|⟨b',n,hb,rfl,_⟩
 ·cases q1
 ·rw[tP] at q1;obtain⟨j,_,e⟩:=aF.1 q1;cases e;exact hb
set_option maxHeartbeats 4000000 in
theorem Dy {h:AH}{n:Nat}{ev:AV}{E:List (Int×Int)} (he:SlE h ev E) (hE:InG n E) (hL:∀ i,i<E.length→tlE E i≠hdE E i) (hxl:E.length≤128) (hnl:n≤64) :
 C prg 21 [.agg (gW n ev)] h λr h'=>Ext h.next h h'∧∃ l,Lst (grE n E hE hL) l∧PL h' h.next r ((canon E.length l).map (rS n E)):=by
 obtain⟨ec,eo⟩:=he.cells;have hB:∀ {h':AH},SlE h' ev E→_:=fun {h'} q=>AM (n:=n) q hE hL om om;have hAt:∀ {h':AH}{bv:AV}{b:List Nat}{x:Nat},SlE h' ev E→SlN h' bv b→(∀ i∈b,i<E.length)→b.length<2 ^ 40→_:=fun {h' bv b x} q1 q2 q3 q4=>JK (n:=n) (x:=x) q1 q2 hE q3 q4;unfold gW at hB hAt ⊢;refine Mw pf21 ?_;refine ae (aj (Mi0) ?_);have x0:Ext h.next h (h.new (.cells [.int .i64 (n:Nat),ev] 2 false)):=Mt (ab _);have g0:(h.new (.cells [.int .i64 (n:Nat),ev] 2 false)).get h.next=some (.cells [.int .i64 (n:Nat),ev] 2 false):=by rw[AH.get_new,if_pos rfl]
 have n0:(h.new (.cells [.int .i64 (n:Nat),ev] 2 false)).next=h.next+1:=rfl;generalize (h.new (.cells [.int .i64 (n:Nat),ev] 2 false))=h1 at *
 have x2:Ext h1.next h1 (h1.new (.cells [] 4 false)):=Mt (ab _);have g2:(h1.new (.cells [] 4 false)).get h1.next=some (.cells [] 4 false):=by rw[AH.get_new,if_pos rfl]
 have n2:(h1.new (.cells [] 4 false)).next=h1.next+1:=rfl;refine ae (aj (Mi0) ?_);generalize (h1.new (.cells [] 4 false))=h2 at *
 have X2:Ext h.next h h2:=x0.trans (x2.mono om);have gA2:h2.get h.next=some (.cells [.int .i64 (n:Nat),ev] 2 false):=by rw[x2.gt _ om]; exact g0
 have rA2:ak h2 h.next 0 2=some [.int .i64 (n:Nat),ev]:=by rw[aU gA2]; rfl
 refine ae (bN (bo 1 (Mi1 rA2) rfl (Zi1 rA2) (Mi1 rA2) (hB (he.ext X2 (ab _))) λbv h3 hq=>?_));obtain⟨l,hlst,x3,hLL⟩:=hq;refine bH (M0) ?_;have hBm:=λb hb=>jD (m:=E.length) (l:=l) (b:=b) hb;have hBlen:=oG (m:=E.length) (l:=l);have bl3:=hLL.len;generalize hBc:canon E.length l=B at *
 have X3:Ext h.next h h3:=X2.trans (x3.mono om);have n3:=x3.nx;have gA3:h3.get h.next=some (.cells [.int .i64 (n:Nat),ev] 2 false):=by rw[x3.gt _ om]; exact gA2
 have g3:h3.get h1.next=some (.cells [] 4 false):=by rw[x3.gt _ om]; exact g2
 refine ae (ae (aj (M0) ?_))
 refine dV (α:=AV) (N:=B.length) (λk a=>[(1,.ptr h.next 0),(3,a),(4,bv),(5,.int .i64 (k:Nat))])
  (λk a h'=>Ext h1.next h3 h'∧(∀ c,c<h3.next→c≠h1.next→h'.get c=h3.get c)∧PL h' h1.next a ((B.take k).map (rS n E))∧∀ b o m c,a=.sl b o m c→b=h1.next∨h3.next≤b) (.sl h1.next 0 0 0) (Hi1 @bh)
  ⟨Mu,λ_ _ _=>rfl,⟨[],.inr ⟨h1.next,0,ab _,rfl,g3,rfl⟩,rfl,λi x p e=>by simp at e⟩,λb o m c e=>by cases e; exact .inl rfl⟩ ?_ ?_ ?_
 ·rintro k a ts h4 hk ⟨jx,jk,ja,jb⟩ ⟨e1,e3,e4,e5,-⟩;simp only at e1 e3 e4 e5;exact⟨_,(M4 e4 e5 bl3 @bz),Z0,H4 e1 e3 e4 e5⟩
 ·rintro k a ts h4 hk ⟨jx,jk,ja,jb⟩ ⟨e1,e3,e4,e5,-⟩;simp only at e1 e3 e4 e5;have w5:=dT (k:=k) om;have n4:=jx.nx;obtain⟨k1,k2,k3,_⟩:=hBm _ (aP hk);obtain⟨b1,p1,rv,a1,r1,i1,lb1,lo1⟩:=hLL.at2 hk;generalize hbk:B[k]=bk at *
  have kk:∀ {h':AH}{c:Nat},Ext h4.next h4 h'→c<h3.next→c≠h1.next→h'.get c=h3.get c:=fun {h' c} q hc hne=>by rw[q.gt _ om]; exact jk c hc hne
  have rrow:∀ {h':AH},Ext h4.next h4 h'→ak h' b1 p1 1=some [rv]:=fun {h'} q=>by rw[bK (kk q lb1 om)]; exact r1
  have srow:∀ {h':AH},Ext h4.next h4 h'→IsSl h' 1 h2.next rv (nC bk):=fun {h'} q=>i1.cong λb m e hb=>kk q (i1.lt e) om;have Xe:∀ {h':AH},Ext h4.next h4 h'→Ext h.next h h':=fun {h'} q=>X3.trans ((jx.mono om).trans (q.mono om));have gA:∀ {h':AH},Ext h4.next h4 h'→h'.get h.next=some (.cells [.int .i64 (n:Nat),ev] 2 false):=fun {h'} q=>by rw[kk q om om]; exact gA3
  obtain⟨rc,ro⟩:=i1.cells;obtain⟨h5,w5',x5,g5,n5⟩:=im (h:=h4) (z:=[.int .i64 0,.nils,.nils,.nils]) (cs:=[.int .i64 0,.nils,.nils,rv]) (e:=4) rfl;refine ae (aj (by simp only[am,aK,simprocAttr,e4,e5,a1,rrow Mu,rc,ro,dP,w5']<;>rfl) ?_);have bkl:bk.length≤128:=cn k3 hxl;have hNI:∀ {h':AH},Ext h4.next h4 h'→SlN h' rv bk:=fun {h'} q=>Lo (srow q);have hrvlt:∀ b o m c,rv=.sl b o m c→b<h3.next:=λb o m c e=>i1.lt e;refine ae (ae (aj (M0) ?_))
  refine dV (α:=AV) (N:=n) (λx a2=>[(1,.ptr h.next 0),(3,a),(4,bv),(5,.int .i64 (k:Nat)),(6,.ptr h4.next 0),(7,.int .i64 (x:Nat))])
   (λx a2 h'=>Ext h4.next h4 h'∧h4.next+1≤h'.next∧h'.get h4.next=some (.cells [.int .i64 0,.nils,a2,rv] 4 false)∧IsSl h' 1 (h4.next+1) a2 ((vsM x E (nI bk)).flatMap eI)) .nils (H5 e1 e3 e4 e5 @bh)
   ⟨x5,om,g5,.inl ⟨rfl,rfl⟩⟩ ?_ ?_ ?_
  ·clear e1 e3 e4 e5;rintro x a2 ts h6 hx ⟨kx,kn,kg,ka⟩ ⟨e1,e3,e4,e5,e6,e7,-⟩;simp only at e1 e3 e4 e5 e6 e7;have rN:ak h6 h.next 0 1=some [.int .i64 (n:Nat)]:=bm (gA kx) rfl;exact⟨_,(M4 e1 e7 rN @bz),Z0,H6 e1 e3 e4 e5 e6 e7⟩
  ·clear e1 e3 e4 e5;rintro x a2 ts h6 hx ⟨kx,kn,kg,ka⟩ ⟨e1,e3,e4,e5,e6,e7,-⟩;simp only at e1 e3 e4 e5 e6 e7 kg ka;have w7:=dT (k:=x) om;have rA6:ak h6 h.next 0 2=some [.int .i64 (n:Nat),ev]:=by rw[aU (gA kx)]; rfl
   refine ae (bN (bo 6 (M7 e1 e4 e5 e7 rA6 a1 (rrow kx)) rfl (Z7 e1 e4 e5 e7 rA6 a1 (rrow kx)) (M7 e1 e4 e5 e7 rA6 a1 (rrow kx)) (hAt (x:=x) (he.ext (Xe kx) (ab _)) (hNI kx) k2 om) λr h7 hq=>?_));obtain⟨rfl,x7⟩:=hq;rw[Aj hE k2];refine bH (M0) ?_;have kx7:Ext h4.next h4 h7:=kx.trans (x7.mono om);have n7:=x7.nx;have kg7:h7.get h4.next=some (.cells [.int .i64 0,.nils,a2,rv] 4 false):=by rw[x7.gt _ om]; exact kg
   have ka7:=ka.ext x7 (ab _);refine cr (t:=decide (((x:Nat):Int)∈gI E (nI bk))) (Z0) (λq=>?_) λq=>?_
   ·have q:((x:Nat):Int)∈gI E (nI bk):=aR q;have hvl:=qw x E (nI bk);have hlk:((vsM x E (nI bk)).flatMap eI).length=(vsM x E (nI bk)).length:=by rw[dC (f:=eI) (e:=1) (λ_=>rfl),aO]
    obtain⟨a3,h8,q8,i8,x8,n8⟩:=ka7.push (bytes:=8) [.int .i64 (x:Nat)] om om rfl rfl (by rw[hlk,dF]; unfold aW; omega) (by rw[hlk,dF]; unfold aW; omega);have rn7:ak h7 h4.next 2 1=some [a2]:=bm kg7 rfl;have kg8:h8.get h4.next=some (.cells [.int .i64 0,.nils,a2,rv] 4 false):=by rw[x8.gt _ om]; exact kg7
    have w8:=eA (v:=a3) kg8 (i:=2) (by simp);change bQ h8 h4.next 2 [a3]=some (h8.put h4.next (.cells [.int .i64 0,.nils,a3,rv] 4 false)) at w8;have u8:=Mv (o:=.cells [.int .i64 0,.nils,a3,rv] 4 false) kg8;obtain⟨ac,ao⟩:=i8.cells;refine aj (M7 e6 e7 rn7 q8 ac ao w8) ?_;refine⟨a3,⟨kx7.trans ((x8.mono om).trans (u8.ext (ab _))),by rw[u8.nx]; omega,u8.get,?_⟩,_,(M2 e7 w7),H5 e1 e3 e4 e5 e6⟩;rw[Ca,if_pos q,bC];exact i8.upd u8 om
   ·have q:¬ ((x:Nat):Int)∈gI E (nI bk):=aZ q;refine bu ⟨a2,⟨kx7,om,kg7,?_⟩,_,(M2 e7 w7),H5 e1 e3 e4 e5 e6⟩;rw[Ca,if_neg q,bO];exact ka7
  clear e1 e3 e4 e5;rintro nm ts h6 ⟨kx,kn,kg,ka⟩ ⟨e1,e3,e4,e5,e6,e7,-⟩;simp only at e1 e3 e4 e5 e6 kg ka;have snm:SlI h6 nm (vsM n E (nI bk)):=Mq om (λ_=>rfl) ka;have lnm:=snm.len;rw[ai] at lnm;have rn6:ak h6 h4.next 2 1=some [nm]:=bm kg rfl;have w6:=eA (v:=.int .i64 ((vsM n E (nI bk)).length:Nat)) kg (i:=0) (by simp);change bQ h6 h4.next 0 [.int .i64 ((vsM n E (nI bk)).length:Nat)]=some (h6.put h4.next (.cells [.int .i64 ((vsM n E (nI bk)).length:Nat),.nils,nm,rv] 4 false)) at w6;have u6:=Mv (o:=.cells [.int .i64 ((vsM n E (nI bk)).length:Nat),.nils,nm,rv] 4 false) kg;refine ae (aj (M4 e6 rn6 lnm w6) ?_);generalize h6.put h4.next (.cells [.int .i64 ((vsM n E (nI bk)).length:Nat),.nils,nm,rv] 4 false)=h7 at *
  have kx7:Ext h4.next h4 h7:=kx.trans (u6.ext (ab _));have n7:=u6.nx;have ka7:=ka.upd u6 om;have nmb:∀ b o m c,nm=.sl b o m c→h4.next+1≤b∧b<h7.next:=λb o m c e=>by
   refine⟨?_,ka7.lt e⟩;rcases ka with ⟨rfl,_⟩|⟨b',m',hb',rfl,_⟩
   ·cases e
   ·cases e; exact hb'
  have snm7:SlI h7 nm (vsM n E (nI bk)):=Mq om (λ_=>rfl) ka7;have same_nm:nm.same nm=true:=by rcases ka with ⟨rfl,_⟩|⟨_,_,_,rfl,_⟩<;>first|rfl|exact mq
  have hvl:=qw n E (nI bk);have hrise:=pJ n E (nI bk);have g7:=u6.get;refine ae ?_;refine ae (aj (M0) ?_)
  refine dV (α:=AV) (N:=bk.length) (λi a3=>[(1,.ptr h.next 0),(3,a),(4,bv),(5,.int .i64 (k:Nat)),(6,.ptr h4.next 0),(8,.int .i64 (i:Nat))])
   (λi a3 h'=>Ext h4.next h4 h'∧h7.next≤h'.next∧(∀ c,c<h7.next→c≠h4.next→h'.get c=h7.get c)∧h'.get h4.next=some (.cells [.int .i64 ((vsM n E (nI bk)).length:Nat),a3,nm,rv] 4 false)∧IsSl h' 2 h7.next a3 ((((nI bk).take i).map λi=>(((cV n E (nI bk) (edM E i).1:Nat):Int),((cV n E (nI bk) (edM E i).2:Nat):Int))).flatMap eE)) .nils (H6 e1 e3 e4 e5 e6 @bh)
   ⟨kx7,ab _,λ_ _ _=>rfl,g7,.inl ⟨rfl,by simp⟩⟩ ?_ ?_ ?_
  ·clear e1 e3 e4 e5 e6 e7;rintro i a3 ts h8 hi ⟨jx8,jn8,jk8,jg8,ja8⟩ ⟨e1,e3,e4,e5,e6,e8,-⟩;simp only at e1 e3 e4 e5 e6 e8;have lrv:=(hNI jx8).len;rw[ai,ai] at lrv;exact⟨_,(M7 e4 e5 e8 a1 (rrow jx8) lrv @bz),Z0,H6 e1 e3 e4 e5 e6 e8⟩
  ·clear e1 e3 e4 e5 e6 e7;rintro i a3 ts h8 hi ⟨jx8,jn8,jk8,jg8,ja8⟩ ⟨e1,e3,e4,e5,e6,e8,-⟩;simp only at e1 e3 e4 e5 e6 e8 jg8 ja8;have w8:=dT (k:=i) om;have him:=k2 _ (aP hi);have hin:=mG hE k2 (aP hi);obtain⟨q1,q2,q3⟩:=hE _ him;have rE8:ak h8 h.next 1 1=some [ev]:=bm (gA jx8) rfl;obtain⟨b2,p2,a2,r2,_⟩:=(hNI jx8).at1 (i:=i) (y:=.int .i64 (bk[i]:Nat)) (by rw[aX,aX,aq hi]; rfl);obtain⟨b3,p3,a3',r3,_⟩:=(he.ext (Xe jx8) (ab _)).at (cq (f:=eE) him);rw[q1] at r3;have hst:=yx (n:=n) (E:=E) (F:=nI bk) (es:=nI bk) (k:=i) (by rw[fE]; exact hi);rw[show (nI bk)[i]'(by rw[fE]; exact hi)=((bk[i]:Nat):Int) by simp [nI],lD hE him] at hst;generalize bk[i]=e at *
   obtain⟨h9,w9,x9,g9,n9⟩:=im (h:=h8) (z:=[.int .i64 0,.int .i64 0]) (cs:=[.int .i64 (tlE E e:Nat),.int .i64 (hdE E e:Nat)]) (e:=2) rfl;refine ae (aj (by simp only[am,aK,simprocAttr,e1,e4,e5,e8,rE8,a1,rrow jx8,a2,r2,a3',r3,eE,w9]<;>rfl) ?_);have jx9:Ext h4.next h4 h9:=jx8.trans (x9.mono jx8.nx);have g9p:h9.get h4.next=some (.cells [.int .i64 ((vsM n E (nI bk)).length:Nat),a3,nm,rv] 4 false):=by rw[x9.gt _ om]; exact jg8
   have jk9:∀ c,c<h7.next→c≠h4.next→h9.get c=h7.get c:=λc hc hne=>by rw[x9.gt _ om]; exact jk8 c hc hne
   have ja9:=ja8.ext x9 (ab _);have kg9:∀ c,c<h9.next→(h9.keep 1).get c=h9.get c:=λc hc=>by rw[AH.keep_get,if_neg om]
   have kq9:(h9.keep 1).get h9.next=some .resv:=fG;have c9:(h9.keep 1).get h4.next=some (.cells [.int .i64 ((vsM n E (nI bk)).length:Nat),a3,nm,rv] 4 false):=by rw[kg9 _ om]; exact g9p
   have d9:(h9.keep 1).get h8.next=some (.cells [.int .i64 (tlE E e:Nat),.int .i64 (hdE E e:Nat)] 2 false):=by rw[kg9 _ om]; exact g9
   have s1:ak (h9.keep 1) h4.next 1 1=some [a3]:=bm c9 rfl;have s2:ak (h9.keep 1) h4.next 2 1=some [nm]:=bm c9 rfl;have s3:ak (h9.keep 1) h8.next 0 1=some [.int .i64 (tlE E e:Nat)]:=bm d9 rfl;have s4:ak (h9.keep 1) h8.next 1 1=some [.int .i64 (hdE E e:Nat)]:=bm d9 rfl;have snm9:SlI (h9.keep 1) nm (vsM n E (nI bk)):=snm7.cong λb o m c e'=>by
    have:=nmb b o m c e';rw[kg9 _ om,jk9 _ this.2 om]
   have same_a3:a3.same a3=true:=by rcases ja8 with ⟨rfl,_⟩|⟨_,_,_,rfl,_⟩<;>first|rfl|exact mq
   refine pD (jE 11 (M5 e6 s1 s2 s3 s4) rfl (Z5 e6 s1 s2 s3 s4) (M5 e6 s1 s2 s3 s4) (pP (x:=((tlE E e:Nat):Int)) snm9 om) λr h10 hq=>?_);obtain⟨rfl,rfl⟩:=hq;refine⟨by simp only[am,aK,simprocAttr,s1,s2,s4,same_a3,same_nm],?_⟩;refine jE 0 (M0) rfl (Z0) (M0) (pP (x:=((hdE E e:Nat):Int)) snm9 om) λr h11 hq=>?_;obtain⟨rfl,rfl⟩:=hq;refine⟨by simp only[am,aK,simprocAttr,s1,same_a3],?_⟩;have f1:=lZ _ _ 0 hrise hin.1;have f2:=lZ _ _ 0 hrise hin.2;rw[bM] at f1 f2;change _=((cV n E (nI bk) (tlE E e:Nat):Nat):Int) at f1;change _=((cV n E (nI bk) (hdE E e:Nat):Nat):Int) at f2;obtain⟨p1',pp2,pp3,pp4⟩:=gr (h:=h9) (o:=.cells [.int .i64 (cV n E (nI bk) (tlE E e:Nat):Nat),.int .i64 (cV n E (nI bk) (hdE E e:Nat):Nat)] 2 false);have hlenk:((((nI bk).take i).map λi=>(((cV n E (nI bk) (edM E i).1:Nat):Int),((cV n E (nI bk) (edM E i).2:Nat):Int))).flatMap eE).length=i*2:=by
    rw[dC (f:=eE) (e:=2) (λ_=>rfl),ai,aS,fE,cy om]
   obtain⟨a4,h12,q12,i12,x12,e12,n12,k12,_⟩:=(ja9.ext p1' (ab _)).app (bytes:=16) (x:=h9.next) (new:=[.int .i64 (cV n E (nI bk) (tlE E e:Nat):Nat),.int .i64 (cV n E (nI bk) (hdE E e:Nat):Nat)]) (by rw[pp3]; omega) om pp2 om (λb m e'=>by have:=ja9.lt e'; omega) rfl rfl
    (by rw[hlenk,cN _ om]; unfold aW; omega) (by rw[hlenk,cN _ om]; unfold aW; omega)
   rw[pp3] at n12;have hlo3:∀ b m,a3=.sl b 0 m m→h7.next≤b:=λb m e'=>by
    rcases ja8 with ⟨rfl,_⟩|⟨b',m',hb',rfl,_⟩
    ·cases e'
    ·cases e'; exact hb'
   have g12:h12.get h4.next=some (.cells [.int .i64 ((vsM n E (nI bk)).length:Nat),a3,nm,rv] 4 false):=by rw[k12 _ (by rw[pp3]; omega) (λb m e'=>by have:=hlo3 b m e'; omega),pp4 _ om]; exact g9p
   have w12:=eA (v:=a4) g12 (i:=1) (by simp);change bQ h12 h4.next 1 [a4]=some (h12.put h4.next (.cells [.int .i64 ((vsM n E (nI bk)).length:Nat),a4,nm,rv] 4 false)) at w12;have u12:=Mv (o:=.cells [.int .i64 ((vsM n E (nI bk)).length:Nat),a4,nm,rv] 4 false) g12;obtain⟨ac,ao⟩:=i12.cells;have rp2:cm [AV.int .i64 0,AV.int .i64 0] 1=[.int .i64 0,.int .i64 0]:=rfl;refine bH (by simp only[am,aK,simprocAttr,e6,f1,f2,eN,et kq9,rp2,q12,ac,ao,w12]<;>rfl) ?_;refine⟨a4,⟨jx9.trans ((p1'.mono om).trans ((x12.mono om).trans (u12.ext (ab _)))),by rw[u12.nx]; omega,λc hc hne=>?_,u12.get,?_⟩,_,(M2 e8 w8),H5 e1 e3 e4 e5 e6⟩
   ·rw[u12.ne hne,k12 _ (by rw[pp3]; omega) (λb m e'=>by have:=hlo3 b m e'; omega),pp4 _ om];exact jk9 c hc hne
   ·rw[hst,bC];exact i12.cong λb m _ hb=>u12.ne om
  clear e1 e3 e4 e5 e6 e7;rintro ed ts h8 ⟨jx8,jn8,jk8,jg8,ja8⟩ ⟨e1,e3,e4,e5,e6,e8,-⟩;simp only at e1 e3 e4 e5 e6 jg8 ja8;rw[da (by rw[fE]; exact ab _)] at ja8;have rP8:ak h8 h4.next 0 4=some [.int .i64 ((vsM n E (nI bk)).length:Nat),ed,nm,rv]:=by rw[aU jg8]; rfl
  have x9:Ext h8.next h8 (h8.new (.cells [.int .i64 ((vsM n E (nI bk)).length:Nat),ed,nm,rv] 4 false)):=Mt (ab _);have g9:(h8.new (.cells [.int .i64 ((vsM n E (nI bk)).length:Nat),ed,nm,rv] 4 false)).get h8.next=some (.cells [.int .i64 ((vsM n E (nI bk)).length:Nat),ed,nm,rv] 4 false):=by rw[AH.get_new,if_pos rfl]
  have n9:(h8.new (.cells [.int .i64 ((vsM n E (nI bk)).length:Nat),ed,nm,rv] 4 false)).next=h8.next+1:=rfl;obtain⟨dc,do_⟩:=ja8.cells;obtain⟨mc,mo⟩:=ka.cells;have snm8:SlI h8 nm (vsM n E (nI bk)):=snm7.cong λb o m c e'=>by
   have:=nmb b o m c e';exact jk8 _ this.2 om
  have hpc:PartC (h8.new (.cells [.int .i64 ((vsM n E (nI bk)).length:Nat),ed,nm,rv] 4 false)) a (.int .i64 ((vsM n E (nI bk)).length:Nat),ed,nm,rv) (rS n E bk):=by
   refine⟨rfl,(Mq (f:=eE) om (λ_=>rfl) ja8).ext x9 (ab _),snm8.ext x9 (ab _),(hNI jx8).ext x9 (ab _),λb o m c o' m' c' e1 e2=>?_,λb o m c o' m' c' e1 e2=>?_,λb o m c o' m' c' e1 e2=>?_⟩
   ·have h1:=ja.lt e2;rcases ja8 with ⟨rfl,_⟩|⟨b',m',hb',rfl,_⟩
    ·cases e1
    ·cases e1; omega
   ·have h1:=ja.lt e2;have h2:=(nmb _ _ _ _ e1).1;omega
   ·have h1:=hrvlt _ _ _ _ e1;have h2:=jb _ _ _ _ e2;rcases i1 with ⟨rfl,_⟩|⟨b',m',hb',rfl,_⟩
    ·cases e1
    ·cases e1; omega
  obtain⟨a',h10,a10,i10,x10,n10,f10,k10⟩:=((ja.ext jx8 (ab _)).ext x9 (ab _)).push (q:=h8.next) (by rw[n9]; have:=jx8.nx; omega) hpc g9 (by have:=jx8.nx; omega) (λb m e=>by have:=ja.lt e; have:=jx8.nx; omega) (by rw[ai,aS]; omega);refine aj (by simp only[am,aK,simprocAttr,e3,e6,rP8,dc,do_,mc,mo,rc,ro,dP,a10]<;>rfl) ?_;have n8:=jx8.nx;refine⟨a',⟨jx.trans ((jx8.mono om).trans ((x9.mono om).trans x10)),λc hc hne=>?_,?_,λb o m c e=>?_⟩,_,(M2 e5 w5),H2 e1 e4⟩
  ·rw[k10 c om (λb m e=>by have:=jb _ _ _ _ e; omega),x9.gt _ om,jx8.gt _ om];exact jk c hc hne
  ·rw[aG hk,cj,hbk];exact i10
  ·have:=f10 b o m c e;rw[n9] at this;omega
 ·rintro a ts h4 ⟨jx,jk,ja,jb⟩ ⟨e1,e3,e4,e5,-⟩;simp only at e3;rw[bp] at ja;have ac:=ja.cells;refine ae (aj (M1 e3) ?_);refine br ⟨_,(by simp only[rs,rf21,am,aK,simprocAttr,ac.1]<;>rfl),X3.trans (jx.mono om),l,hlst,?_⟩;rw[hBc];exact ja.mono om
open Go.Am
open Go.Blk (Gr Lst canon IsBlock Cls Rel)
theorem Ae {g:Gr}{l:Nat→Nat} (hl:Lst g l) {b:List Nat} (hb:b∈canon g.m l):IsBlock g b:=by
 unfold canon at hb;obtain⟨i,hi,rfl⟩:=bB.1 hb;rw[bj,bF,beq_iff_eq] at hi;refine⟨λe=>?_,λj hj k hk=>?_,λj hj k r=>?_⟩
 ·have:i∈(List.range g.m).filter λk=>l k==i:=by rw[bj,bF,beq_iff_eq]; exact hi
  rw[e] at this;cases this
 ·rw[bj,bF,beq_iff_eq] at hj hk;exact (hl.iff hj.1 hk.1).1 (hj.2.trans hk.2.symm)
 ·rw[bj,bF,beq_iff_eq] at hj ⊢;have hk:k<g.m:=by obtain⟨x,_,q,_⟩:=r; exact q.1
  exact⟨hk,(hl.same j k hj.1 hk r).symm.trans hj.2⟩
theorem Cj:∀ (l:List Int) (v:Int),l.Pairwise (·<·)→v∈l→l[l.countP λu=>decide (u<v)]?=some v
 | [],v,_,h=>by cases h
 | a::l,v,hp,h=>by
   obtain⟨p1,p2⟩:=cX.1 hp;by_cases e:v=a
   ·subst e;have:(v::l).countP (λu=>decide (u<v))=0:=by
     rw[jM];intro u hu;rcases aA.1 hu with rfl|hu
     ·simp
     ·have:=p1 u hu;simp only[aJ]; omega
    rw[this]; rfl
   ·have hm:v∈l:=by
     rcases aA.1 h with q|q
     ·exact absurd q e
     ·exact q
    have:=p1 v hm;rw[fL (by simp only[aJ]; omega),dy];exact Cj l v p2 hm
theorem jQ {n:Nat}{E:List (Int×Int)}{es:List Int}{v:Int} (h:v∈vsM n E es):(vsM n E es)[cV n E es v]?=some v:=Cj _ v (pJ n E es) h
theorem oA {n:Nat}{E:List (Int×Int)}{es:List Int}{v:Int} (h:v∈vsM n E es):cV n E es v<(vsM n E es).length:=(aI.1 (jQ h)).1
theorem kG {n:Nat}{E:List (Int×Int)}{es:List Int}{v w:Int} (h1:v∈vsM n E es) (h2:w∈vsM n E es) (e:cV n E es v=cV n E es w):v=w:=by
 have a:=jQ h1;have b:=jQ h2;rw[e,b] at a;exact (Option.some.inj a).symm
theorem FM {l:List Nat} (hn:l.Nodup) (h:∀ a∈l,∀ b∈l,a=b):l.length≤1:=by
 match l,hn,h with
 | [],_,_=>simp
 | [a],_,_=>simp
 | a::b::r,hn,h =>
   have:=h a (by simp) b (by simp);subst this;simp at hn
theorem rY {E:List (Int×Int)}{x:Int}:∀ (i:Nat),(dr (λe=>decide (e.2=x)) E i).length=0↔∀ e∈E,e.2≠x:=by
 induction E with
 | nil=>intro i; simp [dr]
 | cons e E ih =>
   intro i;unfold dr;by_cases q:e.2=x
   ·simp [q]
   ·simp only[q,decide_false,bL,if_false];rw[ih (i+1)];constructor
    ·intro h e' he';rcases aA.1 he' with rfl|he'
     ·exact q
     ·exact h e' he'
    ·exact λh e' he'=>h e' (bw _ he')
theorem DP {n:Nat}{E:List (Int×Int)} (hg:gJ (n:Nat) E) (hE:InG n E) (hL:∀ i,i<E.length→tlE E i≠hdE E i) {l:Nat→Nat} (hl:Lst (grE n E hE hL) l) {b:List Nat} (hb:b∈canon E.length l) :
 gJ (((vsM n E (nI b)).length:Nat):Int) (fO n E (nI b)):=by
 obtain⟨k1,k2,k3,k4⟩:=jD hb;obtain⟨hm,_,hnd,⟨rk,hrk⟩,hsrc⟩:=hg;obtain⟨m1,m2,m3,m4⟩:=iQ hm;have hbk:=Ae (g:=grE n E hE hL) hl hb;have hvl:=qw n E (nI b);have hsl:(fO n E (nI b)).length=b.length:=by unfold fO; rw[ai,fE]
 have hend:=λi (hi:i∈b)=>mG hE k2 hi;have hsub:∀ e,e∈fO n E (nI b)↔∃ i∈b,e=(((cV n E (nI b) (tlE E i:Nat):Nat):Int),((cV n E (nI b) (hdE E i:Nat):Nat):Int)):=λe=>by
  unfold fO nI;rw[bB];constructor
  ·rintro⟨j,h1,rfl⟩;obtain⟨i,h2,rfl⟩:=bB.1 h1;exact⟨i,h2,by rw[lD hE (k2 i h2)]⟩
  ·rintro⟨i,h1,rfl⟩;exact⟨_,bB.2 ⟨i,h1,rfl⟩,by rw[lD hE (k2 i h1)]⟩
 obtain⟨i0,hi0⟩:∃ i,i∈b:=by
  cases b with
  | nil=>exact absurd rfl k1
  | cons a r=>exact⟨a,bd ..⟩
 have hpos:0<(vsM n E (nI b)).length:=uH (hend i0 hi0).1;refine⟨?_,?_,?_,?_,?_⟩
 ·unfold fy;simp only[aM,aJ,bD];refine⟨⟨⟨om,om⟩,by rw[hsl]; omega⟩,λe he=>?_⟩;obtain⟨i,hi,rfl⟩:=(hsub e).1 he;have h1:=oA (hend i hi).1;have h2:=oA (hend i hi).2;simp only[okE,aM,aJ];omega
 ·intro e he;obtain⟨i,hi,rfl⟩:=(hsub e).1 he;intro q;have q:cV n E (nI b) (tlE E i:Nat)=cV n E (nI b) (hdE E i:Nat):=by simp only at q; omega
  have:=kG (hend i hi).1 (hend i hi).2 q;exact hL i (k2 i hi) om
 ·have key:fO n E (nI b)=b.map λi=>(((cV n E (nI b) (tlE E i:Nat):Nat):Int),((cV n E (nI b) (hdE E i:Nat):Nat):Int)):=by
   unfold fO
   conv=>lhs; arg 2; unfold nI
   rw[gQ];refine cK λi hi=>?_;show (((cV n E (nI b) (edM E ((i:Nat):Int)).1:Nat):Int),((cV n E (nI b) (edM E ((i:Nat):Int)).2:Nat):Int))=_;rw[lD hE (k2 i hi)]
  rw[key];unfold List.Nodup;rw[eP];refine List.Pairwise.imp_of_mem ?_ k4;intro i k hi hk hne e;simp only[ar] at e;have e1:=kG (hend i hi).1 (hend k hk).1 om;have e2:=kG (hend i hi).2 (hend k hk).2 om;have q1:=(hE i (k2 i hi)).1;have q2:=(hE k (k2 k hk)).1;have:E[i]'(k2 i hi)=E[k]'(k2 k hk):=by rw[q1,q2,e1,e2]
  exact hne ((List.getElem_inj hnd).1 this)
 ·refine⟨λj=>rk ((vsM n E (nI b)).getD j.toNat 0),λe he=>?_⟩;obtain⟨i,hi,rfl⟩:=(hsub e).1 he;have h1:=jQ (hend i hi).1;have h2:=jQ (hend i hi).2;simp only[aY];rw[aL,aL,h1,h2];have:=hrk _ (aP (k2 i hi));rw[(hE i (k2 i hi)).1] at this;exact this
 ·rw[aY];unfold je;rw[ai];refine FM (List.nodup_range.filter _) λa ha c hc=>?_;rw[bj,bF,beq_iff_eq] at ha hc;obtain⟨s,hs⟩:∃ s,∀ v,v<n→v≠s→∃ i,i<E.length∧hdE E i=v:=by
   have hsr:∀ v,v<n→(¬ ∃ i,i<E.length∧hdE E i=v)→((v:Nat):Int)∈je n E:=λv hv hno=>by
    unfold je;refine bB.2 ⟨v,?_,rfl⟩;rw[bj,bF,beq_iff_eq];refine⟨hv,(rY 0).2 λe he q=>hno ?_⟩;obtain⟨i,hi,rfl⟩:=List.getElem_of_mem he;rw[(hE i hi).1] at q;exact⟨i,hi,by simp only at q; omega⟩
   rw[aY] at hsrc
   match hsl:je n E,hsrc with
   | [],_=>exact⟨0,λv hv _=>Classical.byContradiction λh=>by have:=hsr v hv h; rw[hsl] at this; cases this⟩
   | [z],_=>exact⟨z.toNat,λv hv hne=>Classical.byContradiction λh=>by
    have:=hsr v hv h;rw[hsl,iJ] at this;omega⟩
  have hr:∀ i,i<E.length→rk ((tlE E i:Nat):Int)<rk ((hdE E i:Nat):Int):=λi hi=>by
   have:=hrk _ (aP hi);rw[(hE i hi).1] at this;exact this
  have key:∀ a,a<(vsM n E (nI b)).length∧(dg (fO n E (nI b)) ((a:Nat):Int)).length=0→∃ v:Nat,(vsM n E (nI b))[a]?=some ((v:Nat):Int)∧(∃ e∈b,(grE n E hE hL).inc e v)∧∀ i∈b,hdE E i≠v:=by
   rintro a ⟨h1,h2⟩;have hv:=aP h1;have hv2:∀ x∈vsM n E (nI b),(0≤x∧x<(n:Nat))∧x∈gI E (nI b):=λx hx=>by
    unfold vsM at hx;rw[bj,gf,aJ] at hx;exact hx
   have hv':=hv2 _ hv;obtain⟨v,ev⟩:∃ v:Nat,(vsM n E (nI b))[a]=((v:Nat):Int):=⟨((vsM n E (nI b))[a]).toNat,om⟩
   refine⟨v,by rw[aq h1,ev],?_,λi hi q=>?_⟩
   ·have h3:=hv'.2;rw[ev] at h3;have h4:=Aj hE k2 v;rw[aH h3,Iz] at h4;obtain⟨e,he,hq⟩:=h4;simp only[cZ,aJ] at hq;exact⟨e,he,k2 e he,hq⟩
   ·refine (rY 0).1 h2 _ ((hsub _).2 ⟨i,hi,rfl⟩) ?_;have h5:=jQ (hend i hi).2;rw[q,← ev] at h5;have hra:cV n E (nI b) ((v:Nat):Int)=a:=by
     rw[← ev];have hlt:cV n E (nI b) (vsM n E (nI b))[a]<(vsM n E (nI b)).length:=oA hv;have hp:=pJ n E (nI b);have e1:(vsM n E (nI b))[cV n E (nI b) (vsM n E (nI b))[a]]=(vsM n E (nI b))[a]:=by
      have:=jQ hv;rw[aq hlt] at this;exact Option.some.inj this
     rw[gC] at hp;rcases lN (cV n E (nI b) (vsM n E (nI b))[a]) a with h|h|h
     ·have:=hp _ _ hlt h1 h; omega
     ·exact h
     ·have:=hp _ _ h1 hlt h; omega
    show ((cV n E (nI b) ((hdE E i:Nat):Int):Nat):Int)=_;rw[q,hra]
  obtain⟨v,v1,⟨e,v2,v3⟩,v4⟩:=key a ha;obtain⟨w,w1,⟨f,w2,w3⟩,w4⟩:=key c hc;have hvw:v=w:=Go.Blk.one_source (g:=grE n E hE hL) (r:=λx=>rk ((x:Nat):Int)) hr hs hbk v2 v3 v4 w2 w3 w4;subst hvw;obtain⟨a1,a2⟩:=aI.1 v1;obtain⟨c1,c2⟩:=aI.1 w1;have hp:=pJ n E (nI b);rw[gC] at hp;rcases lN a c with h|h|h
  ·have:=hp _ _ a1 c1 h; omega
  ·exact h
  ·have:=hp _ _ c1 a1 h; omega
end Go.Proofs.YtahepnbflofndaaGreatDoor
