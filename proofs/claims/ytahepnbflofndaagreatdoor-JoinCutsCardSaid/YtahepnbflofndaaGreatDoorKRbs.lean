/- arborref04.Blocks -/
import Derived.Test.YtahepnbflofndaaGreatDoorKBlw
import Derived.Test.YtahepnbflofndaaGreatDoorKNh
set_option linter.all false
namespace Go.Proofs.YtahepnbflofndaaGreatDoor
open Go.Am
open Go.Blk (Gr Lst canon)
def EQ (m:Nat) (l:Nat→Nat) (i:Nat):List (List Nat):=((List.range i).filter λi=>l i==i).map λi=>(List.range m).filter λk=>l k==i
def rowC (l:Nat→Nat) (i k:Nat):List Nat:=(List.range k).filter λk=>l k==i
theorem wx {m i:Nat}{l:Nat→Nat}:EQ m l (i+1)=EQ m l i++if l i=i then [rowC l i m] else []:=by
 unfold EQ;rw[du,bI,cj];congr 1;by_cases q:l i=i
 ·rw[if_pos q,eZ (by simpa using q)]; rfl
 ·rw[if_neg q,fc (by simpa using q)]; rfl
theorem HZ {m:Nat}{l:Nat→Nat} (i:Nat):(EQ m l i).length≤i:=by
 unfold EQ;rw[ai];have:=dj (λi=>l i==i) (List.range i);rwa [cL] at this
theorem vq {i k:Nat}{l:Nat→Nat}:rowC l i (k+1)=rowC l i k++if l k=i then [k] else []:=by
 unfold rowC;rw[du,bI];congr 1;by_cases q:l k=i
 ·rw[if_pos q,eZ (by simpa using q)]; rfl
 ·rw[if_neg q,fc (by simpa using q)]; rfl
theorem FY {i:Nat}{l:Nat→Nat} (k:Nat):(rowC l i k).length≤k:=by
 unfold rowC;have:=dj (λk=>l k==i) (List.range k);rwa [cL] at this
theorem LL.nil {h:AH}{lo b:Nat} (hb:lo≤b) (hg:h.get b=some (.cells [] 1 false)):LL h lo (.sl b 0 0 0) [] :=
 ⟨[],.inr ⟨b,0,hb,rfl,hg,rfl⟩,rfl,λi v xs e=>by simp at e⟩
set_option maxHeartbeats 2000000 in
theorem AM {h:AH}{n:Nat}{ev:AV}{E:List (Int×Int)} (he:SlE h ev E) (hE:InG n E) (hL:∀ i,i<E.length→tlE E i≠hdE E i) (hxl:E.length<2 ^ 30) (hnl:n<2 ^ 30) :
 C prg 54 [.agg (gW n ev)] h λr h'=>∃ l,Lst (grE n E hE hL) l∧Ext h.next h h'∧LL h' h.next r (canon E.length l):=by
 obtain⟨ec,eo⟩:=he.cells;have hB:∀ {h':AH},SlE h' ev E→_:=fun {h'} q=>DJ (n:=n) q hE hL hxl hnl;unfold gW at hB ⊢;refine Mw pf54 ?_;refine ae (aj (Mi0) ?_);have x0:Ext h.next h (h.new (.cells [.int .i64 (n:Nat),ev] 2 false)):=Mt (ab _);have g0:(h.new (.cells [.int .i64 (n:Nat),ev] 2 false)).get h.next=some (.cells [.int .i64 (n:Nat),ev] 2 false):=by rw[AH.get_new,if_pos rfl]
 have n0:(h.new (.cells [.int .i64 (n:Nat),ev] 2 false)).next=h.next+1:=rfl;generalize (h.new (.cells [.int .i64 (n:Nat),ev] 2 false))=h1 at *
 have rA:ak h1 h.next 0 2=some [.int .i64 (n:Nat),ev]:=by rw[aU g0]; rfl
 refine ae (bN (bo 1 (Mi1 rA) rfl (Zi1 rA) (Mi1 rA) (hB (he.ext x0 (ab _))) λr h2 hq=>?_));obtain⟨b,l,rfl,hb,x2,g2,lst⟩:=hq;refine bH (M0) ?_;have hb2:=AH.lt_of_get g2;have X2:Ext h.next h h2:=x0.trans (x2.mono om);have x3:Ext h2.next h2 (h2.new (.cells [] 1 false)):=Mt (ab _);have g3:(h2.new (.cells [] 1 false)).get h2.next=some (.cells [] 1 false):=by rw[AH.get_new,if_pos rfl]
 refine ae (aj (M0) ?_);generalize (h2.new (.cells [] 1 false))=h3 at *
 refine ae (ae (aj (M0) ?_))
 refine dV (α:=AV) (N:=E.length) (λi a=>[(3,.sl b 0 E.length E.length),(4,a),(5,.int .i64 (i:Nat))])
  (λi a h'=>Ext h2.next h2 h'∧LL h' h2.next a (EQ E.length l i)) (.sl h2.next 0 0 0) (H1 @bh)
  ⟨x3,LL.nil (ab _) g3⟩ ?_ ?_ ?_
 ·rintro i a ts h4 hi ⟨jx,ja⟩ ⟨e3,e4,e5,-⟩;simp only at e3 e4 e5;exact⟨_,(M3 e3 e5 @bz),Z0,H3 e3 e4 e5⟩
 ·rintro i a ts h4 hi ⟨jx,ja⟩ ⟨e3,e4,e5,-⟩;simp only at e3 e4 e5;have w5:=dT (k:=i) om;have n4:=jx.nx;have ii:eR ((i:Nat):Int) E.length=some i:=cJ hi;have g4:h4.get b=some (.cells (il E.length λi=>((l i:Nat):Int)) 1 false):=by rw[jx.gt _ hb2]; exact g2
  have rsi:ak h4 b i 1=some [.int .i64 (l i:Nat)]:=bm g4 (kN hi);by_cases q:l i=i
  ·have c1:(!decide (((l i:Nat):Int)=((i:Nat):Int)))=false:=by rw[aH om]; rfl
   refine ae (ae (aj (M6 e3 e5 ii @aO rsi c1) ?_));refine dL (Z0) (bu ?_);have x5:Ext h4.next h4 (h4.new (.cells [] 1 false)):=Mt (ab _);have g5:(h4.new (.cells [] 1 false)).get h4.next=some (.cells [] 1 false):=by rw[AH.get_new,if_pos rfl]
   refine ae (aj (M0) ?_);generalize (h4.new (.cells [] 1 false))=h5 at *
   refine ae (ae (aj (M0) ?_))
   refine dV (α:=AV) (N:=E.length) (λk r=>[(3,.sl b 0 E.length E.length),(4,a),(5,.int .i64 (i:Nat)),(6,r),(7,.int .i64 (k:Nat))])
    (λk r h'=>Ext h4.next h4 h'∧IsSl h' 1 h4.next r (nC (rowC l i k))) (.sl h4.next 0 0 0) (H4 e3 e4 e5 @bh)
    ⟨x5,.inr ⟨h4.next,0,ab _,rfl,g5,rfl⟩⟩ ?_ ?_ ?_
   ·clear e3 e4 e5;rintro k r ts h6 hk ⟨kx,ka⟩ ⟨e3,e4,e5,e6,e7,-⟩;simp only at e3 e4 e5 e6 e7;exact⟨_,(M3 e3 e7 @bz),Z0,H5 e3 e4 e5 e6 e7⟩
   ·clear e3 e4 e5;rintro k r ts h6 hk ⟨kx,ka⟩ ⟨e3,e4,e5,e6,e7,-⟩;simp only at e3 e4 e5 e6 e7;have w7:=dT (k:=k) om;have ik:eR ((k:Nat):Int) E.length=some k:=cJ hk;have g6:h6.get b=some (.cells (il E.length λi=>((l i:Nat):Int)) 1 false):=by rw[kx.gt _ om]; exact g4
    have rk:ak h6 b k 1=some [.int .i64 (l k:Nat)]:=bm g6 (kN hk);by_cases q2:l k=i
    ·have c2:decide (((l k:Nat):Int)=((i:Nat):Int))=true:=aH om;have hrl:=FY (l:=l) (i:=i) k;obtain⟨r',h7,a7,i7,x7,n7⟩:=ka.push (bytes:=8) [.int .i64 (k:Nat)] (by have:=kx.nx; omega) om rfl rfl (by rw[Gx,dF]; unfold aW; omega) (by rw[Gx,dF]; unfold aW; omega);refine ae (aj (M7 e3 e5 e7 ik @aO rk c2) ?_);refine db (Z0) ?_;refine aj (M3 e6 e7 a7) ?_;refine⟨r',⟨kx.trans (x7.mono (ab _)),?_⟩,_,(M2 e7 w7),H3 e3 e4 e5⟩;rw[vq,if_pos q2,LX];exact i7
    ·have c2:decide (((l k:Nat):Int)=((i:Nat):Int))=false:=aw om;refine ae (aj (M7 e3 e5 e7 ik @aO rk c2) ?_);refine dL (Z0) (bu ?_);refine⟨r,⟨kx,?_⟩,_,(M2 e7 w7),H4 e3 e4 e5 e6⟩;rw[vq,if_neg q2,bO];exact ka
   ·clear e3 e4 e5;rintro r ts h6 ⟨kx,ka⟩ ⟨e3,e4,e5,e6,e7,-⟩;simp only at e3 e4 e5 e6;have n6:=kx.nx;have g7:(h6.new (.cells [r] 1 false)).get h6.next=some (.cells [r] 1 false):=by rw[AH.get_new,if_pos rfl]
    have x7:Ext h6.next h6 (h6.new (.cells [r] 1 false)):=Mt (ab _);have n7:(h6.new (.cells [r] 1 false)).next=h6.next+1:=rfl;have hcl:=HZ (m:=E.length) (l:=l) i;have rc:=ka.cells;obtain⟨a',h8,a8,i8,x8,_⟩:=((ja.ext kx (ab _)).ext x7 (ab _)).push (x:=h6.next) (v:=r) (xs:=rowC l i E.length) om ((ka.ext x7 (ab _)).mono n4) g7 om (λb' m e=>by
     have:=LL.lt ja e; omega) (λb1 m1 b2 m2 e1 e2=>by
     have h1:=LL.lt ja e2;rcases ka with ⟨rfl,_⟩|⟨b',m',hb',rfl,_⟩
     ·cases e1
     ·cases e1; omega) (by unfold aW; omega)
    refine aj (by simp only[am,aK,simprocAttr,e4,e6,rc.1,rc.2,a8]<;>rfl) ?_;refine⟨a',⟨jx.trans ((kx.mono n4).trans ((x7.mono om).trans x8)),?_⟩,_,(M2 e5 w5),H1 e3⟩;rw[wx,if_pos q];exact i8
  ·have c1:(!decide (((l i:Nat):Int)=((i:Nat):Int)))=true:=by rw[aw om]; rfl
   refine ae (ae (aj (M6 e3 e5 ii @aO rsi c1) ?_));refine db (Z0) (fB ?_);refine⟨λ_=>?_,λq=>absurd rfl q⟩;refine⟨a,⟨jx,?_⟩,_,(M2 e5 w5),H2 e3 e4⟩;rw[wx,if_neg q,bO];exact ja
 ·rintro a ts h4 ⟨jx,ja⟩ ⟨e3,e4,e5,-⟩;simp only at e4;obtain⟨vs,j1,j2⟩:=ja;have ac:=j1.cells;refine ae (aj (M1 e4) ?_);exact br ⟨a,(by simp only[rs,rf54,am,aK,simprocAttr,ac.1]<;>rfl),l,lst,X2.trans (jx.mono X2.nx),LL.mono ⟨vs,j1,j2⟩ X2.nx⟩
theorem JK {h:AH}{n x:Nat}{ev bv:AV}{E:List (Int×Int)}{b:List Nat} (he:SlE h ev E) (hb:SlN h bv b) (hE:InG n E) (hlt:∀ i∈b,i<E.length) (hbl:b.length<2 ^ 40) :
 C prg 55 [.agg (gW n ev),bv,.int .i64 (x:Nat)] h λr h'=>r=.bool (b.any λi=>decide (tlE E i=x)||decide (hdE E i=x))∧Ext h.next h h':=by
 obtain⟨ec,eo⟩:=he.cells;have bl':=hb.len;rw[ai,ai] at bl';unfold gW;refine Mw pf55 ?_;refine ae (aj (Mi0) ?_);have x0:Ext h.next h (h.new (.cells [.int .i64 (n:Nat),ev] 2 false)):=Mt (ab _);have g0:(h.new (.cells [.int .i64 (n:Nat),ev] 2 false)).get h.next=some (.cells [.int .i64 (n:Nat),ev] 2 false):=by rw[AH.get_new,if_pos rfl]
 have n0:(h.new (.cells [.int .i64 (n:Nat),ev] 2 false)).next=h.next+1:=rfl;generalize (h.new (.cells [.int .i64 (n:Nat),ev] 2 false))=h1 at *
 refine ae (ae (aj (Mi0) ?_))
 refine dV (α:=Unit) (N:=b.length) (λk _=>[(1,bv),(2,.int .i64 (x:Nat)),(3,.ptr h.next 0),(7,.int .i64 (k:Nat))])
  (λk _ h'=>Ext h.next h h'∧h.next+1≤h'.next∧h'.get h.next=some (.cells [.int .i64 (n:Nat),ev] 2 false)∧(b.take k).any (λi=>decide (tlE E i=x)||decide (hdE E i=x))=false) () (Hi1 @bh) ⟨x0,om,g0,by simp⟩ ?_ ?_ ?_
 ·rintro k _ ts h2 hk ⟨jx,jn,jg,ja⟩ ⟨e1,e2,e3,e7,-⟩;simp only at e1 e2 e3 e7;exact⟨_,(M4 e1 e7 bl' @bz),Z0,H4 e1 e2 e3 e7⟩
 ·rintro k _ ts h2 hk ⟨jx,jn,jg,ja⟩ ⟨e1,e2,e3,e7,-⟩;simp only at e1 e2 e3 e7;have w7:=dT (k:=k) om;have him:=hlt _ (aP hk);obtain⟨q1,q2,q3⟩:=hE _ him;have rE:ak h2 h.next 1 1=some [ev]:=bm jg rfl;obtain⟨b1,p1,a1,r1,_⟩:=(hb.ext jx (ab _)).at1 (i:=k) (y:=.int .i64 (b[k]:Nat)) (by rw[aX,aX,aq hk]; rfl);obtain⟨b2,p2,a2,r2,_⟩:=(he.ext jx (ab _)).at (cq (f:=eE) him);rw[q1] at r2;have hst:(b.take (k+1)).any (λi=>decide (tlE E i=x)||decide (hdE E i=x))=((b.take k).any (λi=>decide (tlE E i=x)||decide (hdE E i=x))||(decide (tlE E b[k]=x)||decide (hdE E b[k]=x))):=by
   rw[aG hk,List.any_append];simp
  have hall:b.any (λi=>decide (tlE E i=x)||decide (hdE E i=x))=((b.take (k+1)).any (λi=>decide (tlE E i=x)||decide (hdE E i=x))||(b.drop (k+1)).any (λi=>decide (tlE E i=x)||decide (hdE E i=x))):=by
   rw[← List.any_append,cD]
  generalize b[k]=i at *
  obtain⟨h3,w3,x3,g3,n3⟩:=im (h:=h2) (z:=[.int .i64 0,.int .i64 0]) (cs:=[.int .i64 (tlE E i:Nat),.int .i64 (hdE E i:Nat)]) (e:=2) rfl;refine ae (aj (by simp only[am,aK,simprocAttr,e1,e3,e7,rE,a1,r1,a2,r2,eE,w3]<;>rfl) ?_);have ra:ak h3 h2.next 0 1=some [.int .i64 (tlE E i:Nat)]:=bm g3 rfl;have rb:ak h3 h2.next 1 1=some [.int .i64 (hdE E i:Nat)]:=bm g3 rfl;have X3:=jx.trans (x3.mono om);by_cases k1:tlE E i=x
  ·have c1:decide (((tlE E i:Nat):Int)=((x:Nat):Int))=true:=aH om;refine ae (aj (M3 e2 ra c1) ?_);refine db (Z0) (ae (aj (M0) ?_));refine br ⟨.bool true,(by simp only[rs,rf55,am,aK,simprocAttr]<;>rfl),?_,X3⟩;rw[hall,hst,aH k1];simp
  have c1:decide (((tlE E i:Nat):Int)=((x:Nat):Int))=false:=aw om;by_cases k2:hdE E i=x
  ·have c2:decide (((hdE E i:Nat):Int)=((x:Nat):Int))=true:=aH om;refine ae (aj (M5 e2 ra rb c1 c2) ?_);refine db (Z0) (ae (aj (M0) ?_));refine br ⟨.bool true,(by simp only[rs,rf55,am,aK,simprocAttr]<;>rfl),?_,X3⟩;rw[hall,hst,aH k2];simp
  have c2:decide (((hdE E i:Nat):Int)=((x:Nat):Int))=false:=aw om;refine ae (aj (M5 e2 ra rb c1 c2) ?_);refine dL (Z0) (bu ?_);refine⟨(),⟨X3,by have:=x3.nx; omega,by rw[x3.gt _ om]; exact jg,?_⟩,_,(M2 e7 w7),H3 e1 e2 e3⟩;rw[hst,ja,aw k1,aw k2];rfl
 ·rintro _ ts h2 ⟨jx,jn,jg,ja⟩ _;refine ae (aj (M0) ?_);rw[bp] at ja;exact br ⟨.bool false,(by simp only[rs,rf55,am,aK,simprocAttr]<;>rfl),by rw[ja],jx⟩
theorem pP {h:AH}{v:AV}{xs:List Int}{x:Int} (hv:SlI h v xs) (hxl:xs.length<2 ^ 40):C prg 56 [v,.int .i64 x] h λr h'=>r=.int .i64 (dW (x==·) xs 0)∧h'=h:=by
 have el:=hv.len;rw[ai] at el;refine Mw pf56 ?_;refine ae (aj (Mi0) ?_);refine ae (ae (aj (Mi0) ?_))
 refine dV (α:=Unit) (N:=xs.length) (λk _=>[(0,v),(1,.int .i64 x),(5,.int .i64 (k:Nat))])
  (λk _ h'=>h'=h∧dW (x==·) xs 0=dW (x==·) (xs.drop k) k) () (Hi1 @bh) ⟨rfl,rfl⟩ ?_ ?_ ?_
 ·rintro k _ ts h2 hk ⟨rfl,ja⟩ ⟨e0,e1,e5,-⟩;simp only at e0 e1 e5;exact⟨_,(M4 e0 e5 el @bz),Z0,H3 e0 e1 e5⟩
 ·rintro k _ ts h2 hk ⟨rfl,ja⟩ ⟨e0,e1,e5,-⟩;simp only at e0 e1 e5;have w5:=dT (k:=k) om;obtain⟨b1,p1,a1,r1,_⟩:=hv.at1 (cq (f:=eI) hk);rw[fJ _ hk] at ja;by_cases q:xs[k]=x
  ·have c1:decide (xs[k]=x)=true:=aH q;refine ae (aj (M6 e0 e1 e5 a1 r1 c1) ?_);refine db (Z0) (ae (aj (M1 e5) ?_));exact br ⟨_,(by simp only[rs,rf56,am,aK,simprocAttr]<;>rfl),by rw[ja,if_pos (by simp [q])],rfl⟩
  ·have c1:decide (xs[k]=x)=false:=aw q;refine ae (aj (M6 e0 e1 e5 a1 r1 c1) ?_);refine dL (Z0) (bu ?_);exact⟨(),⟨rfl,by rw[ja,if_neg (by rw[beq_iff_eq]; exact λe=>q e.symm)]⟩,_,(M2 e5 w5),H2 e0 e1⟩
 ·rintro _ ts h2 ⟨rfl,ja⟩ _;refine ae (aj (M0) ?_);refine br ⟨.int .i64 (-1),(by simp only[rs,rf56,am,aK,simprocAttr]<;>rfl),?_,rfl⟩;rw[ja,dG (ab _)];rfl
end Go.Proofs.YtahepnbflofndaaGreatDoor
