/- front -/
import Derived.Test.YtklpoimdclflmaaGreatDoorTTAH
set_option linter.all false
namespace Go.Proofs.YtklpoimdclflmaaGreatDoor
open Go.Am
variable {es:List (Int×Int)}{ev ordv outv:AV}{fb n pb:Nat}{h:AH}{order pl:List Int}{outs:List (List Int)}{row:List It}{x:Int}
def IsFront.bounds(hf:IsFront h fb pb n es row pl):1<=n/\n<=64/\es.length<=128/\es.all (okE n)=true:=by
 obtain⟨iv,vp,pv,hV,g,si,so,vv,vx,v1,v2,v3,pp⟩:=hf;obtain⟨_,_,_,_,_,_,_,_,_,_,_,_,_,_,_,q⟩:=vv;exact q
def Md(hf:IsFront h fb pb n es row pl)(hl:row.length<2^30):C prg 35 [.ptr fb 0] h λr h'=>IsSl h' 3 h.next r (row.flatMap eT)/\Ext h.next h h':=by
 obtain⟨iv,vp,pv,hV,g,si,so,vv,vx,v1,v2,v3,pp⟩:=hf;have r1:ai h fb 0 1=some [iv]:=bq g rfl;refine Oj rfl ?_;refine ae (ak (Mi0) ?_);refine ae (bM (bj 4 (Mi1 r1) rfl (Zi1 r1) (Mi1 r1) (xR si om) λr h1 hq=>?_));obtain⟨i1,x1,_⟩:=hq;refine bI (M0) ?_;exact bu ⟨_,(by simp only[rs,rf35,am,aL,simprocAttr]<;>rfl),i1,x1⟩
def Mh{n:Int}(he:SlE h ev es)(hl:es.length<2^30) :
 C prg 32 [.agg [.int .i64 n,ev]] h λr h'=>Ext h.next h h'/\((ft n es/\∃fb,h.next<=fb/\r=.tup [.ptr fb 0,.int .i64 0]/\IsFront h' fb fb n.toNat es [] [])\/(¬ft n es/\r=.tup [.nilp,.int .i64 1])):=by
 obtain⟨ec,eo⟩:=he.cells;refine Oj rfl ?_;have x0:Ext h.next h (h.new (.cells [.int .i64 n,ev] 2 false)):=Oe (ab _);have g0:(h.new (.cells [.int .i64 n,ev] 2 false)).get h.next=some (.cells [.int .i64 n,ev] 2 false):=by rw[AH.get_new,if_pos rfl]
 have n0:(h.new (.cells [.int .i64 n,ev] 2 false)).next=h.next+1:=rfl;refine ae (ak (Mi0) ?_);generalize h.new (.cells [.int .i64 n,ev] 2 false)=h0 at *
 have r0:ai h0 h.next 0 2=some [.int .i64 n,ev]:=by rw[aR g0];rfl
 refine ae (ae (bM (bj 1 (Mi1 r0) rfl (Zi1 r0) (Mi1 r0) (Bv (he.ext x0 (ab _)) hl) λr h2 hq=>?_)));obtain⟨⟨c,a,v,rfl,hc⟩,x2⟩:=hq;have X2:=x0.trans (x2.mono x0.nx);refine bI (by simp only[am,aL,simprocAttr,FQ,wP]<;>rfl) ?_;refine cF (t:=!decide (c=0)) (by simp only[am,aL,simprocAttr,bT]) (λq=>?_) λq=>?_
 .have q:¬c=0:=by simpa using q
  refine ae (ak (M0) ?_);exact bu ⟨.tup [.nilp,.int .i64 1],(by simp only[rs,rf32,am,aL,simprocAttr]<;>rfl),X2,.inr ⟨λhg=>q (hc.2 hg),rfl⟩⟩
 have q:c=0:=by simpa using q
 have hg:=hc.1 q;obtain⟨nn,rfl⟩:∃nn:Nat,n=nn:=⟨n.toNat,by
  have:=hg.1;simp only[fC,aU,aK]at this;omega⟩
 refine bz ?_;have r2:ai h2 h.next 0 2=some [.int .i64 (nn:Nat),ev]:=by rw[bi (x2.gt _ om)];exact r0
 refine ae (bM (bj 1 (Mi1 r2) rfl (Zi1 r2) (Mi1 r2) (vh (he.ext X2 (ab _)) hg.1) λvp h3 hq=>?_));obtain⟨hv,x3⟩:=hq;have hvb:∃vb,vp=.ptr vb 0:=by obtain⟨b,_,_,_,_,_,hb,_⟩:=hv;exact⟨b,hb⟩
 obtain⟨vb,rfl⟩:=hvb;have X3:=X2.trans (x3.mono X2.nx);refine bI (M0) ?_;have x4:Ext h3.next h3 (h3.new (.cells [.nils,.ptr vb 0,.nils] 3 false)):=Oe (ab _);have g4:(h3.new (.cells [.nils,.ptr vb 0,.nils] 3 false)).get h3.next=some (.cells [.nils,.ptr vb 0,.nils] 3 false):=by rw[AH.get_new,if_pos rfl]
 have n4:(h3.new (.cells [.nils,.ptr vb 0,.nils] 3 false)).next=h3.next+1:=rfl;generalize h3.new (.cells [.nils,.ptr vb 0,.nils] 3 false)=h4 at *
 refine bu ⟨.tup [.ptr h3.next 0,.int .i64 0],(by simp only[rs,rf32,am,aL,simprocAttr]<;>rfl),X3.trans (x4.mono X3.nx),.inl ⟨hg,h3.next,X3.nx,rfl,?_⟩⟩;rw[aO];exact⟨.nils,.ptr vb 0,.nils,h3,g4,.inl ⟨rfl,.inl rfl⟩,λb o m c e=>(by cases e),hv,x4,ab _,ab _,om,.inl ⟨rfl,rfl,rfl⟩⟩
open Go.Am
def sP{xs ys:List Int}(hs:ys.Pairwise (·<=·)):fQ xs=ys↔xs.Perm ys:=by
 constructor
 .intro h;rw[<-h];exact(qD xs).symm
 .intro h;have h1:(fQ xs).Pairwise (λa b=>decide (a<=b)=true):=iY (by intro a b c;simp only[aK];omega) (by intro a b;simp only[dm,aK];omega) xs;refine List.Perm.eq_of_pairwise (le:=λa b:Int=>a<=b) (λa b _ _ h1 h2=>Int.le_antisymm h1 h2) (h1.imp λh=>aY h) hs ((qD xs).trans h)
def mH(p:Int×Int->Bool):∀(es:List (Int×Int)) (i:Nat),(dB p es i).Pairwise (·<=·)
 |[],i=>List.Pairwise.nil
 |y::r,i=>by
   unfold dB;split
   .refine dh.2 ⟨λz hz=>?_,mH p r (i+1)⟩;obtain⟨j,hj,_⟩:=gX p r (i+1) _ hz;omega
   .exact mH p r (i+1)
def uK{l:List Int}:fQ l=dJ es x↔OutsOk es x l:=sP (mH _ _ _)
def jX(n:Nat):List Int:=(List.range n).map λx=>((x:Nat):Int)
def kK(n:Nat):(jX n).length=n:=by simp[jX]
def fA:x∈jX n↔0<=x/\x<n:=by
 unfold jX;rw[bp];constructor
 .rintro⟨a,ha,rfl⟩;rw[aX]at ha;omega
 .rintro⟨h1,h2⟩;exact⟨x.toNat,aX.2 om,om⟩
def zJ{i:Nat}(h:i<n):(jX n)[i]?=some ((i:Nat):Int):=by
 unfold jX;rw[aV,da h];rfl
def th(n:Nat):(jX n).Pairwise (·<=·):=by
 unfold jX;rw[eN];exact List.pairwise_le_range.imp λh=>by omega
def qk(n:Nat):(jX n).Nodup:=by
 unfold jX;unfold List.Nodup;rw[eN];exact List.nodup_range.imp λh=>by omega
def PlanP(n:Nat)(es:List (Int×Int))(order:List Int)(outs:List (List Int)):Prop:=order.Perm (jX n)/\outs.length=n/\∀x:Nat,x<n->OutsOk es x (outs.getD x [])
def SlL(h:AH)(v:AV)(xss:List (List Int)):Prop:=∃ws:List AV,Sl h 1 v (ws.map λw=>[w])/\ws.length=xss.length/\∀(i:Nat) (w:AV) (xs:List Int),ws[i]?=some w->xss[i]?=some xs->SlI h w xs
def SlL.ext{h h':AH}{v:AV}{xss:List (List Int)}(hs:SlL h v xss)(hx:Ext h.next h h'):SlL h' v xss:=by
 obtain⟨ws,a,b,c⟩:=hs;exact⟨ws,a.ext hx (ab _),b,λi w xs h1 h2=>(c i w xs h1 h2).ext hx (ab _)⟩
def SlL.len{h:AH}{v:AV}{xss:List (List Int)}(hs:SlL h v xss):fP v=some (.int .i64 (xss.length:Nat)):=by
 obtain⟨ws,a,b,c⟩:=hs;have:=a.len;rw[ah,b]at this;exact this
def SlL.cells{h:AH}{v:AV}{xss:List (List Int)}(hs:SlL h v xss):v.cells=[v]/\v.one=true:=by
 obtain⟨ws,a,b,c⟩:=hs;exact a.cells
def SlL.at{v:AV}{xss:List (List Int)}(hs:SlL h v xss){k:Nat}(hk:k<xss.length):∃b p w,jZ 1 v (.int .i64 (k:Nat))=some (.ptr b p)/\ai h b p 1=some [w]/\SlI h w xss[k]/\b<h.next:=by
 obtain⟨ws,a,b,c⟩:=hs;have hw:ws[k]?=some ws[k]:=aj om;obtain⟨b1,p1,a1,r1,l1⟩:=a.at1 (i:=k) (y:=ws[k]) (by rw[aV,hw];rfl);exact⟨b1,p1,_,a1,r1,c k _ _ hw (aj hk),l1⟩
def SlTL(h:AH)(v:AV)(xss:List (List It)):Prop:=∃ws:List AV,Sl h 1 v (ws.map λw=>[w])/\ws.length=xss.length/\∀(i:Nat) (w:AV) (xs:List It),ws[i]?=some w->xss[i]?=some xs->SlT h w xs
def uh{α:Type}{xs:List α}{k:Nat}{d:α}(h:k<xs.length):xs.getD k d=xs[k]:=by
 rw[aA,aj h];rfl
def Nl{vp:AV}(hv:IsView h vp n es)(hp:SlI h ordv order)(hq:SlL h outv outs)(hl:order.length<=200)(hl2:outs.length<=200)(hl3:∀l∈outs,l.length<=200) :
 C prg 33 [vp,.agg [ordv,outv]] h λr h'=>(∃b,r=.bool b/\(b=true↔PlanP n es order outs))/\Ext h.next h h':=by
 have hv0:=hv;obtain⟨b,ev,os,is,ob,ib,rfl,g1,g2,g3,g4,g5,g6,g7,g8,m1,m2,m3,m4⟩:=hv;obtain⟨oc,oo⟩:=hp.cells;obtain⟨qc,qo⟩:=hq.cells;have lp:=hp.len;rw[ah]at lp;have lq:=hq.len;refine Oj rfl ?_;have x0:Ext h.next h (h.new (.cells [ordv,outv] 2 false)):=Oe (ab _);have g0:(h.new (.cells [ordv,outv] 2 false)).get h.next=some (.cells [ordv,outv] 2 false):=by rw[AH.get_new,if_pos rfl]
 have n0:(h.new (.cells [ordv,outv] 2 false)).next=h.next+1:=rfl;refine ae (ak (Mi0) ?_);generalize h.new (.cells [ordv,outv] 2 false)=h0 at *
 have ra:ai h0 h.next 0 1=some [ordv]:=bq g0 rfl;have rb:ai h0 h.next 1 1=some [outv]:=bq g0 rfl;have rn:ai h0 b 0 1=some [.int .i64 (n:Nat)]:=bq (by rw[x0.gt _ (AH.lt_of_get g1)];exact g1) rfl;have hcond:∃t:Bool,(t=true↔¬(outs.length=n/\order.length=n))/\((decide (((outs.length:Nat):Int)=((n:Nat):Int))=true->decide (((order.length:Nat):Int)=((n:Nat):Int))=!t)/\(decide (((outs.length:Nat):Int)=((n:Nat):Int))=false->t=true)):=by
  refine⟨decide (¬(outs.length=n/\order.length=n)),decide_eq_true_iff,λq=>?_,λq=>?_⟩
  .have q:outs.length=n:=by have:=aY q;omega
   simp only[q,true_and,decide_not,Bool.not_not,decide_eq_decide];omega
  .have q:¬outs.length=n:=by have:=bo q;omega
   simp[q]
 by_cases d1:outs.length=n/\order.length=n
 case neg =>
  have hno:¬PlanP n es order outs:=λ⟨p1,p2,_⟩=>d1 ⟨p2,by rw[p1.length_eq,kK]⟩;by_cases d2:outs.length=n
  .have c1:decide (((outs.length:Nat):Int)=((n:Nat):Int))=true:=aH om;have c2:decide (((order.length:Nat):Int)=((n:Nat):Int))=false:=aw om;refine ae (ae (ak (Mi7 rb rn ra lp lq c1 c2) ?_));refine cZ (Z0) (ae (ak (M0) ?_));exact bu ⟨.bool false,(by simp only[rs,rf33,am,aL,simprocAttr]<;>rfl),⟨false,rfl,⟨λq=>(by cases q),λq=>absurd q hno⟩⟩,x0⟩
  .have c1:decide (((outs.length:Nat):Int)=((n:Nat):Int))=false:=aw om;refine ae (ae (ak (Mi4 rb rn lq c1) ?_));refine cZ (Z0) (ae (ak (M0) ?_));exact bu ⟨.bool false,(by simp only[rs,rf33,am,aL,simprocAttr]<;>rfl),⟨false,rfl,⟨λq=>(by cases q),λq=>absurd q hno⟩⟩,x0⟩
 obtain⟨d1,d2⟩:=d1;have c1:decide (((outs.length:Nat):Int)=((n:Nat):Int))=true:=aH om;have c2:decide (((order.length:Nat):Int)=((n:Nat):Int))=true:=aH om;refine ae (ae (ak (Mi7 rb rn ra lp lq c1 c2) ?_));refine dC (Z0) (bz ?_);have hp0:=hp.ext x0 (ab _);have hq0:=hq.ext x0;refine ae (ae (bM (bj 2 (Mi1 ra) rfl (Zi1 ra) (Mi1 ra) (pA hp0.cells.1) λr h1 hq=>?_)));obtain⟨rfl,hh1⟩:=hq;have x1:Ext h0.next h0 h1:=by rw[hh1];exact Oe (ab _)
 have n1:h1.next=h0.next+1:=by rw[hh1];rfl
 have gv1:h1.get h0.next=some (.cells [ordv] 1 false):=by rw[hh1,AH.get_new,if_pos rfl]
 refine jW (Z0) (M0) (pD (bq gv1 rfl) (hp0.ext x1 (ab _)) om om) λr h2 hq=>?_;obtain⟨i2,x2⟩:=hq;have s2:SlI h2 r (fQ order):=Ob om (λ_=>rfl) i2;have l2:=s2.len;rw[ah,gH]at l2;refine bI (M1 l2) ?_;have X2:=x0.trans ((x1.trans (x2.mono om)).mono om);have g2':h2.get h.next=some (.cells [ordv,outv] 2 false):=by rw[x2.gt _ om,x1.gt _ om];exact g0
 refine fi (α:=Unit) (N:=order.length) (λ_ _=>[(32,r),(0,.ptr b 0),(3,.ptr h.next 0)]) (λk _ h'=>h'=h2/\∀j,j<k->(fQ order)[j]?=some ((j:Nat):Int)) () (λ_ _=>rfl) om (Oi0) ⟨rfl,λj hj=>absurd hj om⟩ ?_ ?_
 .rintro k _ ts h3 hk ⟨rfl,j2⟩ ⟨ei,en,e32,e0,e3,-⟩;simp only at ei en e32 e0 e3;have hk':k<(fQ order).length:=by rw[gH];exact hk
  obtain⟨b1,p1,a1,r4,_⟩:=s2.at1 (cm (f:=eI) hk');refine ae (ak (M4 e32 ei a1 r4) ?_);refine ae (ae (ak (M0) ?_));refine cF (t:=!decide ((fQ order)[k]=((k:Nat):Int))) (Z0) (λq=>?_) λq=>?_
  .have q:¬(fQ order)[k]=((k:Nat):Int):=by simpa using q
   refine ae (ak (M0) ?_);refine bu ⟨.bool false,(by simp only[rs,rf33,am,aL,simprocAttr]<;>rfl),⟨false,rfl,⟨λq=>(by cases q),λhP=>absurd ?_ q⟩⟩,X2⟩;have:=(sP (th n)).2 hP.1;have h1:=zJ (n:=n) (i:=k) om;rw[<-this,aj hk']at h1;simpa using h1
  .have q:(fQ order)[k]=((k:Nat):Int):=by simpa using q
   refine bz ⟨(),⟨rfl,λj hj=>?_⟩,O5 ei en e32 e0 e3⟩;by_cases e:j=k
   .subst e;rw[aj hk',q]
   .exact j2 j om
 .rintro _ ts h3 ⟨rfl,j2⟩ ⟨e32,e0,e3,-⟩;simp only at e32 e0 e3;have hperm:order.Perm (jX n):=by
   refine(sP (th n)).1 (cV λj=>?_);by_cases hj:j<n
   .rw[j2 j om,zJ hj]
   .rw[bJ (by rw[gH];omega),bJ (by rw[kK];omega)]
  have rb3:ai h3 h.next 1 1=some [outv]:=bq g2' rfl;refine ae (ae (ak (M3 e3 rb3 lq) ?_));refine fi (α:=Unit) (N:=outs.length) (λ_ _=>[(44,outv),(0,.ptr b 0)]) (λk _ h'=>Ext h3.next h3 h'/\∀j,j<k->OutsOk es ((j:Nat):Int) (outs.getD j [])) () (λ_ _=>rfl) om (Oi1 e0) ⟨Oh,λj hj=>absurd hj om⟩ ?_ ?_
  .rintro k _ ts h4 hk ⟨j1,j2⟩ ⟨ei,en,e44,e0,-⟩;simp only at ei en e44 e0;have X4:Ext h.next h h4:=X2.trans (j1.mono X2.nx);obtain⟨b1,p1,w,a1,r4,sw,_⟩:=(hq.ext X4).at hk;refine ae (ak (M4 e44 ei a1 r4) ?_);refine ae (bM (bj 1 (M0) rfl (Z0) (M0) (pA sw.cells.1) λr h5 hq=>?_));obtain⟨rfl,hh5⟩:=hq;have x5:Ext h4.next h4 h5:=by rw[hh5];exact Oe (ab _)
   have n5:h5.next=h4.next+1:=by rw[hh5];rfl
   have gv5:h5.get h4.next=some (.cells [w] 1 false):=by rw[hh5,AH.get_new,if_pos rfl]
   have hlk:=hl3 _ (ar hk);refine jW (Z0) (M0) (pD (bq gv5 rfl) (sw.ext x5 (ab _)) om om) λr h6 hq=>?_;obtain⟨i6,x6⟩:=hq;have X6:Ext h.next h h6:=X4.trans ((x5.trans (x6.mono om)).mono X4.nx);have s6:SlI h6 r (fQ outs[k]):=Ob om (λ_=>rfl) i6;refine bj 2 (M1 e0) rfl (Z1 e0) (M1 e0) (DN (x:=((k:Nat):Int)) (hv0.ext X6)) λr7 h7 hq=>?_;obtain⟨i7,x7⟩:=hq;have s7:SlI h7 r7 (dJ es ((k:Nat):Int)):=Ob om (λ_=>rfl) i7;have ol:(dJ es ((k:Nat):Int)).length<=128:=cu (fG _ _ _) m3;refine jW (Z0) (M0) (xH (s6.ext x7 (ab _)) s7 (by rw[gH];omega) om) λr8 h8 hq=>?_;obtain⟨rfl,e8⟩:=hq;subst e8;refine bI (M0) ?_;have X7:Ext h.next h h8:=X6.trans (x7.mono X6.nx);have Y7:Ext h3.next h3 h8:=j1.trans ((x5.trans ((x6.trans (x7.mono x6.nx)).mono om)).mono j1.nx);have hgd:outs.getD k []=outs[k]:=uh hk;refine cF (t:=!(fQ outs[k]==dJ es ((k:Nat):Int))) (Z0) (λq=>?_) λq=>?_
   .have q:¬fQ outs[k]=dJ es ((k:Nat):Int):=by simpa using q
    refine ae (ak (M0) ?_);refine bu ⟨.bool false,(by simp only[rs,rf33,am,aL,simprocAttr]<;>rfl),⟨false,rfl,⟨λq=>(by cases q),λhP=>absurd ?_ q⟩⟩,X7⟩;have:=hP.2.2 k om;rw[hgd]at this;exact uK.2 this
   .have q:fQ outs[k]=dJ es ((k:Nat):Int):=by simpa using q
    refine bz ⟨(),⟨Y7,λj hj=>?_⟩,O4 ei en e44 e0⟩;by_cases e:j=k
    .subst e;rw[hgd];exact uK.1 q
    .exact j2 j om
  .rintro _ ts h4 ⟨j1,j2⟩ ⟨e44,e0,-⟩;refine ae (ak (M0) ?_);exact bu ⟨.bool true,(by simp only[rs,rf33,am,aL,simprocAttr]<;>rfl),⟨true,rfl,⟨λ_=>⟨hperm,d1,λx hx=>j2 x om⟩,λ_=>rfl⟩⟩,X2.trans (j1.mono X2.nx)⟩
open Go.Am
def oY{n:Nat}(hn:n<=64):wg h [.nils] 1 24 (.int .i64 (n:Nat)) (.int .i64 (n:Nat))=some (.sl h.next 0 n n,h.new (.cells (cq [.nils] n) 1 false)):=lN (by unfold bf;omega) (by unfold bf;omega)
def wI{x:Int}{q:List Int}{ends:List (List It)}{i:Nat}:nF n es outs (x::q) pl row ends i=if ip n es row pl x then nF n es outs q (pl++[x]) (jJ es x (outs.getD x.toNat []) row) (ends.set x.toNat (lQ x row)) (i+1)else .inr i:=rfl
def RunR(h:AH)(r:AV)(n:Nat)(es:List (Int×Int))(order:List Int)(outs:List (List Int))(tl:Int->Int->List AV):Prop :=
 (∃i:Nat,nF n es outs order [] [] (List.replicate n []) 0=.inr i/\r=.tup ([.nils,.nils]++tl 3 i)) \/
  ∃ends row a b,nF n es outs order [] [] (List.replicate n []) 0=.inl (ends,row)/\r=.tup ([a,b]++tl 0 0)/\SlTL h a ends/\SlT h b row
def tlF(c a:Int):List AV:=[.agg [.int .i64 c,.int .i64 a,.nils]]
def tlR(c a:Int):List AV:=[.int .i64 c,.int .i64 a]
def DB{n:Int}(he:SlE h ev es)(hl0:es.length<2^30)(hp:SlI h ordv order)(hq:SlL h outv outs)(hl:order.length<=200)(hl2:outs.length<=200)(hl3:∀l∈outs,l.length<=200) :
 C prg 16 [.agg [.int .i64 n,ev],.agg [ordv,outv]] h λr h'=>Ext h.next h h' /\
   ((¬(ft n es/\PlanP n.toNat es order outs)/\r=.tup ([.nils,.nils]++tlF 1 0))\/((ft n es/\PlanP n.toNat es order outs)/\RunR h' r n.toNat es order outs tlF)):=by
 obtain⟨ec,eo⟩:=he.cells;obtain⟨oc,oo⟩:=hp.cells;obtain⟨qc,qo⟩:=hq.cells;have lp:=hp.len;rw[ah]at lp;refine Oj rfl ?_;refine ae (ak (Mi0) ?_);have ga:∀c,((((h.new (.cells [.int .i64 n,ev] 2 false)).new (.cells [ordv,outv] 2 false)).new (.cells [.int .i64 0,.int .i64 0,.nils] 3 false))).get c=if c=h.next+2 then some (.cells [.int .i64 0,.int .i64 0,.nils] 3 false)else if c=h.next+1 then some (.cells [ordv,outv] 2 false)else if c=h.next then some (.cells [.int .i64 n,ev] 2 false)else h.get c:=λc=>by
  rw[AH.get_new,AH.get_new,AH.get_new];rfl
 have x0:Ext h.next h ((((h.new (.cells [.int .i64 n,ev] 2 false)).new (.cells [ordv,outv] 2 false)).new (.cells [.int .i64 0,.int .i64 0,.nils] 3 false))):=(Oe (ab _)).trans ((Oe (by simp)).trans (Oe (by simp;omega)));have n0:((((h.new (.cells [.int .i64 n,ev] 2 false)).new (.cells [ordv,outv] 2 false)).new (.cells [.int .i64 0,.int .i64 0,.nils] 3 false))).next=h.next+3:=rfl;generalize (((h.new (.cells [.int .i64 n,ev] 2 false)).new (.cells [ordv,outv] 2 false)).new (.cells [.int .i64 0,.int .i64 0,.nils] 3 false))=h1 at *
 have gG:h1.get h.next=some (.cells [.int .i64 n,ev] 2 false):=by rw[ga,if_neg om,if_neg om,if_pos rfl]
 have gP:h1.get (h.next+1)=some (.cells [ordv,outv] 2 false):=by rw[ga,if_neg om,if_pos rfl]
 have gF:h1.get (h.next+2)=some (.cells [.int .i64 0,.int .i64 0,.nils] 3 false):=by rw[ga,if_pos rfl]
 have rG:ai h1 h.next 0 2=some [.int .i64 n,ev]:=by rw[aR gG];rfl
 refine ae (bM (bj 1 (Mi1 rG) rfl (Zi1 rG) (Mi1 rG) (Mh (he.ext x0 (ab _)) hl0) λr h2 hq'=>?_));obtain⟨x2,hcase⟩:=hq';have X2:=x0.trans (x2.mono x0.nx);have n2:=x2.nx;have gF2:h2.get (h.next+2)=some (.cells [.int .i64 0,.int .i64 0,.nils] 3 false):=by rw[x2.gt _ om];exact gF
 have gP2:h2.get (h.next+1)=some (.cells [ordv,outv] 2 false):=by rw[x2.gt _ om];exact gP
 have gG2:h2.get h.next=some (.cells [.int .i64 n,ev] 2 false):=by rw[x2.gt _ om];exact gG
 have rG2:ai h2 h.next 0 2=some [.int .i64 n,ev]:=by rw[aR gG2];rfl
 have rP2:ai h2 (h.next+1) 0 2=some [ordv,outv]:=by rw[aR gP2];rfl
 have hend:∀(h':AH) (c a:Int),h'.get (h.next+2)=some (.cells [.int .i64 0,.int .i64 0,.nils] 3 false)->Ext h.next h h'->∃h'',bP h' (h.next+2) 0 [.int .i64 c,.int .i64 a,.nils]=some h''/\ai h'' (h.next+2) 0 3=some [.int .i64 c,.int .i64 a,.nils]/\Ext h.next h h''/\(∀c,c≠h.next+2->h''.get c=h'.get c):=by
  intro h' c a hg hx;have u:=Oi (o:=.cells [.int .i64 c,.int .i64 a,.nils] 3 false) hg;exact⟨h'.put (h.next+2) (.cells [.int .i64 c,.int .i64 a,.nils] 3 false),by rw[dw hg];rfl,by rw[aR u.get];rfl,hx.trans (u.ext om),λc hc=>u.ne hc⟩
 rcases hcase with⟨hgood,fb,hfb,rfl,hf⟩|⟨hno,rfl⟩
 case inr =>
  refine bI (M0) ?_;refine ae (ae (bM (bI (by simp only[am,aL,simprocAttr,sY,decide_true,decide_false]<;>rfl) ?_)));obtain⟨h3,w3,r3,X3,_⟩:=hend h2 1 0 gF2 X2;refine cZ (by simp only[am,aL,simprocAttr,decide_true,decide_false]) (ae (ak (M1 w3) ?_));exact bu ⟨.tup [.nils,.nils,.agg [.int .i64 1,.int .i64 0,.nils]],(by simp only[rs,rf16,am,aL,simprocAttr,r3]<;>rfl),X3,.inl ⟨λh=>hno h.1,rfl⟩⟩
 refine bI (M0) ?_;obtain⟨nn,rfl⟩:∃nn:Nat,n=nn:=⟨n.toNat,by
  have:=hgood.1;simp only[fC,aU,aK]at this;omega⟩
 rw[aO]at hf |-;have he2:=he.ext X2 (ab _);refine ae (ae (bM (ju 5 (by simp only[am,aL,simprocAttr,bV,rG2,rP2,decide_true,decide_false]<;>rfl) rfl (by simp only[am,aL,simprocAttr,bV,rG2,rP2,decide_true,decide_false]) (by simp only[am,aL,simprocAttr,bV,rG2,rP2,decide_true,decide_false]<;>rfl) (vh he2 hgood.1) λvp h3 hq'=>?_)));obtain⟨hv,x3⟩:=hq';have X3:=X2.trans (x3.mono X2.nx);have rP3:ai h3 (h.next+1) 0 2=some [ordv,outv]:=by rw[bi (x3.gt _ om)];exact rP2
 have sagg:AV.same (.agg [ordv,outv]) (.agg [ordv,outv])=true:=by
  have key:∀v:AV,(v=.nils\/v=.emp\/∃b o l c,v=.sl b o l c)->AV.same v v=true:=by
   rintro v (rfl|rfl|⟨b,o,l,c,rfl⟩)
   .exact sA
   .rfl
   .exact lf
  have k1:AV.same ordv ordv=true:=by
   rcases hp with⟨_,h|h⟩|⟨b,o,c,cs,ro,h,_⟩
   .exact key _ (.inl h)
   .exact key _ (.inr (.inl h))
   .exact key _ (.inr (.inr ⟨_,_,_,_,h⟩))
  have k2:AV.same outv outv=true:=by
   obtain⟨ws,hq,_⟩:=hq;rcases hq with⟨_,h|h⟩|⟨b,o,c,cs,ro,h,_⟩
   .exact key _ (.inl h)
   .exact key _ (.inr (.inl h))
   .exact key _ (.inr (.inr ⟨_,_,_,_,h⟩))
  simp only[AV.same,AV.sames,k1,k2,te]
 refine⟨by simp only[am,aL,simprocAttr,sY,rP3,sagg,decide_true,decide_false],?_⟩;refine jW (by simp only[am,aL,simprocAttr,decide_true,decide_false]) (by simp only[am,aL,simprocAttr,decide_true,decide_false]<;>rfl) (Nl hv (hp.ext X3 (ab _)) (hq.ext X3) hl hl2 hl3) λr h4 hq'=>?_;obtain⟨⟨bb,rfl,hbb⟩,x4⟩:=hq';have X4:=X3.trans (x4.mono X3.nx);have Y4:Ext h2.next h2 h4:=x3.trans (x4.mono x3.nx);have n4:=Y4.nx;have gF4:h4.get (h.next+2)=some (.cells [.int .i64 0,.int .i64 0,.nils] 3 false):=by rw[Y4.gt _ om];exact gF2
 have gP4:h4.get (h.next+1)=some (.cells [ordv,outv] 2 false):=by rw[Y4.gt _ om];exact gP2
 have gG4:h4.get h.next=some (.cells [.int .i64 (nn:Nat),ev] 2 false):=by rw[Y4.gt _ om];exact gG2
 refine bI (by simp only[am,aL,simprocAttr,decide_true,decide_false]<;>rfl) ?_;cases bb with
 |false =>
   have hno:¬PlanP nn es order outs:=λhP=>by have:=hbb.2 hP;cases this
   obtain⟨h5,w5,r5,X5,_⟩:=hend h4 1 0 gF4 X4;refine cZ (by simp only[am,aL,simprocAttr,decide_true,decide_false]) (ae (ak (M1 w5) ?_));exact bu ⟨.tup [.nils,.nils,.agg [.int .i64 1,.int .i64 0,.nils]],(by simp only[rs,rf16,am,aL,simprocAttr,r5]<;>rfl),X5,.inl ⟨λh=>hno h.2,rfl⟩⟩
 |true =>
 have hP:=hbb.1 rfl;refine dC (by simp only[am,aL,simprocAttr,decide_true,decide_false]) (bz ?_);have hfn:=hf.bounds;have rg4:ai h4 h.next 0 1=some [.int .i64 (nn:Nat)]:=bq gG4 rfl;refine ae (ak (by simp only[am,aL,simprocAttr,bV,rg4,oY hfn.2.1]<;>rfl) ?_);have x5:Ext h4.next h4 (h4.new (.cells (cq [.nils] nn) 1 false)):=Oe (ab _);have g5:(h4.new (.cells (cq [.nils] nn) 1 false)).get h4.next=some (.cells (cq [.nils] nn) 1 false):=by rw[AH.get_new,if_pos rfl]
 have n5:(h4.new (.cells (cq [.nils] nn) 1 false)).next=h4.next+1:=rfl;generalize h4.new (.cells (cq [.nils] nn) 1 false)=h5 at *
 have X5:=X4.trans (x5.mono X4.nx);have Y5:Ext h2.next h2 h5:=Y4.trans (x5.mono Y4.nx);have hf5:=hf.ext Y5;have hfb2:fb<h2.next:=by obtain⟨iv,vp,pv,hV,g,_⟩:=hf;exact AH.lt_of_get g
 have ra5:ai h5 (h.next+1) 0 1=some [ordv]:=bq (by rw[x5.gt _ om];exact gP4) rfl;obtain⟨hperm,hol,hout⟩:=hP;have hrl:(cq [AV.nils] nn).length=nn:=by rw[eQ,cA]
 refine ae (ae (ak (Mi2 ra5 lp) ?_))
 refine fi (α:=Nat×List It×List (List It)×List AV) (N:=order.length) (λ_ _=>[(4,.sl h4.next 0 nn nn),(7,.ptr fb 0),(3,.ptr (h.next+1) 0),(6,.ptr (h.next+2) 0),(30,ordv)])
  (λk a h'=>nF nn es outs (order.drop k) (order.take k) a.2.1 a.2.2.1 k=nF nn es outs order [] [] (List.replicate nn []) 0/\IsFront h' fb a.1 nn es a.2.1 (order.take k)/\h'.get h4.next=some (.cells a.2.2.2 1 false)/\a.2.2.2.length=nn/\a.2.2.1.length=nn /\
   (∀(i:Nat) (v:AV) (l:List It),a.2.2.2[i]?=some v->a.2.2.1[i]?=some l->SlT h' v l/\∀b o m c,v=.sl b o m c->fb<b)/\a.1≠h4.next/\fb<=a.1/\Ext h.next h h'/\h4.next<h'.next/\h'.get (h.next+1)=some (.cells [ordv,outv] 2 false)/\h'.get (h.next+2)=some (.cells [.int .i64 0,.int .i64 0,.nils] 3 false)/\a.2.1.length<=300*k)
  (fb,[],List.replicate nn [],cq [.nils] nn) (λ_ _=>rfl) om (Oi0)
  ⟨by simp,by simpa using hf5,g5,hrl,by simp,λi v l h1 h2=>?_,by simp only;omega,ab _,X5,om,by rw[x5.gt _ om];exact gP4,by rw[x5.gt _ om];exact gF4,by simp⟩ ?_ ?_
 .simp only[eQ]at h1;rw[cz]at h1 h2;split at h1
  .rename_i hi
   rw[if_pos hi]at h2;simp only[aa]at h1 h2;subst h1 h2;exact⟨.inl ⟨rfl,.inl rfl⟩,λb o m c e=>by cases e⟩
  .cases h1
 .rintro k ⟨pb,row,ends,ls⟩ ts h6 hk ⟨j1,j2,j3,j4,j5,j6,j7,j8,jx,jn,jP,jF,jl⟩ ⟨ei,en,e4,e7,e3,e6,e30,-⟩;simp only at ei en e4 e7 e3 e6 e30 j1 j2 j3 j4 j5 j6 j7 j8 jl;obtain⟨b1,p1,a1,r1,_⟩:=(hp.ext jx (ab _)).at1 (cm (f:=eI) hk);have hxm:order[k]∈jX nn:=hperm.mem_iff.1 (ar hk);obtain⟨hx0,hx1⟩:=fA.1 hxm;obtain⟨x,hx⟩:∃x:Nat,order[k]=x:=⟨order[k].toNat,om⟩
  rw[cj hk,wI]at j1;rw[hx]at r1 j1;have hxn:x<nn:=om;refine ae (ak (M4 ei e30 a1 r1) ?_);have rb6:ai h6 (h.next+1) 1 1=some [outv]:=bq jP rfl;obtain⟨b2,p2,w,a2,r2,sw,_⟩:=(hq.ext jx).at (k:=x) om;have hswl:∀b o m c,w=.sl b o m c->b≠fb/\b≠pb:=by
   intro b o m c hb;obtain⟨b2',p2',w',a2',r2',sw',_⟩:=hq.at (k:=x) om;rw[a2]at a2';cases a2';rw[bi (jx.gt _ (by assumption)),r2']at r2;simp only[aa,cy,and_true]at r2;subst r2;have:=sw'.lt hb;constructor<;>omega
  have htl:(order.take k).length=k:=by rw[aS];omega
  have hlk:=hl3 _ (ar (show x<outs.length by omega));have hgd:outs.getD x []=outs[x]'om:=uh om;refine ae (bM (bj 9 (M6 e7 e3 e4 rb6 a2 r2) rfl (Z6 e7 e3 e4 rb6 a2 r2) (M6 e7 e3 e4 rb6 a2 r2) (FO (x:=((x:Nat):Int)) j2 sw hswl om om om) λr h7 hq'=>?_));rw[aO]at j1;have ix:fe ((x:Nat):Int) nn=some x:=cK hxn;by_cases hrd:ip nn es row (order.take k) ((x:Nat):Int)=true
  .rw[if_pos hrd]at hq' j1;have ho:=hout x hxn;rw[hgd]at ho j1;rw[if_pos (uK.2 ho)]at hq';obtain⟨gv,pb',rfl,ig,hf7,hpb',K7⟩:=hq';have n7:=K7.nx;have hlsl:∀(i:Nat) (v:AV) (l:List It),ls[i]?=some v->ends[i]?=some l->SlT h7 v l:=λi v l h1 h2=>by
    obtain⟨s1,s2⟩:=j6 i v l h1 h2;refine s1.cong λb o m c hb=>K7.gt b (s1.lt hb) ?_;have hfb':=s2 b o m c hb;rintro (e|e)
    .omega
    ·
     obtain⟨iv,vp2,pv,hV,g,si,so,vv,vx,v1,v2,v3,pp⟩:=j2;rcases pp with⟨_,_,q⟩|⟨m',_,q,_,_⟩
     .omega
     .rcases s1 with⟨_,hn|hn⟩|⟨b',o',c',cs',ro',hb2,hg2,_⟩
      .subst hn;cases hb
      .subst hn;cases hb
      .subst hb2;cases hb;rw[e,q]at hg2;simp at hg2
   have gE7:h7.get h4.next=some (.cells ls 1 false):=by rw[K7.gt _ jn (by rintro (e|e)<;>omega)];exact j3
   obtain⟨gc,go⟩:=ig.cells;have wE:bP h7 h4.next x [gv]=some (h7.put h4.next (.cells (ls.set x gv) 1 false)):=ew gE7 om;refine bI (M6 e4 ix @aP wE gc go) ?_;have u8:=Oi (o:=.cells (ls.set x gv) 1 false) gE7;have n8:(h7.put h4.next (.cells (ls.set x gv) 1 false)).next=h7.next:=rfl;generalize h7.put h4.next (.cells (ls.set x gv) 1 false)=h8 at *
   refine ae (ae (ak (M0) ?_));refine dC (by simp only[am,aL,simprocAttr,decide_true,decide_false]) (bz ?_);have hne:∀v:AV,∀l:List It,SlT h7 v l->SlT h8 v l:=λv l s=>s.cong λb o m c hb=>u8.ne λe=>by
    rcases s with⟨_,hn|hn⟩|⟨b',o',c',cs',ro',hb2,hg2,_⟩
    .subst hn;cases hb
    .subst hn;cases hb
    .subst hb2;cases hb;rw[e,gE7]at hg2;simp at hg2
   have hf8:IsFront h8 fb pb' nn es (jJ es ((x:Nat):Int) (outs[x]'om) row) (order.take k++[((x:Nat):Int)]):=by
    obtain⟨iv,vp2,pv,hV,g,si,so,vv,vx,v1,v2,v3,pp⟩:=hf7;have hVE:hV.next<=h4.next:=om;refine⟨iv,vp2,pv,hV,by rw[u8.ne om];exact g,hne _ _ si,so,vv,⟨by rw[n8];exact vx.nx,λc hc=>by rw[u8.ne om];exact vx.gt _ hc,λc hc=>by rw[u8.ty];exact vx.ty _ hc⟩,v1,v2,by rw[n8];exact v3,?_⟩;rcases pp with pp|⟨m,p1,p2,p3⟩
    .exact .inl pp
    .exact .inr ⟨m,p1,by rw[u8.ne om];exact p2,p3⟩
   have htk:order.take (k+1)=order.take k++[((x:Nat):Int)]:=by rw[aI hk,hx]
   refine⟨(pb',jJ es ((x:Nat):Int) (outs[x]'om) row,ends.set x (lQ ((x:Nat):Int) row),ls.set x gv),⟨by rw[htk];exact j1,by rw[htk];exact hf8,u8.get,by simpa using j4,by simpa using j5,λi v l h1 h2=>?_,by simp only;omega,by simp only;omega,?_,om,?_,?_,?_⟩,O7 ei en e4 e7 e3 e6 e30⟩
   .simp only at h1 h2;by_cases e:x=i
    .subst e;rw[dP om,aa]at h1 h2;subst h1 h2;refine⟨hne _ _ (Ob om (λ_=>rfl) ig),λb o m c hb=>?_⟩;rcases ig with⟨rfl,_⟩|⟨b',m',hb',rfl,_,_⟩
     .cases hb
     .cases hb;omega
    .rw[dq e]at h1 h2;exact⟨hne _ _ (hlsl i v l h1 h2),(j6 i v l h1 h2).2⟩
   .refine jx.trans ⟨by rw[n8];exact n7,λc hc=>?_,λc hc=>?_⟩
    .rw[u8.ne om,K7.gt c om (by rintro (e|e)<;>omega)]
    .rw[u8.ty,K7.ty c om]
   .rw[u8.ne om,K7.gt _ om (by rintro (e|e)<;>omega)];exact jP
   .rw[u8.ne om,K7.gt _ om (by rintro (e|e)<;>omega)];exact jF
   .have:=Ax (es:=es) (x:=((x:Nat):Int)) (outs:=outs[x]'om) (row:=row);simp only;omega
  .rw[if_neg hrd]at hq' j1;obtain⟨rfl,x7⟩:=hq';have X7:=jx.trans (x7.mono jx.nx);have gE7:h7.get h4.next=some (.cells ls 1 false):=by rw[x7.gt _ jn];exact j3
   have wE:bP h7 h4.next x [.nils]=some (h7.put h4.next (.cells (ls.set x .nils) 1 false)):=ew gE7 om;refine bI (M4 e4 ix @aP wE) ?_;have u8:=Oi (o:=.cells (ls.set x .nils) 1 false) gE7;generalize h7.put h4.next (.cells (ls.set x .nils) 1 false)=h8 at *
   refine ae (ae (ak (M0) ?_));have n7:=x7.nx;have gF8:h8.get (h.next+2)=some (.cells [.int .i64 0,.int .i64 0,.nils] 3 false):=by rw[u8.ne om,x7.gt _ om];exact jF
   obtain⟨h9,w9,r9,X9,_⟩:=hend h8 3 ((k:Nat):Int) gF8 (X7.trans (u8.ext om));refine cZ (by simp only[am,aL,simprocAttr,decide_true,decide_false]) (ae (ak (M3 ei e6 w9) ?_));exact bu ⟨.tup [.nils,.nils,.agg [.int .i64 3,.int .i64 ((k:Nat):Int),.nils]],(by simp only[rs,rf16,am,aL,simprocAttr,ei,e6,r9]<;>rfl),X9,.inr ⟨⟨hgood,hperm,hol,hout⟩,.inl ⟨k,j1.symm,rfl⟩⟩⟩
 .rintro⟨pb,row,ends,ls⟩ ts h6 ⟨j1,j2,j3,j4,j5,j6,j7,j8,jx,jn,jP,jF,jl⟩ ⟨e4,e7,e3,e6,e30,-⟩;simp only at e4 e7 e3 e6 e30 j1 j2 j3 j4 j5 j6 j7 j8 jl;rw[ou]at j1;refine ae (bM (bj 4 (M2 e4 e7) rfl (Z2 e4 e7) (M2 e4 e7) (Md j2 om) λr h7 hq'=>?_));obtain⟨i7,x7⟩:=hq';obtain⟨ic,io⟩:=i7.cells;have X7:=jx.trans (x7.mono jx.nx);have n7:=x7.nx;have gF7:h7.get (h.next+2)=some (.cells [.int .i64 0,.int .i64 0,.nils] 3 false):=by rw[x7.gt _ om];exact jF
  obtain⟨h8,w8,r8,X8,k8⟩:=hend h7 0 0 gF7 X7;refine bI (M2 e6 w8) ?_;have keep:∀v:AV,∀b o m c,v=.sl b o m c->b≠h.next+2->∀l,SlT h6 v l->SlT h8 v l:=λv b o m c hv hb l s=>s.cong λb' o' m' c' hv'=>by
   rw[hv]at hv';cases hv';rw[k8 b hb,x7.gt _ (s.lt hv)]
  refine bu ⟨.tup [.sl h4.next 0 nn nn,r,.agg [.int .i64 0,.int .i64 0,.nils]],(by simp only[rs,rf16,am,aL,simprocAttr,e6,r8]<;>rfl),X8,.inr ⟨⟨hgood,hperm,hol,hout⟩,.inr ⟨ends,row,_,_,j1.symm,rfl,⟨ls,?_,by rw[j4,j5],λi v l h1 h2=>?_⟩,?_⟩⟩⟩
  .exact Od (by rw[k8 _ om,x7.gt _ om];exact j3) j4 (ab _)
  .obtain⟨s1,s2⟩:=j6 i v l h1 h2;refine s1.cong λb o m c hv=>?_;have:=s2 b o m c hv;rw[k8 b om,x7.gt _ (s1.lt hv)]
  .exact(Ob om (λ_=>rfl) i7:SlT h7 r row).cong λb o m c hv=>by
    refine k8 b λe=>?_;rcases i7 with⟨rfl,_⟩|⟨b',m',hb',rfl,_,_⟩
    .cases hv
    .cases hv;omega
end Go.Proofs.YtklpoimdclflmaaGreatDoor
