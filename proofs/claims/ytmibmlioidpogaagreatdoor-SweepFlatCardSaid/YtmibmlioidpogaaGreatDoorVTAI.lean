/- sweep -/
import Derived.Test.YtmibmlioidpogaaGreatDoorVTAH
import Derived.Test.YtmibmlioidpogaaGreatDoorVTAA
set_option linter.all false
namespace Go.Proofs.YtmibmlioidpogaaGreatDoor
open Go.Am
variable {es:List (Int×Int)}{ev ordv outv v:AV}{f:Nat->Int}{h:AH}{i n ne no nu:Nat}{order:List Int}{outs:List (List Int)}{p:Nat->Bool}{rows:List NRow}{w:World}{x:Int}
theorem pU{xs ys:List Int}(hs:ys.Pairwise (·<=·)):gf xs=ys↔xs.Perm ys:=by
 constructor
 .intro h;rw[<-h];exact(oH xs).symm
 .intro h;have h1:(gf xs).Pairwise (λa b=>decide (a<=b)=true):=kJ (by intro a b c;simp only[aI];omega) (by intro a b;simp only[df,aI];omega) xs;refine List.Perm.eq_of_pairwise (le:=λa b:Int=>a<=b) (λa b _ _ h1 h2=>Int.le_antisymm h1 h2) (h1.imp λh=>bN h) hs ((oH xs).trans h)
theorem lz(p:Int×Int->Bool):∀(es:List (Int×Int)) (i:Nat),(dX p es i).Pairwise (·<=·)
 |[],i=>List.Pairwise.nil
 |y::r,i=>by
   unfold dX;split
   .refine dm.2 ⟨λz hz=>?_,lz p r (i+1)⟩;obtain⟨j,hj,_⟩:=gp p r (i+1) _ hz;omega
   .exact lz p r (i+1)
theorem rY{l:List Int}:gf l=eY es x↔OutsOk es x l:=pU (lz _ _ _)
def pH(n:Nat):List Int:=(List.range n).map λx=>((x:Nat):Int)
theorem xw(n:Nat):(pH n).length=n:=by simp[pH]
theorem sy:x∈pH n↔0<=x/\x<n:=by
 unfold pH;rw[bA];constructor
 .rintro⟨a,ha,rfl⟩;rw[bm]at ha;omega
 .rintro⟨h1,h2⟩;exact⟨x.toNat,bm.2 om,om⟩
theorem xy{i:Nat}(h:i<n):(pH n)[i]?=some ((i:Nat):Int):=by
 unfold pH;rw[aE,dp h];rfl
theorem qq(n:Nat):(pH n).Pairwise (·<=·):=by
 unfold pH;rw[fC];exact List.pairwise_le_range.imp λh=>by omega
theorem zw(n:Nat):(pH n).Nodup:=by
 unfold pH;unfold List.Nodup;rw[fC];exact List.nodup_range.imp λh=>by omega
def vr(n:Nat)(es:List (Int×Int))(order:List Int)(outs:List (List Int)):Prop:=order.Perm (pH n)/\outs.length=n/\∀x:Nat,x<n->OutsOk es x (outs.getD x [])
def SlL(h:AH)(v:AV)(xss:List (List Int)):Prop:=∃ws:List AV,Sl h 1 v (ws.map λw=>[w])/\ws.length=xss.length/\∀(i:Nat) (w:AV) (xs:List Int),ws[i]?=some w->xss[i]?=some xs->SlI h w xs
theorem SlL.ext{h h':AH}{v:AV}{xss:List (List Int)}(hs:SlL h v xss)(hx:Ext h.next h h'):SlL h' v xss:=by
 obtain⟨ws,a,b,c⟩:=hs;exact⟨ws,a.ext hx (ab _),b,λi w xs h1 h2=>(c i w xs h1 h2).ext hx (ab _)⟩
theorem SlL.len{h:AH}{v:AV}{xss:List (List Int)}(hs:SlL h v xss):fY v=some (.int .i64 (xss.length:Nat)):=by
 obtain⟨ws,a,b,c⟩:=hs;have:=a.len;rw[ah,b]at this;exact this
theorem SlL.cells{h:AH}{v:AV}{xss:List (List Int)}(hs:SlL h v xss):v.cells=[v]/\v.one=true:=by
 obtain⟨ws,a,b,c⟩:=hs;exact a.cells
theorem SlL.at{xss:List (List Int)}(hs:SlL h v xss){k:Nat}(hk:k<xss.length):∃b p w,jS 1 v (.int .i64 (k:Nat))=some (.ptr b p)/\ak h b p 1=some [w]/\SlI h w xss[k]/\b<h.next:=by
 obtain⟨ws,a,b,c⟩:=hs;have hw:ws[k]?=some ws[k]:=ai om;obtain⟨b1,p1,a1,r1,l1⟩:=a.at1 (i:=k) (y:=ws[k]) (by rw[aE,hw];rfl);exact⟨b1,p1,_,a1,r1,c k _ _ hw (ai hk),l1⟩
def SlTL(h:AH)(v:AV)(xss:List (List It)):Prop:=∃ws:List AV,Sl h 1 v (ws.map λw=>[w])/\ws.length=xss.length/\∀(i:Nat) (w:AV) (xs:List It),ws[i]?=some w->xss[i]?=some xs->SlT h w xs
theorem BN{α:Type}{xs:List α}{k:Nat}{d:α}(h:k<xs.length):xs.getD k d=xs[k]:=by
 rw[aH,ai h];rfl
theorem KZ{vp:AV}(hv:IsView h vp n es)(hp:SlI h ordv order)(hq:SlL h outv outs)(hl:order.length<=200)(hl2:outs.length<=200)(hl3:∀l∈outs,l.length<=200) :
 C prg 11 [vp,.agg [ordv,outv]] h λr h'=>(∃b,r=.bool b/\(b=true↔vr n es order outs))/\Ext h.next h h':=by
 have hv0:=hv;obtain⟨b,ev,os,is,ob,ib,rfl,g1,g2,g3,g4,g5,g6,g7,g8,m1,m2,m3,m4⟩:=hv;obtain⟨oc,oo⟩:=hp.cells;obtain⟨qc,qo⟩:=hq.cells;have lp:=hp.len;rw[ah]at lp;have lq:=hq.len;refine Me pf11 ?_;have x0:Ext h.next h (h.new (.cells [ordv,outv] 2 false)):=Mb (ab _);have g0:(h.new (.cells [ordv,outv] 2 false)).get h.next=some (.cells [ordv,outv] 2 false):=by rw[AH.get_new,if_pos rfl]
 have n0:(h.new (.cells [ordv,outv] 2 false)).next=h.next+1:=rfl;refine ae (ar (Mi0) ?_);generalize h.new (.cells [ordv,outv] 2 false)=h0 at *
 have ra:ak h0 h.next 0 1=some [ordv]:=br g0 rfl;have rb:ak h0 h.next 1 1=some [outv]:=br g0 rfl;have rn:ak h0 b 0 1=some [.int .i64 (n:Nat)]:=br (by rw[x0.gt _ (AH.lt_of_get g1)];exact g1) rfl;have hcond:∃t:Bool,(t=true↔¬(outs.length=n/\order.length=n))/\((decide (((outs.length:Nat):Int)=((n:Nat):Int))=true->decide (((order.length:Nat):Int)=((n:Nat):Int))=!t)/\(decide (((outs.length:Nat):Int)=((n:Nat):Int))=false->t=true)):=by
  refine⟨decide (¬(outs.length=n/\order.length=n)),decide_eq_true_iff,λq=>?_,λq=>?_⟩
  .have q:outs.length=n:=by have:=bN q;omega
   simp only[q,true_and,decide_not,Bool.not_not,decide_eq_decide];omega
  .have q:¬outs.length=n:=by have:=cM q;omega
   simp[q]
 by_cases d1:outs.length=n/\order.length=n
 case neg =>
  have hno:¬vr n es order outs:=λ⟨p1,p2,_⟩=>d1 ⟨p2,by rw[p1.length_eq,xw]⟩;by_cases d2:outs.length=n
  .have c1:decide (((outs.length:Nat):Int)=((n:Nat):Int))=true:=bj om;have c2:decide (((order.length:Nat):Int)=((n:Nat):Int))=false:=aN om;refine ae (ae (ar (Mi7 rb rn ra lp lq c1 c2) ?_));refine dg (Z0) (ae (ar (M0) ?_));exact bG ⟨.bool false,(by simp only[rs,rf11,am,aD,simprocAttr]<;>rfl),⟨false,rfl,⟨λq=>(by cases q),λq=>absurd q hno⟩⟩,x0⟩
  .have c1:decide (((outs.length:Nat):Int)=((n:Nat):Int))=false:=aN om;refine ae (ae (ar (Mi4 rb rn lq c1) ?_));refine dg (Z0) (ae (ar (M0) ?_));exact bG ⟨.bool false,(by simp only[rs,rf11,am,aD,simprocAttr]<;>rfl),⟨false,rfl,⟨λq=>(by cases q),λq=>absurd q hno⟩⟩,x0⟩
 obtain⟨d1,d2⟩:=d1;have c1:decide (((outs.length:Nat):Int)=((n:Nat):Int))=true:=bj om;have c2:decide (((order.length:Nat):Int)=((n:Nat):Int))=true:=bj om;refine ae (ae (ar (Mi7 rb rn ra lp lq c1 c2) ?_));refine dQ (Z0) (bK ?_);have hp0:=hp.ext x0 (ab _);have hq0:=hq.ext x0;refine ae (ae (bM (aV 2 (Mi1 ra) rfl (Zi1 ra) (Mi1 ra) (nz hp0.cells.1) λr h1 hq=>?_)));obtain⟨rfl,hh1⟩:=hq;have x1:Ext h0.next h0 h1:=by rw[hh1];exact Mb (ab _)
 have n1:h1.next=h0.next+1:=by rw[hh1];rfl
 have gv1:h1.get h0.next=some (.cells [ordv] 1 false):=by rw[hh1,AH.get_new,if_pos rfl]
 refine jc (Z0) (M0) (nD (br gv1 rfl) (hp0.ext x1 (ab _)) om om) λr h2 hq=>?_;obtain⟨i2,x2⟩:=hq;have s2:SlI h2 r (gf order):=LY om (λ_=>rfl) i2;have l2:=s2.len;rw[ah,jq]at l2;refine bF (M1 l2) ?_;have X2:=x0.trans ((x1.trans (x2.mono om)).mono om);have g2':h2.get h.next=some (.cells [ordv,outv] 2 false):=by rw[x2.gt _ om,x1.gt _ om];exact g0
 refine fj (α:=Unit) (N:=order.length) (λ_ _=>[(32,r),(0,.ptr b 0),(3,.ptr h.next 0)]) (λk _ h'=>h'=h2/\∀j,j<k->(gf order)[j]?=some ((j:Nat):Int)) () (λ_ _=>rfl) om (Oi0) ⟨rfl,λj hj=>absurd hj om⟩ ?_ ?_
 .rintro k _ ts h3 hk ⟨rfl,j2⟩ ⟨ei,en,e32,e0,e3,-⟩;simp only at ei en e32 e0 e3;have hk':k<(gf order).length:=by rw[jq];exact hk
  obtain⟨b1,p1,a1,r4,_⟩:=s2.at1 (eJ (f:=eI) hk');refine ae (ar (M4 e32 ei a1 r4) ?_);refine ae (ae (ar (M0) ?_));refine dY (t:=!decide ((gf order)[k]=((k:Nat):Int))) (Z0) (λq=>?_) λq=>?_
  .have q:¬(gf order)[k]=((k:Nat):Int):=by simpa using q
   refine ae (ar (M0) ?_);refine bG ⟨.bool false,(by simp only[rs,rf11,am,aD,simprocAttr]<;>rfl),⟨false,rfl,⟨λq=>(by cases q),λhP=>absurd ?_ q⟩⟩,X2⟩;have:=(pU (qq n)).2 hP.1;have h1:=xy (n:=n) (i:=k) om;rw[<-this,ai hk']at h1;simpa using h1
  .have q:(gf order)[k]=((k:Nat):Int):=by simpa using q
   refine bK ⟨(),⟨rfl,λj hj=>?_⟩,O5 ei en e32 e0 e3⟩;by_cases e:j=k
   .subst e;rw[ai hk',q]
   .exact j2 j om
 .rintro _ ts h3 ⟨rfl,j2⟩ ⟨e32,e0,e3,-⟩;simp only at e32 e0 e3;have hperm:order.Perm (pH n):=by
   refine(pU (qq n)).1 (du λj=>?_);by_cases hj:j<n
   .rw[j2 j om,xy hj]
   .rw[bO (by rw[jq];omega),bO (by rw[xw];omega)]
  have rb3:ak h3 h.next 1 1=some [outv]:=br g2' rfl;refine ae (ae (ar (M3 e3 rb3 lq) ?_));refine fj (α:=Unit) (N:=outs.length) (λ_ _=>[(44,outv),(0,.ptr b 0)]) (λk _ h'=>Ext h3.next h3 h'/\∀j,j<k->OutsOk es ((j:Nat):Int) (outs.getD j [])) () (λ_ _=>rfl) om (Oi1 e0) ⟨Mc,λj hj=>absurd hj om⟩ ?_ ?_
  .rintro k _ ts h4 hk ⟨j1,j2⟩ ⟨ei,en,e44,e0,-⟩;simp only at ei en e44 e0;have X4:Ext h.next h h4:=X2.trans (j1.mono X2.nx);obtain⟨b1,p1,w,a1,r4,sw,_⟩:=(hq.ext X4).at hk;refine ae (ar (M4 e44 ei a1 r4) ?_);refine ae (bM (aV 1 (M0) rfl (Z0) (M0) (nz sw.cells.1) λr h5 hq=>?_));obtain⟨rfl,hh5⟩:=hq;have x5:Ext h4.next h4 h5:=by rw[hh5];exact Mb (ab _)
   have n5:h5.next=h4.next+1:=by rw[hh5];rfl
   have gv5:h5.get h4.next=some (.cells [w] 1 false):=by rw[hh5,AH.get_new,if_pos rfl]
   have hlk:=hl3 _ (aZ hk);refine jc (Z0) (M0) (nD (br gv5 rfl) (sw.ext x5 (ab _)) om om) λr h6 hq=>?_;obtain⟨i6,x6⟩:=hq;have X6:Ext h.next h h6:=X4.trans ((x5.trans (x6.mono om)).mono X4.nx);have s6:SlI h6 r (gf outs[k]):=LY om (λ_=>rfl) i6;refine aV 2 (M1 e0) rfl (Z1 e0) (M1 e0) (Bx (x:=((k:Nat):Int)) (hv0.ext X6)) λr7 h7 hq=>?_;obtain⟨i7,x7⟩:=hq;have s7:SlI h7 r7 (eY es ((k:Nat):Int)):=LY om (λ_=>rfl) i7;have ol:(eY es ((k:Nat):Int)).length<=128:=cw (gq _ _ _) m3;refine jc (Z0) (M0) (uK (s6.ext x7 (ab _)) s7 (by rw[jq];omega) om) λr8 h8 hq=>?_;obtain⟨rfl,e8⟩:=hq;subst e8;refine bF (M0) ?_;have X7:Ext h.next h h8:=X6.trans (x7.mono X6.nx);have Y7:Ext h3.next h3 h8:=j1.trans ((x5.trans ((x6.trans (x7.mono x6.nx)).mono om)).mono j1.nx);have hgd:outs.getD k []=outs[k]:=BN hk;refine dY (t:=!(gf outs[k]==eY es ((k:Nat):Int))) (Z0) (λq=>?_) λq=>?_
   .have q:¬gf outs[k]=eY es ((k:Nat):Int):=by simpa using q
    refine ae (ar (M0) ?_);refine bG ⟨.bool false,(by simp only[rs,rf11,am,aD,simprocAttr]<;>rfl),⟨false,rfl,⟨λq=>(by cases q),λhP=>absurd ?_ q⟩⟩,X7⟩;have:=hP.2.2 k om;rw[hgd]at this;exact rY.2 this
   .have q:gf outs[k]=eY es ((k:Nat):Int):=by simpa using q
    refine bK ⟨(),⟨Y7,λj hj=>?_⟩,O4 ei en e44 e0⟩;by_cases e:j=k
    .subst e;rw[hgd];exact rY.1 q
    .exact j2 j om
  .rintro _ ts h4 ⟨j1,j2⟩ ⟨e44,e0,-⟩;refine ae (ar (M0) ?_);exact bG ⟨.bool true,(by simp only[rs,rf11,am,aD,simprocAttr]<;>rfl),⟨true,rfl,⟨λ_=>⟨hperm,d1,λx hx=>j2 x om⟩,λ_=>rfl⟩⟩,X2.trans (j1.mono X2.nx)⟩
open Go.Am
theorem SlL.stay{h h':AH}{v:AV}{xss:List (List Int)}(hk:∀b o,h.get b=some o->h'.get b=some o)(hs:SlL h v xss):SlL h' v xss:=by
 obtain⟨ws,a,b,c⟩:=hs;exact⟨ws,Mf hk a,b,λi w xs h1 h2=>Mf hk (c i w xs h1 h2)⟩
structure Came(h:AH)(ev ordv outv:AV)(ne no nu:Nat)(es:List (Int×Int))(order:List Int)(outs:List (List Int)):Prop where
 le:fY ev=some (.int .i64 (ne:Nat))
 lo:fY ordv=some (.int .i64 (no:Nat))
 lu:fY outv=some (.int .i64 (nu:Nat))
 e:SlE h ev es
 o:SlI h ordv order
 u:nu<=100->SlL h outv outs
theorem Came.stay{h h':AH}{ev ordv outv:AV}{ne no nu:Nat}{es:List (Int×Int)}{order:List Int}{outs:List (List Int)}(c:Came h ev ordv outv ne no nu es order outs)(hk:∀b o,h.get b=some o->h'.get b=some o):Came h' ev ordv outv ne no nu es order outs :=
 ⟨c.le,c.lo,c.lu,Mf hk c.e,Mf hk c.o,λq=>SlL.stay hk (c.u q)⟩
theorem Came.lens(c:Came h ev ordv outv ne no nu es order outs):es.length=ne/\order.length=no/\(nu<=100->outs.length=nu):=by
 refine⟨?_,?_,λq=>?_⟩
 .have:=c.e.len;rw[c.le,ah]at this;simp only[aa,AV.int.injEq,true_and]at this;omega
 .have:=c.o.len;rw[c.lo,ah]at this;simp only[aa,AV.int.injEq,true_and]at this;omega
 .have:=(c.u q).len;rw[c.lu]at this;simp only[aa,AV.int.injEq,true_and]at this;omega
open Go.Am
open Go.RowKit
def sd(rows:List NRow)(len:Nat):List (List Int):=(rows.take len).map λr=>r.zs.take r.len
theorem IZ{a:Option Addr}{len cap:Nat}(hc:RowsIn w a len cap rows){K:Bs}{σ:Sg}(r:Rep K σ h w)(hB:K.B=w.heap.size) :
 ∃(σ':Sg) (os:List AO) (oc:AO) (cv:AV),os.length=100/\σ.le σ'/\Rep K σ' ((news os h).new oc) w/\VR σ' cv (.slice a len cap)/\fY cv=some (.int .i64 (len:Nat)) /\
   (len<=100->SlL ((news os h).new oc) cv (sd rows len)):=by
 cases a with
 |none =>
   obtain⟨rfl,rfl⟩:=hc.none_ rfl;obtain⟨σ1,os,vs,a1,a2,a3,a4,a5⟩:=Rep.rows (k:=.i64) hB 100 [] r (dA _) (λr hr=>by cases hr);obtain⟨σ2,b1,b2⟩:=a4.dummy;exact⟨σ2,os,_,.nils,a1,Sg.le_trans a3 b1,b2,by simp[VR],rfl,λ_=>⟨[],.inl ⟨rfl,.inl rfl⟩,by simp[sd],λi w xs h1=>by simp at h1⟩⟩
 |some x =>
   have hsp:=hc.spot x rfl;by_cases hl:len<=100
   .have hle:=hc.le;have hlen:=hc.length;have htl:(rows.take len).length=len:=by rw[bB];omega
    obtain⟨σ1,os,vs,a1,a2,a3,a4,a5⟩:=Rep.rows (k:=.i64) hB 100 (rows.take len) r om (λr hr=>hc.ok r (gJ hr));have hcell:∀i,i<cap->w.cell? (x.add i)=some (match rows[i]? with|some r=>.slice r.a r.len r.cap|none=>.bool true):=by
     intro i hi;have:rows[i]?=some rows[i]:=ai om;rw[this];exact hc.cells x rfl i _ this
    obtain⟨σ2,b1,b2,b3⟩:=a4.outer hB (vs:=vs) (len:=len) hsp hle om hcell (λi v hv=>by
     have hil:=(aG.1 hv).1;have h1:i<(rows.take len).length:=om;have h2:(rows.take len)[i]?=some (rows.take len)[i]:=ai h1;have h3:=(a5 i v _ hv h2).1;have h4:rows[i]?=some (rows.take len)[i]:=by
      rw[<-h2,cF,if_pos om]
     rw[h4];exact h3)
    refine⟨σ2,os,_,_,a1,Sg.le_trans a3 b1,b2,b3,rfl,λ_=>⟨vs,Ma (by rw[AH.get_new,if_pos rfl]) om (ab _),by rw[sd,ah];omega,λi v xs hv hx=>?_⟩⟩;unfold sd at hx;rw[aE]at hx;cases hq:(rows.take len)[i]? with
    |none=>rw[hq]at hx;cases hx
    |some row =>
      rw[hq]at hx;simp only[aF,aa]at hx;subst hx;have hm:=gJ (dJ hq);obtain⟨k1,k2,_⟩:=hc.ok row hm;rcases(a5 i v row hv hq).2 with⟨h1|h1,h2⟩|⟨b,h1,h2⟩
      .exact .inl ⟨by rw[h2];simp,.inl h1⟩
      .exact .inl ⟨by rw[h2];simp,.inr h1⟩
      .subst h1;refine vA (f:=eI) (ro:=true) (λ_=>rfl) ?_ (by rw[bB];omega);rw[AH.get_new,if_neg (by have:=AH.lt_of_get h2;omega),BO];exact h2
   .obtain⟨σ1,os,vs,a1,a2,a3,a4,a5⟩:=Rep.rows (k:=.i64) hB 100 [] r (dA _) (λr hr=>by cases hr);obtain⟨σ2,b1,b2,b3⟩:=a4.outer0 (len:=len) hsp hc.le;exact⟨σ2,os,_,_,a1,Sg.le_trans a3 b1,b2,b3,rfl,λq=>absurd q hl⟩
theorem Kb{P:Program}{n:Int}{a0 a1 a2 a3:Option Addr}{l0 c0 l1 c1 l2 c2 l3 c3:Nat}{z0 z1 z3:List Int}(w0:IsRowE .i64 2 w a0 l0 c0 z0)(s0:∀x,a0=some x->x.spot=none)(w1:IsRowE .i64 1 w a1 l1 c1 z1)(w2:RowsIn w a2 l2 c2 rows)(w3:IsRowE .i64 1 w a3 l3 c3 z3) :
 ∃(σ:Sg) (os:List AO) (v0 v1 v2 v3:AV),os.length=104/\GL σ/\Rep ⟨w.heap.size,w,P,[]⟩ σ (news os AH.zero) w/\VR σ v0 (.slice a0 l0 c0)/\VR σ v1 (.slice a1 l1 c1)/\VR σ v2 (.slice a2 l2 c2)/\VR σ v3 (.slice a3 l3 c3) /\
   Came (news os AH.zero) v0 v1 v2 l0 l1 l2 (oA (z0.take (l0*2))) (z1.take l1) (sd rows l2)/\fY v3=some (.int .i64 (l3:Nat))/\SlI (news os AH.zero) v3 (z3.take l3):=by
 have st:=St0.zero P w;obtain⟨σ1,os1,oc,v2,q1,q2,q3,q4,q5,q6⟩:=IZ w2 st.rep rfl;obtain⟨σ2,o0,v0,r1,r2,r3,r4⟩:=rowE1 q3 rfl (by decide) w0 s0;obtain⟨σ3,o1,v1,t1,t2,t3,t4,t5⟩:=KN r2 rfl w1;obtain⟨σ4,o3,v3,u1,u2,u3,u4,u5⟩:=KN t2 rfl w3;have e:((((news os1 AH.zero).new oc).new o0).new o1).new o3=news (os1++[oc,o0]++[o1,o3]) AH.zero:=by
  rw[<-sk,<-sk]
 rw[e]at u2 u5;refine⟨σ4,os1++[oc,o0]++[o1,o3],v0,v1,v2,v3,by simp[q1],(((st.gl.mono q2).mono r1).mono t1).mono u1,u2,VR.mono u1 _ _ (VR.mono t1 _ _ r3),VR.mono u1 _ _ t3,VR.mono u1 _ _ (VR.mono t1 _ _ (VR.mono r1 _ _ q4)),u3,⟨?_,t4,q5,?_,?_,λhl=>?_⟩,u4,u5⟩
 .rcases r4 with⟨h1,h2⟩|⟨h1,_⟩
  .subst h1 h2;rfl
  .subst h1;rfl
 .rw[<-e];refine Mf lH (Mf lH ?_);rcases r4 with⟨h1,h2⟩|⟨h1,h2,h3⟩
  .subst h1 h2;exact .inl ⟨by simp[oA],.inl rfl⟩
  .subst h1 h2;obtain⟨f1,f2⟩:=sM l0 _ h3;refine vA (f:=eE) (ro:=true) (λ_=>rfl) ?_ f2.symm;rw[AH.get_new,if_pos rfl,f1]
 .rw[<-e];exact Mf lH t5
 .rw[<-e];exact SlL.stay lH (SlL.stay lH (SlL.stay lH (q6 hl)))
open Go.Am
theorem FO{n:Nat}(hn:n<=64):yo h [.nils] 1 24 (.int .i64 (n:Nat)) (.int .i64 (n:Nat))=some (.sl h.next 0 n n,h.new (.cells (cA [.nils] n) 1 false)):=su (by unfold bd;omega) (by unfold bd;omega)
theorem CG{x:Int}{q pl:List Int}{row:List It}{ends:List (List It)}:tE n es outs (x::q) pl row ends i=if ii n es row pl x then tE n es outs q (pl++[x]) (kQ es x (outs.getD x.toNat []) row) (ends.set x.toNat (mT x row)) (i+1)else .inr i:=rfl
def RunR(h:AH)(r:AV)(n:Nat)(es:List (Int×Int))(order:List Int)(outs:List (List Int))(tl:Int->Int->List AV):Prop :=
 (∃i:Nat,tE n es outs order [] [] (List.replicate n []) 0=.inr i/\r=.tup ([.nils,.nils]++tl 3 i)) \/
  ∃ends row a b,tE n es outs order [] [] (List.replicate n []) 0=.inl (ends,row)/\r=.tup ([a,b]++tl 0 0)/\SlTL h a ends/\SlT h b row
def tlF(c a:Int):List AV:=[.agg [.int .i64 c,.int .i64 a,.nils]]
theorem Ig{n:Int}(he:SlE h ev es)(hl0:es.length<2^30)(hp:SlI h ordv order)(hq:SlL h outv outs)(hl:order.length<=200)(hl2:outs.length<=200)(hl3:∀l∈outs,l.length<=200) :
 C prg 6 [.agg [.int .i64 n,ev],.agg [ordv,outv]] h λr h'=>Ext h.next h h' /\
   ((¬(qP n es/\vr n.toNat es order outs)/\r=.tup ([.nils,.nils]++tlF 1 0))\/((qP n es/\vr n.toNat es order outs)/\RunR h' r n.toNat es order outs tlF)):=by
 obtain⟨ec,eo⟩:=he.cells;obtain⟨oc,oo⟩:=hp.cells;obtain⟨qc,qo⟩:=hq.cells;have lp:=hp.len;rw[ah]at lp;refine Me pf6 ?_;refine ae (ar (Mi0) ?_);have ga:∀c,((((h.new (.cells [.int .i64 n,ev] 2 false)).new (.cells [ordv,outv] 2 false)).new (.cells [.int .i64 0,.int .i64 0,.nils] 3 false))).get c=if c=h.next+2 then some (.cells [.int .i64 0,.int .i64 0,.nils] 3 false)else if c=h.next+1 then some (.cells [ordv,outv] 2 false)else if c=h.next then some (.cells [.int .i64 n,ev] 2 false)else h.get c:=λc=>by
  rw[AH.get_new,AH.get_new,AH.get_new];rfl
 have x0:Ext h.next h ((((h.new (.cells [.int .i64 n,ev] 2 false)).new (.cells [ordv,outv] 2 false)).new (.cells [.int .i64 0,.int .i64 0,.nils] 3 false))):=(Mb (ab _)).trans ((Mb (by simp)).trans (Mb (by simp;omega)));have n0:((((h.new (.cells [.int .i64 n,ev] 2 false)).new (.cells [ordv,outv] 2 false)).new (.cells [.int .i64 0,.int .i64 0,.nils] 3 false))).next=h.next+3:=rfl;generalize (((h.new (.cells [.int .i64 n,ev] 2 false)).new (.cells [ordv,outv] 2 false)).new (.cells [.int .i64 0,.int .i64 0,.nils] 3 false))=h1 at *
 have gG:h1.get h.next=some (.cells [.int .i64 n,ev] 2 false):=by rw[ga,if_neg om,if_neg om,if_pos rfl]
 have gP:h1.get (h.next+1)=some (.cells [ordv,outv] 2 false):=by rw[ga,if_neg om,if_pos rfl]
 have gF:h1.get (h.next+2)=some (.cells [.int .i64 0,.int .i64 0,.nils] 3 false):=by rw[ga,if_pos rfl]
 have rG:ak h1 h.next 0 2=some [.int .i64 n,ev]:=by rw[aU gG];rfl
 refine ae (bM (aV 1 (Mi1 rG) rfl (Zi1 rG) (Mi1 rG) (JN (he.ext x0 (ab _)) hl0) λr h2 hq'=>?_));obtain⟨x2,hcase⟩:=hq';have X2:=x0.trans (x2.mono x0.nx);have n2:=x2.nx;have gF2:h2.get (h.next+2)=some (.cells [.int .i64 0,.int .i64 0,.nils] 3 false):=by rw[x2.gt _ om];exact gF
 have gP2:h2.get (h.next+1)=some (.cells [ordv,outv] 2 false):=by rw[x2.gt _ om];exact gP
 have gG2:h2.get h.next=some (.cells [.int .i64 n,ev] 2 false):=by rw[x2.gt _ om];exact gG
 have rG2:ak h2 h.next 0 2=some [.int .i64 n,ev]:=by rw[aU gG2];rfl
 have rP2:ak h2 (h.next+1) 0 2=some [ordv,outv]:=by rw[aU gP2];rfl
 have hend:∀(h':AH) (c a:Int),h'.get (h.next+2)=some (.cells [.int .i64 0,.int .i64 0,.nils] 3 false)->Ext h.next h h'->∃h'',bV h' (h.next+2) 0 [.int .i64 c,.int .i64 a,.nils]=some h''/\ak h'' (h.next+2) 0 3=some [.int .i64 c,.int .i64 a,.nils]/\Ext h.next h h''/\(∀c,c≠h.next+2->h''.get c=h'.get c):=by
  intro h' c a hg hx;have u:=Md (o:=.cells [.int .i64 c,.int .i64 a,.nils] 3 false) hg;exact⟨h'.put (h.next+2) (.cells [.int .i64 c,.int .i64 a,.nils] 3 false),by rw[eL hg];rfl,by rw[aU u.get];rfl,hx.trans (u.ext om),λc hc=>u.ne hc⟩
 rcases hcase with⟨hgood,fb,hfb,rfl,hf⟩|⟨hno,rfl⟩
 case inr =>
  refine bF (M0) ?_;refine ae (ae (bM (bF (by simp only[am,aD,simprocAttr,qf,decide_true,decide_false]<;>rfl) ?_)));obtain⟨h3,w3,r3,X3,_⟩:=hend h2 1 0 gF2 X2;refine dg (by simp only[am,aD,simprocAttr,decide_true,decide_false]) (ae (ar (M1 w3) ?_));exact bG ⟨.tup [.nils,.nils,.agg [.int .i64 1,.int .i64 0,.nils]],(by simp only[rs,rf6,am,aD,simprocAttr,r3]<;>rfl),X3,.inl ⟨λh=>hno h.1,rfl⟩⟩
 refine bF (M0) ?_;obtain⟨nn,rfl⟩:∃nn:Nat,n=nn:=⟨n.toNat,by
  have:=hgood.1;simp only[lW,aL,aI]at this;omega⟩
 rw[bU]at hf |-;have he2:=he.ext X2 (ab _);refine ae (ae (bM (jL 5 (by simp only[am,aD,simprocAttr,bE,rG2,rP2,decide_true,decide_false]<;>rfl) rfl (by simp only[am,aD,simprocAttr,bE,rG2,rP2,decide_true,decide_false]) (by simp only[am,aD,simprocAttr,bE,rG2,rP2,decide_true,decide_false]<;>rfl) (Ao he2 hgood.1) λvp h3 hq'=>?_)));obtain⟨hv,x3⟩:=hq';have X3:=X2.trans (x3.mono X2.nx);have rP3:ak h3 (h.next+1) 0 2=some [ordv,outv]:=by rw[cS (x3.gt _ om)];exact rP2
 have sagg:AV.same (.agg [ordv,outv]) (.agg [ordv,outv])=true:=by
  have key:∀v:AV,(v=.nils\/v=.emp\/∃b o l c,v=.sl b o l c)->AV.same v v=true:=by
   rintro v (rfl|rfl|⟨b,o,l,c,rfl⟩)
   .exact tZ
   .rfl
   .exact vD
  have k1:AV.same ordv ordv=true:=by
   rcases hp with⟨_,h|h⟩|⟨b,o,c,cs,ro,h,_⟩
   .exact key _ (.inl h)
   .exact key _ (.inr (.inl h))
   .exact key _ (.inr (.inr ⟨_,_,_,_,h⟩))
  have k2:AV.same outv outv=true:=by
   obtain⟨ws,hq,_⟩:=hq;rcases hq with⟨_,h|h⟩|⟨b,o,c,cs,ro,h,_⟩
   .exact key _ (.inl h)
   .exact key _ (.inr (.inl h))
   .exact key _ (.inr (.inr ⟨_,_,_,_,h⟩))
  simp only[AV.same,AV.sames,k1,k2,Bool.and_self]
 refine⟨by simp only[am,aD,simprocAttr,qf,rP3,sagg,decide_true,decide_false],?_⟩;refine jc (by simp only[am,aD,simprocAttr,decide_true,decide_false]) (by simp only[am,aD,simprocAttr,decide_true,decide_false]<;>rfl) (KZ hv (hp.ext X3 (ab _)) (hq.ext X3) hl hl2 hl3) λr h4 hq'=>?_;obtain⟨⟨bb,rfl,hbb⟩,x4⟩:=hq';have X4:=X3.trans (x4.mono X3.nx);have Y4:Ext h2.next h2 h4:=x3.trans (x4.mono x3.nx);have n4:=Y4.nx;have gF4:h4.get (h.next+2)=some (.cells [.int .i64 0,.int .i64 0,.nils] 3 false):=by rw[Y4.gt _ om];exact gF2
 have gP4:h4.get (h.next+1)=some (.cells [ordv,outv] 2 false):=by rw[Y4.gt _ om];exact gP2
 have gG4:h4.get h.next=some (.cells [.int .i64 (nn:Nat),ev] 2 false):=by rw[Y4.gt _ om];exact gG2
 refine bF (by simp only[am,aD,simprocAttr,decide_true,decide_false]<;>rfl) ?_;cases bb with
 |false =>
   have hno:¬vr nn es order outs:=λhP=>by have:=hbb.2 hP;cases this
   obtain⟨h5,w5,r5,X5,_⟩:=hend h4 1 0 gF4 X4;refine dg (by simp only[am,aD,simprocAttr,decide_true,decide_false]) (ae (ar (M1 w5) ?_));exact bG ⟨.tup [.nils,.nils,.agg [.int .i64 1,.int .i64 0,.nils]],(by simp only[rs,rf6,am,aD,simprocAttr,r5]<;>rfl),X5,.inl ⟨λh=>hno h.2,rfl⟩⟩
 |true =>
 have hP:=hbb.1 rfl;refine dQ (by simp only[am,aD,simprocAttr,decide_true,decide_false]) (bK ?_);have hfn:=hf.bounds;have rg4:ak h4 h.next 0 1=some [.int .i64 (nn:Nat)]:=br gG4 rfl;refine ae (ar (by simp only[am,aD,simprocAttr,bE,rg4,FO hfn.2.1]<;>rfl) ?_);have x5:Ext h4.next h4 (h4.new (.cells (cA [.nils] nn) 1 false)):=Mb (ab _);have g5:(h4.new (.cells (cA [.nils] nn) 1 false)).get h4.next=some (.cells (cA [.nils] nn) 1 false):=by rw[AH.get_new,if_pos rfl]
 have n5:(h4.new (.cells (cA [.nils] nn) 1 false)).next=h4.next+1:=rfl;generalize h4.new (.cells (cA [.nils] nn) 1 false)=h5 at *
 have X5:=X4.trans (x5.mono X4.nx);have Y5:Ext h2.next h2 h5:=Y4.trans (x5.mono Y4.nx);have hf5:=hf.ext Y5;have hfb2:fb<h2.next:=by obtain⟨iv,vp,pv,hV,g,_⟩:=hf;exact AH.lt_of_get g
 have ra5:ak h5 (h.next+1) 0 1=some [ordv]:=br (by rw[x5.gt _ om];exact gP4) rfl;obtain⟨hperm,hol,hout⟩:=hP;have hrl:(cA [AV.nils] nn).length=nn:=by rw[gM,gA]
 refine ae (ae (ar (Mi2 ra5 lp) ?_))
 refine fj (α:=Nat×List It×List (List It)×List AV) (N:=order.length) (λ_ _=>[(4,.sl h4.next 0 nn nn),(7,.ptr fb 0),(3,.ptr (h.next+1) 0),(6,.ptr (h.next+2) 0),(30,ordv)])
  (λk a h'=>tE nn es outs (order.drop k) (order.take k) a.2.1 a.2.2.1 k=tE nn es outs order [] [] (List.replicate nn []) 0/\IsFront h' fb a.1 nn es a.2.1 (order.take k)/\h'.get h4.next=some (.cells a.2.2.2 1 false)/\a.2.2.2.length=nn/\a.2.2.1.length=nn /\
   (∀(i:Nat) (v:AV) (l:List It),a.2.2.2[i]?=some v->a.2.2.1[i]?=some l->SlT h' v l/\∀b o m c,v=.sl b o m c->fb<b)/\a.1≠h4.next/\fb<=a.1/\Ext h.next h h'/\h4.next<h'.next/\h'.get (h.next+1)=some (.cells [ordv,outv] 2 false)/\h'.get (h.next+2)=some (.cells [.int .i64 0,.int .i64 0,.nils] 3 false)/\a.2.1.length<=300*k)
  (fb,[],List.replicate nn [],cA [.nils] nn) (λ_ _=>rfl) om (Oi0)
  ⟨by simp,by simpa using hf5,g5,hrl,by simp,λi v l h1 h2=>?_,by simp only;omega,ab _,X5,om,by rw[x5.gt _ om];exact gP4,by rw[x5.gt _ om];exact gF4,by simp⟩ ?_ ?_
 .simp only[gM]at h1;rw[dB]at h1 h2;split at h1
  .rename_i hi
   rw[if_pos hi]at h2;simp only[aa]at h1 h2;subst h1 h2;exact⟨.inl ⟨rfl,.inl rfl⟩,λb o m c e=>by cases e⟩
  .cases h1
 .rintro k ⟨pb,row,ends,ls⟩ ts h6 hk ⟨j1,j2,j3,j4,j5,j6,j7,j8,jx,jn,jP,jF,jl⟩ ⟨ei,en,e4,e7,e3,e6,e30,-⟩;simp only at ei en e4 e7 e3 e6 e30 j1 j2 j3 j4 j5 j6 j7 j8 jl;obtain⟨b1,p1,a1,r1,_⟩:=(hp.ext jx (ab _)).at1 (eJ (f:=eI) hk);have hxm:order[k]∈pH nn:=hperm.mem_iff.1 (aZ hk);obtain⟨hx0,hx1⟩:=sy.1 hxm;obtain⟨x,hx⟩:∃x:Nat,order[k]=x:=⟨order[k].toNat,om⟩
  rw[bT hk,CG]at j1;rw[hx]at r1 j1;have hxn:x<nn:=om;refine ae (ar (M4 ei e30 a1 r1) ?_);have rb6:ak h6 (h.next+1) 1 1=some [outv]:=br jP rfl;obtain⟨b2,p2,w,a2,r2,sw,_⟩:=(hq.ext jx).at (k:=x) om;have hswl:∀b o m c,w=.sl b o m c->b≠fb/\b≠pb:=by
   intro b o m c hb;obtain⟨b2',p2',w',a2',r2',sw',_⟩:=hq.at (k:=x) om;rw[a2]at a2';cases a2';rw[cS (jx.gt _ (by assumption)),r2']at r2;simp only[aa,de,and_true]at r2;subst r2;have:=sw'.lt hb;constructor<;>omega
  have htl:(order.take k).length=k:=by rw[bB];omega
  have hlk:=hl3 _ (aZ (show x<outs.length by omega));have hgd:outs.getD x []=outs[x]'om:=BN om;refine ae (bM (aV 9 (M6 e7 e3 e4 rb6 a2 r2) rfl (Z6 e7 e3 e4 rb6 a2 r2) (M6 e7 e3 e4 rb6 a2 r2) (Dr (x:=((x:Nat):Int)) j2 sw hswl om om om) λr h7 hq'=>?_));rw[bU]at j1;have ix:gh ((x:Nat):Int) nn=some x:=dL hxn;by_cases hrd:ii nn es row (order.take k) ((x:Nat):Int)=true
  .rw[if_pos hrd]at hq' j1;have ho:=hout x hxn;rw[hgd]at ho j1;rw[if_pos (rY.2 ho)]at hq';obtain⟨gv,pb',rfl,ig,hf7,hpb',K7⟩:=hq';have n7:=K7.nx;have hlsl:∀(i:Nat) (v:AV) (l:List It),ls[i]?=some v->ends[i]?=some l->SlT h7 v l:=λi v l h1 h2=>by
    obtain⟨s1,s2⟩:=j6 i v l h1 h2;refine s1.cong λb o m c hb=>K7.gt b (s1.lt hb) ?_;have hfb':=s2 b o m c hb;rintro (e|e)
    .omega
    ·
     obtain⟨iv,vp2,pv,hV,g,si,so,vv,vx,v1,v2,v3,pp⟩:=j2;rcases pp with⟨_,_,q⟩|⟨m',_,q,_,_⟩
     .omega
     .rcases s1 with⟨_,hn|hn⟩|⟨b',o',c',cs',ro',hb2,hg2,_⟩
      .subst hn;cases hb
      .subst hn;cases hb
      .subst hb2;cases hb;rw[e,q]at hg2;simp at hg2
   have gE7:h7.get h4.next=some (.cells ls 1 false):=by rw[K7.gt _ jn (by rintro (e|e)<;>omega)];exact j3
   obtain⟨gc,go⟩:=ig.cells;have wE:bV h7 h4.next x [gv]=some (h7.put h4.next (.cells (ls.set x gv) 1 false)):=hG gE7 om;refine bF (M6 e4 ix @aM wE gc go) ?_;have u8:=Md (o:=.cells (ls.set x gv) 1 false) gE7;have n8:(h7.put h4.next (.cells (ls.set x gv) 1 false)).next=h7.next:=rfl;generalize h7.put h4.next (.cells (ls.set x gv) 1 false)=h8 at *
   refine ae (ae (ar (M0) ?_));refine dQ (by simp only[am,aD,simprocAttr,decide_true,decide_false]) (bK ?_);have hne:∀v:AV,∀l:List It,SlT h7 v l->SlT h8 v l:=λv l s=>s.cong λb o m c hb=>u8.ne λe=>by
    rcases s with⟨_,hn|hn⟩|⟨b',o',c',cs',ro',hb2,hg2,_⟩
    .subst hn;cases hb
    .subst hn;cases hb
    .subst hb2;cases hb;rw[e,gE7]at hg2;simp at hg2
   have hf8:IsFront h8 fb pb' nn es (kQ es ((x:Nat):Int) (outs[x]'om) row) (order.take k++[((x:Nat):Int)]):=by
    obtain⟨iv,vp2,pv,hV,g,si,so,vv,vx,v1,v2,v3,pp⟩:=hf7;have hVE:hV.next<=h4.next:=om;refine⟨iv,vp2,pv,hV,by rw[u8.ne om];exact g,hne _ _ si,so,vv,⟨by rw[n8];exact vx.nx,λc hc=>by rw[u8.ne om];exact vx.gt _ hc,λc hc=>by rw[u8.ty];exact vx.ty _ hc⟩,v1,v2,by rw[n8];exact v3,?_⟩;rcases pp with pp|⟨m,p1,p2,p3⟩
    .exact .inl pp
    .exact .inr ⟨m,p1,by rw[u8.ne om];exact p2,p3⟩
   have htk:order.take (k+1)=order.take k++[((x:Nat):Int)]:=by rw[be hk,hx]
   refine⟨(pb',kQ es ((x:Nat):Int) (outs[x]'om) row,ends.set x (mT ((x:Nat):Int) row),ls.set x gv),⟨by rw[htk];exact j1,by rw[htk];exact hf8,u8.get,by simpa using j4,by simpa using j5,λi v l h1 h2=>?_,by simp only;omega,by simp only;omega,?_,om,?_,?_,?_⟩,O7 ei en e4 e7 e3 e6 e30⟩
   .simp only at h1 h2;by_cases e:x=i
    .subst e;rw[cL om,aa]at h1 h2;subst h1 h2;refine⟨hne _ _ (LY om (λ_=>rfl) ig),λb o m c hb=>?_⟩;rcases ig with⟨rfl,_⟩|⟨b',m',hb',rfl,_,_⟩
     .cases hb
     .cases hb;omega
    .rw[cG e]at h1 h2;exact⟨hne _ _ (hlsl i v l h1 h2),(j6 i v l h1 h2).2⟩
   .refine jx.trans ⟨by rw[n8];exact n7,λc hc=>?_,λc hc=>?_⟩
    .rw[u8.ne om,K7.gt c om (by rintro (e|e)<;>omega)]
    .rw[u8.ty,K7.ty c om]
   .rw[u8.ne om,K7.gt _ om (by rintro (e|e)<;>omega)];exact jP
   .rw[u8.ne om,K7.gt _ om (by rintro (e|e)<;>omega)];exact jF
   .have:=FI (es:=es) (x:=((x:Nat):Int)) (outs:=outs[x]'om) (row:=row);simp only;omega
  .rw[if_neg hrd]at hq' j1;obtain⟨rfl,x7⟩:=hq';have X7:=jx.trans (x7.mono jx.nx);have gE7:h7.get h4.next=some (.cells ls 1 false):=by rw[x7.gt _ jn];exact j3
   have wE:bV h7 h4.next x [.nils]=some (h7.put h4.next (.cells (ls.set x .nils) 1 false)):=hG gE7 om;refine bF (M4 e4 ix @aM wE) ?_;have u8:=Md (o:=.cells (ls.set x .nils) 1 false) gE7;generalize h7.put h4.next (.cells (ls.set x .nils) 1 false)=h8 at *
   refine ae (ae (ar (M0) ?_));have n7:=x7.nx;have gF8:h8.get (h.next+2)=some (.cells [.int .i64 0,.int .i64 0,.nils] 3 false):=by rw[u8.ne om,x7.gt _ om];exact jF
   obtain⟨h9,w9,r9,X9,_⟩:=hend h8 3 ((k:Nat):Int) gF8 (X7.trans (u8.ext om));refine dg (by simp only[am,aD,simprocAttr,decide_true,decide_false]) (ae (ar (M3 ei e6 w9) ?_));exact bG ⟨.tup [.nils,.nils,.agg [.int .i64 3,.int .i64 ((k:Nat):Int),.nils]],(by simp only[rs,rf6,am,aD,simprocAttr,ei,e6,r9]<;>rfl),X9,.inr ⟨⟨hgood,hperm,hol,hout⟩,.inl ⟨k,j1.symm,rfl⟩⟩⟩
 .rintro⟨pb,row,ends,ls⟩ ts h6 ⟨j1,j2,j3,j4,j5,j6,j7,j8,jx,jn,jP,jF,jl⟩ ⟨e4,e7,e3,e6,e30,-⟩;simp only at e4 e7 e3 e6 e30 j1 j2 j3 j4 j5 j6 j7 j8 jl;rw[List.drop_length]at j1;refine ae (bM (aV 4 (M2 e4 e7) rfl (Z2 e4 e7) (M2 e4 e7) (JM j2 om) λr h7 hq'=>?_));obtain⟨i7,x7⟩:=hq';obtain⟨ic,io⟩:=i7.cells;have X7:=jx.trans (x7.mono jx.nx);have n7:=x7.nx;have gF7:h7.get (h.next+2)=some (.cells [.int .i64 0,.int .i64 0,.nils] 3 false):=by rw[x7.gt _ om];exact jF
  obtain⟨h8,w8,r8,X8,k8⟩:=hend h7 0 0 gF7 X7;refine bF (M2 e6 w8) ?_;have keep:∀v:AV,∀b o m c,v=.sl b o m c->b≠h.next+2->∀l,SlT h6 v l->SlT h8 v l:=λv b o m c hv hb l s=>s.cong λb' o' m' c' hv'=>by
   rw[hv]at hv';cases hv';rw[k8 b hb,x7.gt _ (s.lt hv)]
  refine bG ⟨.tup [.sl h4.next 0 nn nn,r,.agg [.int .i64 0,.int .i64 0,.nils]],(by simp only[rs,rf6,am,aD,simprocAttr,e6,r8]<;>rfl),X8,.inr ⟨⟨hgood,hperm,hol,hout⟩,.inr ⟨ends,row,_,_,j1.symm,rfl,⟨ls,?_,by rw[j4,j5],λi v l h1 h2=>?_⟩,?_⟩⟩⟩
  .exact Ma (by rw[k8 _ om,x7.gt _ om];exact j3) j4 (ab _)
  .obtain⟨s1,s2⟩:=j6 i v l h1 h2;refine s1.cong λb o m c hv=>?_;have:=s2 b o m c hv;rw[k8 b om,x7.gt _ (s1.lt hv)]
  .exact(LY om (λ_=>rfl) i7:SlT h7 r row).cong λb o m c hv=>by
    refine k8 b λe=>?_;rcases i7 with⟨rfl,_⟩|⟨b',m',hb',rfl,_,_⟩
    .cases hv
    .cases hv;omega
open Go.Am
theorem w1_ok{k:Nat}(h:k<2^62):IntKind.i64.wrap (((k:Nat):Int)+1)=((k+1:Nat):Int):=fW om om
open Go.Am
theorem ka{x:AV}(h:fY v=some x):v.cells=[v]/\v.one=true:=by
 unfold fY at h;split at h
 .exact⟨rfl,rfl⟩
 .exact⟨rfl,rfl⟩
 .exact⟨rfl,rfl⟩
 .cases h
theorem GD{n:Int}(he:fY ev=some (.int .i64 (ne:Nat)))(hp:fY ordv=some (.int .i64 (no:Nat)))(hu:fY outv=some (.int .i64 (nu:Nat)))(hq:nu<=100->SlL h outv outs) :
 C prg 5 [.agg [.int .i64 n,ev],.agg [ordv,outv]] h λr h'=>(∃b,r=.bool b/\(b=false->ne<=200/\no<=100/\nu<=100/\∀l∈outs,l.length<=200))/\Ext h.next h h':=by
 obtain⟨ec,eo⟩:=ka he;obtain⟨oc,oo⟩:=ka hp;obtain⟨qc,qo⟩:=ka hu;refine Me pf5 ?_;refine ae (ar (Ji0) ?_);have ga:∀c,((h.new (.cells [.int .i64 n,ev] 2 false)).new (.cells [ordv,outv] 2 false)).get c=if c=h.next+1 then some (.cells [ordv,outv] 2 false)else if c=h.next then some (.cells [.int .i64 n,ev] 2 false)else h.get c:=λc=>by
  rw[AH.get_new,AH.get_new];rfl
 have x0:Ext h.next h ((h.new (.cells [.int .i64 n,ev] 2 false)).new (.cells [ordv,outv] 2 false)):=(Mb (ab _)).trans (Mb (by simp));generalize ((h.new (.cells [.int .i64 n,ev] 2 false)).new (.cells [ordv,outv] 2 false))=h1 at *
 have gG:h1.get h.next=some (.cells [.int .i64 n,ev] 2 false):=by rw[ga,if_neg om,if_pos rfl]
 have gP:h1.get (h.next+1)=some (.cells [ordv,outv] 2 false):=by rw[ga,if_pos rfl]
 have re:ak h1 h.next 1 1=some [ev]:=br gG rfl;have ra:ak h1 (h.next+1) 0 1=some [ordv]:=br gP rfl;have rb:ak h1 (h.next+1) 1 1=some [outv]:=br gP rfl;by_cases q1:200<ne
 .have c1:decide ((200:Int)<((ne:Nat):Int))=true:=bj om;refine ae (ae (ar (Mi3 re he c1) ?_));refine dg (Z0) (ae (ar (M0) ?_));exact bG ⟨.bool true,(by simp only[rs,rf5,am,aD,simprocAttr]<;>rfl),⟨true,rfl,λh=>by cases h⟩,x0⟩
 have c1:decide ((200:Int)<((ne:Nat):Int))=false:=aN om;by_cases q2:100<no
 .have c2:decide ((100:Int)<((no:Nat):Int))=true:=bj om;refine ae (ae (ar (Mi6 re he c1 ra hp c2) ?_));refine dg (Z0) (ae (ar (M0) ?_));exact bG ⟨.bool true,(by simp only[rs,rf5,am,aD,simprocAttr]<;>rfl),⟨true,rfl,λh=>by cases h⟩,x0⟩
 have c2:decide ((100:Int)<((no:Nat):Int))=false:=aN om;by_cases q3:100<nu
 .have c3:decide ((100:Int)<((nu:Nat):Int))=true:=bj om;refine ae (ae (ar (Mi10 re he c1 ra hp c2 rb hu c3 c3) ?_));refine dg (Z0) (ae (ar (M0) ?_));exact bG ⟨.bool true,(by simp only[rs,rf5,am,aD,simprocAttr]<;>rfl),⟨true,rfl,λh=>by cases h⟩,x0⟩
 have c3:decide ((100:Int)<((nu:Nat):Int))=false:=aN om;have hs:=(hq om).ext x0;have hlu:outs.length=nu:=by
  have:=hs.len;rw[hu]at this;simp only[aa,AV.int.injEq,true_and]at this;omega
 refine ae (ae (ar (Mi10 re he c1 ra hp c2 rb hu c3 c3) ?_));refine dQ (Z0) (bK ?_);refine ae (ae (ar (Mi2 rb hu) ?_));refine fj (α:=Unit) (N:=nu) (λ_ _=>[(24,outv)]) (λk _ h'=>h'=h1/\∀l∈outs.take k,l.length<=200) () (λ_ _=>rfl) om (Hi0) ⟨rfl,by simp⟩ ?_ ?_
 .rintro k _ ts h2 hk ⟨rfl,j1⟩ ⟨ei,en,e24,-⟩;simp only at ei en e24;obtain⟨b1,p1,w,a1,r1,sw,_⟩:=hs.at (show k<outs.length by omega);have lw:=sw.len;rw[ah]at lw;refine ae (ar (M4 ei e24 a1 r1) ?_);refine ae (ar (M1 lw) ?_);refine dY (t:=decide (200<(outs[k]'om).length)) (by simp only[am,aD,simprocAttr];exact congrArg AV.bool (by simp only[decide_eq_decide];omega)) (λp=>?_) λp=>?_
  .refine ae (ar (M0) ?_);exact bG ⟨.bool true,(by simp only[rs,rf5,am,aD,simprocAttr]<;>rfl),⟨true,rfl,λh=>by cases h⟩,x0⟩
  .have p:¬200<(outs[k]'om).length:=cM p;refine bK ⟨(),⟨rfl,λl hl=>?_⟩,H3 ei en e24⟩;rw[be om,aw]at hl;rcases hl with hl|hl
   .exact j1 l hl
   .simp only[au,aR,or_false]at hl;subst hl;omega
 .rintro _ ts h2 ⟨rfl,j1⟩ ⟨e24,-⟩;rw[cB om]at j1;refine ae (ar (M0) ?_);exact bG ⟨.bool false,(by simp only[rs,rf5,am,aD,simprocAttr]<;>rfl),⟨false,rfl,λ_=>⟨om,om,om,j1⟩⟩,x0⟩
open Go.Am
open Go.Am
open Go.Am
def bl(n:Nat)(p:Nat->Bool):List AV:=(List.range n).map λi=>.bool (p i)
def il(n:Nat)(f:Nat->Int):List AV:=(List.range n).map λi=>.int .i64 (f i)
theorem oS(n:Nat)(p:Nat->Bool):(bl n p).length=n:=by simp[bl]
theorem sI(n:Nat)(f:Nat->Int):(il n f).length=n:=by simp[il]
theorem mD(h:i<n):(bl n p)[i]?=some (.bool (p i)):=by
 unfold bl;rw[aE,dp h];rfl
theorem mS(h:i<n):(il n f)[i]?=some (.int .i64 (f i)):=by
 unfold il;rw[aE,dp h];rfl
theorem wT{b:Bool}:(bl n p).set i (.bool b)=bl n λj=>if j=i then b else p j:=by
 refine du λj=>?_;rw[dK,oS];by_cases hj:j<n
 .rw[mD hj,mD hj];by_cases e:i=j
  .subst e;simp[hj]
  .rw[if_neg e,if_neg (λq=>e q.symm)]
 .rw[bO (l:=bl n p) (by rw[oS];omega),bO (by rw[oS];omega)];split
  .rw[if_neg om]
  .rfl
theorem LC{b:Int}:(il n f).set i (.int .i64 b)=il n λj=>if j=i then b else f j:=by
 refine du λj=>?_;rw[dK,sI];by_cases hj:j<n
 .rw[mS hj,mS hj];by_cases e:i=j
  .subst e;simp[hj]
  .rw[if_neg e,if_neg (λq=>e q.symm)]
 .rw[bO (l:=il n f) (by rw[sI];omega),bO (by rw[sI];omega)];split
  .rw[if_neg om]
  .rfl
theorem wU(n:Nat):cA [AV.bool false] n=bl n λ_=>false:=by
 rw[gM];unfold bl;rw[List.map_const',cN]
theorem BK(n:Nat):cA [AV.int .i64 0] n=il n λ_=>0:=by
 rw[gM];unfold il;rw[List.map_const',cN]
theorem Gv{p q:Nat->Int}(h:∀i,i<n->p i=q i):il n p=il n q:=by
 unfold il;exact eA λi hi=>by rw[h i (bm.1 hi)]
end Go.Proofs.YtmibmlioidpogaaGreatDoor
