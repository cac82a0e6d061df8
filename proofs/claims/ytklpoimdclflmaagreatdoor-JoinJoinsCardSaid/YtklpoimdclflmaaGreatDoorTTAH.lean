/- front -/
import Derived.Test.YtklpoimdclflmaaGreatDoorTTAG
set_option linter.all false
namespace Go.Proofs.YtklpoimdclflmaaGreatDoor
open Go.Am
variable {A X row:List It}{es:List (Int×Int)}{fb n pb:Nat}{h:AH}{i x y:Int}{iv ov pv vp:AV}{l outs pl:List Int}
def IsFront(h:AH)(fb pb n:Nat)(es:List (Int×Int))(row:List It)(pl:List Int):Prop :=
 ∃(iv vp pv:AV) (hV:AH),h.get fb=some (.cells [iv,vp,pv] 3 false)/\SlT h iv row/\(∀b o n c,iv=.sl b o n c->b≠fb/\b≠pb)/\IsView hV vp n es/\Ext hV.next hV h/\hV.next<=fb/\hV.next<=pb/\pb<h.next /\
   ((pv=.nils/\pl=[]/\pb=fb)\/∃m,pv=.sl pb 0 m m/\h.get pb=some (.cells (pl.flatMap eI) 1 false)/\m=pl.length/\pb≠fb)
def IsView.at{hV:AH}(hv:IsView hV vp n es)(hx:Ext hV.next hV h):IsView h vp n es:=hv.ext hx
def IsFront.ext{h h':AH}{fb pb n:Nat}{es:List (Int×Int)}{row:List It}{pl:List Int}(hf:IsFront h fb pb n es row pl)(hx:Ext h.next h h'):IsFront h' fb pb n es row pl:=by
 obtain⟨iv,vp,pv,hV,g,si,so,vv,vx,v1,v2,v3,pp⟩:=hf;refine⟨iv,vp,pv,hV,by rw[hx.gt _ (AH.lt_of_get g)];exact g,si.ext hx (ab _),so,vv,vx.trans (hx.mono vx.nx),v1,v2,du v3 hx.nx,?_⟩;rcases pp with pp|⟨m,p1,p2,p3⟩
 .exact .inl pp
 .exact .inr ⟨m,p1,by rw[hx.gt _ v3];exact p2,p3⟩
def Ft(pp:(pv=.nils/\pl=[]/\pb=fb)\/∃m,pv=.sl pb 0 m m/\h.get pb=some (.cells (pl.flatMap eI) 1 false)/\m=pl.length/\pb≠fb):SlI h pv pl:=by
 rcases pp with⟨rfl,rfl,_⟩|⟨m,rfl,p2,rfl,_⟩
 .exact .inl ⟨rfl,.inl rfl⟩
 .exact Ob (lo:=0) om (λ_=>rfl) (.inr ⟨pb,_,om,rfl,p2,by rw[ee,aP]⟩)
def Kw{lo hi:Nat}{w:AV}{items:List It}(hg:h.get fb=some (.cells [iv,vp,pv] 3 false))(hv:SlT h iv row)(hw:SlT h w items)(hlo:lo<=hi)(hhi:hi<=row.length)(hl:row.length<2^30)(hl2:items.length<2^30) :
 C prg 69 [.ptr fb 0,.int .i64 (lo:Nat),.int .i64 (hi:Nat),w] h λr h'=>IsSl h' 3 h.next r (((row.drop lo).take (hi-lo)).flatMap eT)/\∃iv',h'.get fb=some (.cells [iv',vp,pv] 3 false)/\IsSl h' 3 h.next iv' ((row.take lo++items++row.drop hi).flatMap eT)/\Kp (·=fb) h h':=by
 refine Oj rfl ?_;refine ae (ak (Mi0) ?_);have r1:ai h fb 0 1=some [iv]:=bq hg rfl;obtain⟨v1,s1,t1,_⟩:=hv.part hlo (by rw[ah];exact hhi);rw[<-gJ,<-gI]at t1;refine ae (bM (bj 7 (by simp only[am,aL,simprocAttr,bV,r1,dQ,bW,s1]<;>rfl) rfl (by simp only[am,aL,simprocAttr,bV,r1,dQ,bW,s1]) (by simp only[am,aL,simprocAttr,bV,r1,dQ,bW,s1]<;>rfl) (xR t1 (by rw[aS,cI];omega)) λg h1 hq=>?_));obtain⟨ig,x1,_⟩:=hq;refine bI (M0) ?_;have n1:=x1.nx;have hfb:=AH.lt_of_get hg;have kg:∀c,c<h1.next->(h1.keep 1).get c=h1.get c:=λc hc=>by rw[AH.keep_get,if_neg om]
 have q7:(h1.keep 1).get h1.next=some .resv:=ff;have g1:h1.get fb=some (.cells [iv,vp,pv] 3 false):=by rw[x1.gt _ hfb];exact hg
 have r2:ai (h1.keep 1) fb 0 1=some [iv]:=bq (by rw[kg _ om];exact g1) rfl;have hv1:=hv.ext x1 (ab _);have hvk:SlT (h1.keep 1) iv row:=hv1.cong λb o n c e=>kg _ (hv1.lt e);obtain⟨v2,f2,t2,t2b,_⟩:=hvk.upto (hi:=lo) (by rw[ah];omega);obtain⟨v3,f3,t3,t3b,_⟩:=hvk.from (lo:=hi) (by rw[ah];omega);rw[<-gI]at t2;rw[<-gJ]at t3;have hw1:=hw.ext x1 (ab _);obtain⟨p1,p2,p3,p4⟩:=fO (h:=h1) (o:=.cells [v2,w,v3] 1 false);have kgp:∀c,c<h1.next->((h1.keep 1).put h1.next (.cells [v2,w,v3] 1 false)).get c=(h1.keep 1).get c:=λc hc=>by rw[p4 c hc,kg c hc]
 have ivb:InB (λb=>b<h1.next) iv:=by
  rcases hv1 with⟨_,rfl|rfl⟩|⟨b,o,c,cs,ro,rfl,hgg,_⟩
  .trivial
  .trivial
  .exact AH.lt_of_get hgg
 have t2':SlT ((h1.keep 1).put h1.next (.cells [v2,w,v3] 1 false)) v2 (row.take lo):=t2.cong λb o n c e=>kgp _ (by have:=t2b _ ivb;rw[e]at this;exact this);have t3':SlT ((h1.keep 1).put h1.next (.cells [v2,w,v3] 1 false)) v3 (row.drop hi):=t3.cong λb o n c e=>kgp _ (by have:=t3b _ ivb;rw[e]at this;exact this);have hw':SlT ((h1.keep 1).put h1.next (.cells [v2,w,v3] 1 false)) w items:=hw1.cong λb o n c e=>p4 _ (hw1.lt e);have hcat:=CP (h:=(h1.keep 1).put h1.next (.cells [v2,w,v3] 1 false)) (v:=.sl h1.next 0 3 3) (vs:=[v2,w,v3]) (xss:=[row.take lo,items,row.drop hi]) (Od p2 rfl (ab _)) rfl (λi w' xs hw'' hx=>by
  match i with
  |0 =>
    simp only[bD,aa]at hw'' hx;subst hw'' hx;exact t2'
  |1 =>
    simp only[cJ,bD,aa]at hw'' hx;subst hw'' hx;exact hw'
  |2 =>
    simp only[cJ,bD,aa]at hw'' hx;subst hw'' hx;exact t3'
  |i+3=>simp at hw'') (by simp) (by simp only[iJ,eX,bF,aJ,cI,aS];omega)
 refine ae (pw (bj 15 (by simp only[am,aL,simprocAttr,bV,r2,dQ,bW,f2,f3,eA,dR q7,t2.cells.1,t3.cells.1,hw.cells.1]<;>rfl) rfl (by simp only[am,aL,simprocAttr,bV,r2,dQ,bW,f2,f3,eA,dR q7,t2.cells.1,t3.cells.1,hw.cells.1]) (by simp only[am,aL,simprocAttr,bV,r2,dQ,bW,f2,f3,eA,dR q7,t2.cells.1,t3.cells.1,hw.cells.1]<;>rfl) (hcat) λr h8 hq=>?_));obtain⟨i8,x8⟩:=hq;have n8:=x8.nx;rw[p3]at n8;have g8:h8.get fb=some (.cells [iv,vp,pv] 3 false):=by rw[x8.gt _ om,p4 _ om];exact g1
 have w8:bP h8 fb 0 [r]=some (h8.put fb (.cells [r,vp,pv] 3 false)):=by rw[dw g8];rfl
 obtain⟨rc,ro⟩:=i8.cells;refine bI (M3 rc ro w8) ?_;have u9:=Oi (o:=.cells [r,vp,pv] 3 false) g8;generalize h8.put fb (.cells [r,vp,pv] 3 false)=h9 at *
 refine ae (ak (M0) ?_);have e8:[row.take lo,items,row.drop hi].flatten=row.take lo++items++row.drop hi:=by simp
 rw[e8,p3]at i8;refine bu ⟨g,(by simp only[rs,rf69,am,aL,simprocAttr]<;>rfl),?_,r,u9.get,(i8.upd u9 om).mono om,?_⟩
 .exact(((ig.ext p1 (ab _)).ext x8 om).cong λb n e hb=>u9.ne om)
 .exact(x1.kp (S:=(·=fb)) (ab _)).trans ((p1.kp (ab _)).trans ((x8.kp (ab _)).trans (u9.kp (S:=(·=fb)) rfl) (λ_ _ q=>q)) (λ_ _ q=>q)) (λ_ _ q=>q)
def eV(es:List (Int×Int))(x:Int)(outs:List Int):List It:=if outs=[]then [(-1,x,-1)]else outs.map λi=>(i,x,((es[i.toNat]?).getD (0,0)).2)
def Kb(hg:h.get fb=some (.cells [iv,vp,pv] 3 false))(hv:IsView h vp n es)(ho:SlI h ov outs)(hr:∀i∈outs,0<=i/\i<es.length)(hl:outs.length<2^30) :
 C prg 70 [.ptr fb 0,.int .i64 x,ov] h λr h'=>IsSl h' 3 h.next r ((eV es x outs).flatMap eT)/\Ext h.next h h':=by
 obtain⟨b,ev,os,is,ob,ib,rfl,g1,g2,g3,g4,g5,g6,g7,g8,m1,m2,m3,m4⟩:=hv;have lo:=ho.len;rw[ah]at lo;refine Oj rfl ?_;refine ae (ak (Mi0) ?_);refine ae (ae (ak (Mi1 lo) ?_));by_cases q:outs=[]
 .subst q;refine cZ (by simp only[am,aL,simprocAttr];rfl) (ae (ak (Mi0) ?_));refine bu ⟨.sl h.next 0 1 1,(by simp only[rs,rf70,am,aL,simprocAttr]<;>rfl),?_,Oe (ab _)⟩;exact .inr ⟨h.next,1,ab _,rfl,by rw[AH.get_new,if_pos rfl];rfl,rfl⟩
 have ql:outs.length≠0:=λe=>q (aW.1 e);have c1:decide (((outs.length:Nat):Int)=0)=false:=aw om;refine dC (Z1 c1) (bz ?_);have hA:eV es x outs=outs.map λi=>(i,x,((es[i.toNat]?).getD (0,0)).2):=by unfold eV;rw[if_neg q]
 rw[hA];refine ae (ae (ak (Mi1 lo) ?_));refine fi (α:=AV) (N:=outs.length) (λ_ a=>[(0,.ptr fb 0),(1,.int .i64 x),(15,ov),(6,a)]) (λk a h'=>IsSl h' 3 h.next a (((outs.map λi=>(i,x,((es[i.toNat]?).getD (0,0)).2)).take k).flatMap eT)/\Ext h.next h h') .nils (λ_ _=>rfl) om (Oi0) ⟨.inl ⟨rfl,rfl⟩,Oh⟩ ?_ ?_
 .rintro k a ts h1 hk ⟨j1,jx⟩ ⟨ei,en,e0,e1,e15,e6,-⟩;simp only at ei en e0 e1 e15 e6;obtain⟨b1,p1,a1,r4,_⟩:=(ho.ext jx (ab _)).at1 (cm (f:=eI) hk);obtain⟨hi1,hi2⟩:=hr _ (ar hk);obtain⟨i,hi⟩:∃i:Nat,outs[k]=i:=⟨outs[k].toNat,om⟩
  rw[hi]at r4 hi2;have hil:i<es.length:=om;obtain⟨eb1,ep,a7,_,r7,_⟩:=(g2.ext jx (ab _)).at (cm (f:=eE) hil);have r7:=r7 1 (.int .i64 es[i].2) rfl;have rf1:ai h1 fb 1 1=some [.ptr b 0]:=bq (by rw[jx.gt _ (AH.lt_of_get hg)];exact hg) rfl;have rv:ai h1 b 1 1=some [ev]:=bq (by rw[jx.gt _ (AH.lt_of_get g1)];exact g1) rfl;have hlen:(((outs.map λi=>(i,x,((es[i.toNat]?).getD (0,0)).2)).take k).flatMap eT).length=k*3:=by
   rw[dE (f:=eT) (e:=3) (λ_=>rfl),aS,ah,cD om]
  obtain⟨s',h2,a2,i2,x2,n2⟩:=j1.push (bytes:=24) (eT (((i:Nat):Int),x,es[i].2)) jx.nx om rfl rfl (by rw[hlen,cQ _ om];unfold bf;omega) (by rw[hlen,cQ _ om];unfold bf;omega);rw[show eT (((i:Nat):Int),x,es[i].2)=[.int .i64 ((i:Nat):Int),.int .i64 x,.int .i64 es[i].2] from rfl]at a2 i2;refine ae (ak (M4 e15 ei a1 r4) ?_);refine ak (M8 e0 e1 e6 rf1 rv a7 r7 a2) ?_;refine⟨s',⟨?_,jx.trans x2⟩,O5 ei en e0 e1 e15⟩;have e1:(outs.map λi=>(i,x,((es[i.toNat]?).getD (0,0)).2)).take (k+1)=(outs.map λi=>(i,x,((es[i.toNat]?).getD (0,0)).2)).take k++[(((i:Nat):Int),x,es[i].2)]:=by
   rw[aI (by rw[ah];exact hk),dz,hi,aO,aj hil,cL]
  rw[e1,br];exact i2
 .rintro a ts h1 ⟨j1,jx⟩ ⟨e0,e1,e15,e6,-⟩;simp only at e0 e1 e15 e6;rw[dx (by rw[ah];exact ab _)]at j1;refine ae (ak (M1 e6) ?_);exact bu ⟨a,(by simp only[rs,rf70,am,aL,simprocAttr]<;>rfl),j1,jx⟩
def ip(n:Nat)(es:List (Int×Int))(row:List It)(pl:List Int)(x:Int):Bool :=
 decide (0<=x/\x<n)&&!decide (x∈pl)&&(decide ((dS x row).2.2=((dr es x).length:Nat))&&(decide ((dr es x).length=0)||yf x ((row.drop (dS x row).1.toNat).take ((dS x row).2.1.toNat-(dS x row).1.toNat))))
def HD(hf:IsFront h fb pb n es row pl)(hl:row.length<2^30)(hl2:pl.length<2^30) :
 C prg 67 [.ptr fb 0,.int .i64 x] h λr h'=>r=.bool (ip n es row pl x)/\Ext h.next h h':=by
 obtain⟨iv,vp,pv,hV,g,si,so,vv,vx,v1,v2,v3,pp⟩:=hf;have hv:=vv.at vx;have hv0:=hv;obtain⟨b,ev,os,is,ob,ib,rfl,g1,g2,g3,g4,g5,g6,g7,g8,m1,m2,m3,m4⟩:=hv;have sp:=Ft pp;refine Oj rfl ?_;have rf1:ai h fb 1 1=some [.ptr b 0]:=bq g rfl;have rf2:ai h fb 2 1=some [pv]:=bq g rfl;have rn:ai h b 0 1=some [.int .i64 (n:Nat)]:=bq g1 rfl;refine ae (ak (Mi0) ?_);by_cases q1:x<0
 .have c1:decide (x<0)=true:=aH q1;refine ae (ae (bM (fB 20 (Mi1 c1) rfl (Z0) ?_)));refine bI (M0) ?_;refine cZ (Z0) (ae (ak (M0) ?_));refine bu ⟨.bool false,(by simp only[rs,rf67,am,aL,simprocAttr]<;>rfl),?_,Oh⟩;have:decide (0<=x/\x<(n:Int))=false:=aw om;simp only[ip,this,eF]
 have c1:decide (x<0)=false:=aw q1;by_cases q2:((n:Nat):Int)<=x
 .have c2:decide (((n:Nat):Int)<=x)=true:=aH q2;refine ae (ae (bM (fB 20 (Mi4 c1 c2 rf1 rn) rfl (Z0) ?_)));refine bI (M0) ?_;refine cZ (Z0) (ae (ak (M0) ?_));refine bu ⟨.bool false,(by simp only[rs,rf67,am,aL,simprocAttr]<;>rfl),?_,Oh⟩;have:decide (0<=x/\x<(n:Int))=false:=aw om;simp only[ip,this,eF]
 have c2:decide (((n:Nat):Int)<=x)=false:=aw q2;have c3:decide (0<=x/\x<(n:Int))=true:=aH om;refine ae (ae (bM (bj 20 (Mi5 c1 c2 rf1 rf2 rn) rfl (Zi5 c1 c2 rf1 rf2 rn) (Mi5 c1 c2 rf1 rf2 rn) (Br (y:=x) sp om) λr h1 hq=>?_)));obtain⟨rfl,x1⟩:=hq;rw[sd];refine bI (M0) ?_;refine cF (t:=decide (x∈pl)) (Z0) (λq=>?_) λq=>?_
 .refine ae (ak (M0) ?_);refine bu ⟨.bool false,(by simp only[rs,rf67,am,aL,simprocAttr]<;>rfl),?_,x1⟩;simp only[ip,q,dp,kI,eF]
 refine bz ?_;have hred:ip n es row pl x=(decide ((dS x row).2.2=((dr es x).length:Nat))&&(decide ((dr es x).length=0)||yf x ((row.drop (dS x row).1.toNat).take ((dS x row).2.1.toNat-(dS x row).1.toNat)))):=by
  simp only[ip,c3,q,fI,oB]
 rw[hred];have gf1:h1.get fb=some (.cells [iv,.ptr b 0,pv] 3 false):=by rw[x1.gt _ (AH.lt_of_get g)];exact g
 have rg1:ai h1 fb 1 1=some [.ptr b 0]:=bq gf1 rfl;refine ae (bM (bj 5 (Mi1 rg1) rfl (Zi1 rg1) (Mi1 rg1) (LX (x:=x) (hv0.ext x1)) λr h2 hq=>?_));obtain⟨i2,x2⟩:=hq;have s2:SlI h2 r (dr es x):=Ob om (λ_=>rfl) i2;have l2:=s2.len;rw[ah]at l2;refine bI (M1 l2) ?_;have X2:=x1.trans (x2.mono x1.nx);have gf2:h2.get fb=some (.cells [iv,.ptr b 0,pv] 3 false):=by rw[X2.gt _ (AH.lt_of_get g)];exact g
 refine ae (bM (bj 4 (Mi0) rfl (Zi0) (Mi0) (DD (x:=x) gf2 (si.ext X2 (ab _)) hl) λr h3 hq=>?_));obtain⟨rfl,x3⟩:=hq;refine bI (M0) ?_;have X3:=X2.trans (x3.mono X2.nx);have gf3:h3.get fb=some (.cells [iv,.ptr b 0,pv] 3 false):=by rw[X3.gt _ (AH.lt_of_get g)];exact g
 have sok:=qY x row;by_cases q3:(dS x row).2.2=((dr es x).length:Nat)
 case neg =>
  have d3:decide ((dS x row).2.2=((dr es x).length:Nat))=false:=aw q3;refine ae (bM (fB 13 (M1 d3) rfl (Z0) ?_));refine bI (M0) ?_;exact bu ⟨.bool false,(by simp only[rs,rf67,am,aL,simprocAttr]<;>rfl),by rw[d3,eF],X3⟩
 have d3:decide ((dS x row).2.2=((dr es x).length:Nat))=true:=aH q3;by_cases q4:(dr es x).length=0
 .have d4:decide ((((dr es x).length:Nat):Int)=0)=true:=aH om;refine ae (bM (fB 13 (M2 d3 d4) rfl (Z0) ?_));refine bI (M0) ?_;exact bu ⟨.bool true,(by simp only[rs,rf67,am,aL,simprocAttr]<;>rfl),by rw[d3,aH q4];rfl,X3⟩
 .have d4:decide ((((dr es x).length:Nat):Int)=0)=false:=aw om;rcases sok with sok|sok
  .omega
  obtain⟨lo,hlo⟩:∃lo:Nat,(dS x row).1=lo:=⟨(dS x row).1.toNat,om⟩
  obtain⟨hi,hhi⟩:∃hi:Nat,(dS x row).2.1=hi:=⟨(dS x row).2.1.toNat,om⟩
  rw[hlo,hhi];refine ae (bM (bj 13 (Mi2 d3 d4) rfl (Zi2 d3 d4) (Mi2 d3 d4) (JU (x:=x) (lo:=lo) (hi:=hi) gf3 (si.ext X3 (ab _)) hl om om) λr h4 hq=>?_));obtain⟨rfl,x4⟩:=hq;refine bI (M0) ?_;exact bu ⟨_,(by simp only[rs,rf67,am,aL,simprocAttr]<;>rfl),by rw[d3,aw q4,aO,aO];rfl,X3.trans (x4.mono X3.nx)⟩
open Go.Am
def qA{α:Type}[DecidableEq α]:∀{l m:List α},l.Nodup->(∀x∈l,x∈m)->l.length<=m.length
 |[],_,_,_=>dv _
 |a::l,m,hn,hs=>by
   have hm:=hs a (aM ..);have hn':=cn.1 hn;have:=qA (l:=l) (m:=m.erase a) hn'.2 λx hx=>(List.mem_erase_of_ne (λe:x=a=>hn'.1 (e▸hx))).2 (hs x (aN _ hx));rw[List.length_erase_of_mem hm]at this;have:0<m.length:=List.length_pos_of_mem hm;simp only[bd];omega
def qG(p:Int×Int->Bool):∀(es:List (Int×Int)) (i j:Nat) (e:Int×Int),es[j]?=some e->p e=true->((i+j:Nat):Int)∈dB p es i
 |[],i,j,e,h,_=>by simp at h
 |y::r,i,0,e,h,hp=>by
   simp only[bD,aa]at h;subst h;simp[dB,hp]
 |y::r,i,j+1,e,h,hp=>by
   simp only[cJ]at h;have:=qG p r (i+1) j e h hp;rw[show i+1+j=i+(j+1) by omega]at this;unfold dB;split
   .exact aN _ this
   .exact this
def iT(p:Int×Int->Bool):∀(es:List (Int×Int)) (i:Nat),(dB p es i).Nodup
 |[],i=>fk
 |y::r,i=>by
   unfold dB;split
   .refine cn.2 ⟨λh=>?_,iT p r (i+1)⟩;obtain⟨j,hj,_⟩:=gX p r (i+1) _ h;omega
   .exact iT p r (i+1)
def rM:i∈dr es y↔∃k:Nat,i=k/\∃t,es[k]?=some (t,y):=by
 constructor
 .intro h;obtain⟨j,hj,_,e,he,hp⟩:=gX _ es 0 _ h;rw[bN]at hj;have:e.2=y:=aY hp;exact⟨j,hj,e.1,by rw[he,<-this]⟩
 .rintro⟨k,rfl,t,ht⟩;have:=qG (λe=>decide (e.2=y)) es 0 k _ ht (by simp);rwa [bN]at this
def fp:i∈dJ es y↔∃k:Nat,i=k/\∃t,es[k]?=some (y,t):=by
 constructor
 .intro h;obtain⟨j,hj,_,e,he,hp⟩:=gX _ es 0 _ h;rw[bN]at hj;have:e.1=y:=aY hp;exact⟨j,hj,e.2,by rw[he,<-this]⟩
 .rintro⟨k,rfl,t,ht⟩;have:=qG (λe=>decide (e.1=y)) es 0 k _ ht (by simp);rwa [bN]at this
def iq(x:Int)(row:List It):Nat:=row.countP λi=>decide (i.2.2=x)
structure Cut(x:Int)(row A X C:List It):Prop where
 eq:row=A++X++C
 na:∀i∈A,i.2.2≠x
 nc:∀i∈C,i.2.2≠x
 hd:∃a X',X=a::X'/\a.2.2=x
 tl:∃X' z,X=X'++[z]/\z.2.2=x
def qI(x:Int):∀row:List It,(∀i∈row,i.2.2≠x)\/∃A X C,Cut x row A X C
 |[]=>.inl (by simp)
 |it::r=>by
   by_cases q:it.2.2=x
   .refine .inr ?_;rcases qI x r with h|⟨A,X,C,c⟩
    .exact⟨[],[it],r,by simp,by simp,h,⟨it,[],rfl,q⟩,⟨[],it,rfl,q⟩⟩
    .obtain⟨X',z,hX,hz⟩:=c.tl;refine⟨[],it::(A++X),C,by rw[c.eq];simp,by simp,c.nc,⟨it,A++X,rfl,q⟩,⟨it::(A++X'),z,by rw[hX];simp,hz⟩⟩
   .rcases qI x r with h|⟨A,X,C,c⟩
    .refine .inl λi hi=>?_;rcases aF.1 hi with rfl|hi
     .exact q
     .exact h i hi
    .refine .inr ⟨it::A,X,C,by rw[c.eq];simp,λi hi=>?_,c.nc,c.hd,c.tl⟩;rcases aF.1 hi with rfl|hi
     .exact q
     .exact c.na i hi
def vK(x:Int)(a b:List It):iq x (a++b)=iq x a+iq x b:=Du
def sX{a:List It}(h:∀i∈a,i.2.2≠x):iq x a=0:=by
 unfold iq;rw[kX];intro i hi;simp[h i hi]
def Cut.cnt{C:List It}(c:Cut x row A X C):iq x row=iq x X:=by
 rw[c.eq,vK,vK,sX c.na,sX c.nc];omega
def Cut.pos{C:List It}(c:Cut x row A X C):0<iq x X:=by
 obtain⟨a,X',h1,h2⟩:=c.hd;rw[h1];unfold iq;rw[dL];simp[h2]
def mN(x:Int):∀(a b:List It) (i:Nat) (s:Int×Int×Int),eK x (a++b) i s=eK x b (i+a.length) (eK x a i s)
 |[],b,i,s=>rfl
 |it::r,b,i,s=>by
   rw[bX,eK,mN x r b (i+1),eK,bd,show i+1+r.length=i+(r.length+1) by omega]
def nz(x:Int):∀(a:List It) (i:Nat) (s:Int×Int×Int),(∀j∈a,j.2.2≠x)->eK x a i s=s
 |[],i,s,_=>rfl
 |it::r,i,s,h=>by
   rw[eK,if_neg (h it (aM ..)),nz x r _ _ λj hj=>h j (aN _ hj)]
def wD(x:Int):∀(a:List It) (i:Nat) (s:Int×Int×Int),(eK x a i s).2.2=s.2.2+(iq x a:Nat)
 |[],i,s=>by simp[eK,iq]
 |it::r,i,s=>by
   rw[eK,wD x r];unfold iq;rw[dL];by_cases q:it.2.2=x
   .simp only[q,if_true,decide_true];omega
   .simp only[q,if_false,decide_false];simp
def qq(x:Int):∀(a:List It) (i:Nat) (s:Int×Int×Int),s.1≠-1->(eK x a i s).1=s.1
 |[],i,s,_=>rfl
 |it::r,i,s,h=>by
   rw[eK];by_cases q:it.2.2=x
   .rw[if_pos q,if_neg h];exact qq x r _ _ h
   .rw[if_neg q,qq x r _ _ h]
def sz(h:∀i∈row,i.2.2≠x):dS x row=(-1,0,0):=nz x row 0 _ h
def Cut.span{x:Int}{X C:List It}(c:Cut x row A X C):dS x row=(((A.length:Nat):Int),((A.length+X.length:Nat):Int),((iq x X:Nat):Int)):=by
 unfold dS;rw[c.eq,bL,mN,nz x A _ _ c.na,mN,nz x C _ _ c.nc,bN];obtain⟨a,X',h1,h2⟩:=c.hd;obtain⟨X'',z,h3,h4⟩:=c.tl;have p1:(eK x X A.length (-1,0,0)).1=(A.length:Nat):=by
  rw[h1,eK,if_pos h2,if_pos rfl,qq];simp only;omega
 have p2:(eK x X A.length (-1,0,0)).2.1=(A.length+X.length:Nat):=by
  rw[h3,mN,eK,if_pos h4,aJ];rfl
 have p3:=wD x X A.length (-1,0,0);simp only[Int.zero_add]at p3;exact Prod.ext p1 (Prod.ext p2 p3)
def loM(x:Int)(row:List It):Nat:=(max (dS x row).1 0).toNat
def lQ(x:Int)(row:List It):List It:=(row.drop (loM x row)).take ((dS x row).2.1.toNat-loM x row)
def jJ(es:List (Int×Int))(x:Int)(outs:List Int)(row:List It):List It:=row.take (loM x row)++eV es x outs++row.drop (dS x row).2.1.toNat
def xv(h:∀i∈row,i.2.2≠x):lQ x row=[]:=by
 unfold lQ loM;rw[sz h];simp
def pJ(h:∀i∈row,i.2.2≠x):jJ es x outs row=eV es x outs++row:=by
 unfold jJ loM;rw[sz h];have:(max (-1:Int) 0).toNat=0:=by decide
 simp[this]
def Cut.lo{C:List It}(c:Cut x row A X C):loM x row=A.length:=by
 unfold loM;rw[c.span];simp only;omega
def Cut.gone{C:List It}(c:Cut x row A X C):lQ x row=X:=by
 unfold lQ;rw[c.lo,c.span];simp only[aO];rw[c.eq,bL,qR,eO,qP]
def Cut.next{C:List It}(c:Cut x row A X C):jJ es x outs row=A++eV es x outs++C:=by
 unfold jJ;rw[c.lo,c.span];simp only[aO];rw[c.eq,<-aJ,qR,bL A X C,qP]
def Aj(es:List (Int×Int))(row:List It)(x:Int):Bool:=decide ((dS x row).2.2=((dr es x).length:Nat))&&(decide ((dr es x).length=0)||yf x ((row.drop (dS x row).1.toNat).take ((dS x row).2.1.toNat-(dS x row).1.toNat)))
def pE:ip n es row pl x=true↔(0<=x/\x<n)/\x∉pl/\Aj es row x=true:=by
 unfold ip Aj;rw[aU,aU,aK,dZ,ce,and_assoc]
def JV:yf x X=true↔∀i∈X,i.2.2=x\/i.2.2=-1:=by
 unfold yf;rw[dZ,sm];refine forall_congr' λi=>forall_congr' λ_=>?_;rw[aK];omega
def rF:Aj es row x=true↔((dr es x).length=0/\∀i∈row,i.2.2≠x)\/∃A X C,Cut x row A X C/\iq x X=(dr es x).length/\∀i∈X,i.2.2=x\/i.2.2=-1:=by
 rcases qI x row with h|⟨A,X,C,c⟩
 .unfold Aj;rw[sz h];simp only;constructor
  .intro q;rw[aU,aK]at q;exact .inl ⟨om,h⟩
  .rintro (⟨q,_⟩|⟨A,X,C,c,_⟩)
   .rw[q];rfl
   .obtain⟨a,X',h1,h2⟩:=c.hd;exact absurd h2 (h a (by rw[c.eq,h1];simp))
 .have hp:=c.pos;have hne:¬ ∀i∈row,i.2.2≠x:=by
   obtain⟨a,X',h1,h2⟩:=c.hd;exact λh=>absurd h2 (h a (by rw[c.eq,h1];simp))
  have key:Aj es row x=true↔iq x X=(dr es x).length/\∀i∈X,i.2.2=x\/i.2.2=-1:=by
   unfold Aj;rw[c.span];simp only[aO,eO];rw[show(row.drop A.length).take X.length=X by rw[c.eq,bL,qR,qP],aU,dm,aK,aK,JV];constructor
   .rintro⟨h1,h2⟩;have h1:iq x X=(dr es x).length:=om;exact⟨h1,h2.resolve_left om⟩
   .rintro⟨h1,h2⟩;exact⟨om,.inr h2⟩
  rw[key];constructor
  .rintro⟨h1,h2⟩;exact .inr ⟨A,X,C,c,h1,h2⟩
  .rintro (⟨_,q⟩|⟨A',X',C',c',h1,h2⟩)
   .exact absurd q hne
   .have e:=c.gone;rw[c'.gone]at e;subst e;exact⟨h1,h2⟩
structure Inv(n:Nat)(es:List (Int×Int))(row:List It)(pl:List Int):Prop where
 it:∀i∈row,(i.1=-1/\i.2.2=-1)\/∃k:Nat,i.1=k/\es[k]?=some (i.2.1,i.2.2)/\i.2.1∈pl
 nd:((row.filter λi=>decide (0<=i.1)).map (·.1)).Nodup
 src:(pl=[]/\row=[])\/∀s:Nat,s<n->(dr es s).length=0->((s:Nat):Int)∈pl
def Inv.start:Inv n es [] []:=⟨by simp,by simp,.inl ⟨rfl,rfl⟩⟩
def OutsOk(es:List (Int×Int))(x:Int)(l:List Int):Prop:=l.Perm (dJ es x)
def OutsOk.mem(h:OutsOk es x l):i∈l↔i∈dJ es x:=h.mem_iff
def OutsOk.nodup(h:OutsOk es x l):l.Nodup:=h.nodup_iff.2 (iT _ _ _)
def Kc(h:OutsOk es x l){i:It}(hi:i∈eV es x l):(i.1=-1/\i.2.2=-1)\/∃k:Nat,i.1=k/\es[k]?=some (i.2.1,i.2.2)/\i.2.1=x/\i.1∈l:=by
 unfold eV at hi;split at hi
 .simp only[aF,bA,or_false]at hi;subst hi;exact .inl ⟨rfl,rfl⟩
 .obtain⟨j,hj,rfl⟩:=bp.1 hi;obtain⟨k,rfl,t,ht⟩:=fp.1 (h.mem.1 hj);refine .inr ⟨k,rfl,?_,rfl,hj⟩;simp only[aO,ht,cL]
def BG(h:OutsOk es x l):((eV es x l).filter λi=>decide (0<=i.1)).map (·.1)=l:=by
 unfold eV;split
 .rename_i q
  subst q;rfl
 .rw[BK.2,de]
  .exact List.map_id' l
  .intro i hi;obtain⟨j,hj,rfl⟩:=bp.1 hi;obtain⟨k,rfl,_⟩:=fp.1 (h.mem.1 hj);simp
def DM(es:List (Int×Int))(x:Int)(row:List It):∃A X C,row=A++X++C/\lQ x row=X/\(∀outs,jJ es x outs row=A++eV es x outs++C)/\((A=[]/\X=[]/\C=row/\∀i∈row,i.2.2≠x)\/Cut x row A X C):=by
 rcases qI x row with h|⟨A,X,C,c⟩
 .exact⟨[],[],row,rfl,xv h,λ_=>by rw[pJ h];rfl,.inl ⟨rfl,rfl,rfl,h⟩⟩
 .exact⟨A,X,C,c.eq,c.gone,λ_=>c.next,.inr c⟩
def Inv.next(v:Inv n es row pl)(ho:OutsOk es x l)(hx:x∉pl)(hr:Aj es row x=true)(hone:∀a b:Nat,a<n->b<n->(dr es a).length=0->(dr es b).length=0->a=b)(hxn:0<=x/\x<n):Inv n es (jJ es x l row) (pl++[x]):=by
 obtain⟨A,X,C,e1,e2,e3,e4⟩:=DM es x row;have sub:(A++C).Sublist row:=by
  rw[e1,bL];exact(List.Sublist.refl A).append (List.sublist_append_right X C)
 have hmem:∀i,i∈A++C->i∈row:=λi hi=>sub.subset hi;refine⟨λi hi=>?_,?_,.inr λs hs h0=>?_⟩
 .rw[e3,aZ,aZ]at hi;have old:i∈row->(i.1=-1/\i.2.2=-1)\/∃k:Nat,i.1=k/\es[k]?=some (i.2.1,i.2.2)/\i.2.1∈pl++[x]:=λhm=>by
   rcases v.it i hm with h|⟨k,h1,h2,h3⟩
   .exact .inl h
   .exact .inr ⟨k,h1,h2,cW _ h3⟩
  rcases hi with(hi|hi)|hi
  .exact old (hmem i (cW _ hi))
  .rcases Kc ho hi with h|⟨k,h1,h2,h3,_⟩
   .exact .inl h
   .exact .inr ⟨k,h1,h2,by rw[h3];simp⟩
  .exact old (hmem i (hU _ hi))
 .rw[e3,cB,cB,bS,bS,BG ho];have nd1:(((A++C).filter λi=>decide (0<=i.1)).map (·.1)).Nodup:=((sub.filter _).map _).nodup v.nd;rw[cB,bS,bQ]at nd1;have dis:∀i∈row,i.1∈l->False:=λi hi hl=>by
   rcases v.it i hi with⟨h,_⟩|⟨k,h1,h2,h3⟩
   .obtain⟨k,hk,_⟩:=fp.1 (ho.mem.1 hl);omega
   .obtain⟨k',hk,t,ht⟩:=fp.1 (ho.mem.1 hl);have:k'=k:=om;subst this;rw[h2]at ht;simp only[aa,aq]at ht;exact hx (ht.1▸h3)
  have disA:∀z∈(A.filter λi=>decide (0<=i.1)).map (·.1),z∈l->False:=λz hz hl=>by
   obtain⟨i,hi,rfl⟩:=bp.1 hz;exact dis i (hmem i (cW _ (bB.1 hi).1)) hl
  have disC:∀z∈(C.filter λi=>decide (0<=i.1)).map (·.1),z∈l->False:=λz hz hl=>by
   obtain⟨i,hi,rfl⟩:=bp.1 hz;exact dis i (hmem i (hU _ (bB.1 hi).1)) hl
  rw[bQ,bQ];refine⟨⟨nd1.1,ho.nodup,λa ha b hb e=>disA a ha (e▸hb)⟩,nd1.2.1,λa ha b hb e=>?_⟩;rcases aZ.1 ha with ha|ha
  .exact nd1.2.2 a ha b hb e
  .exact disC b hb (e▸ha)
 .rcases v.src with⟨h1,h2⟩|h
  .subst h1 h2;rcases rF.1 hr with⟨q,_⟩|⟨A,X,C,c,_⟩
   .obtain⟨m,rfl⟩:∃m:Nat,x=m:=⟨x.toNat,om⟩
    have:=hone s m hs om h0 q;subst this;simp
   .obtain⟨a,X',h1,_⟩:=c.hd;have:=c.eq;rw[h1]at this;simp at this
  .exact cW _ (h s hs h0)
def nF(n:Nat)(es:List (Int×Int))(outs:List (List Int)):List Int->List Int->List It->List (List It)->Nat->(List (List It)×List It) ⊕ Nat
 |[],_,row,ends,_=>.inl (ends,row)
 |x::q,pl,row,ends,i=>if ip n es row pl x then nF n es outs q (pl++[x]) (jJ es x (outs.getD x.toNat []) row) (ends.set x.toNat (lQ x row)) (i+1)else .inr i
def mC(x:Int)(need:Nat):List It->Nat->Bool
 |[],met=>decide (met=need)
 |it::r,met=>if it.2.2=x then mC x need r (met+1)else if 0<=it.1/\0<met/\met<need then false else mC x need r met
def ud(x:Int)(need:Nat):∀(row:List It) (met:Nat),met+iq x row≠need->mC x need row met=false
 |[],met,h=>by
   unfold mC;exact aw (by simpa[iq]using h)
 |it::r,met,h=>by
   unfold iq at h;rw[dL]at h;unfold mC;by_cases q:it.2.2=x
   .rw[if_pos q];simp only[q,decide_true,if_true]at h;exact ud x need r (met+1) (by unfold iq;omega)
   .rw[if_neg q];simp only[q,decide_false]at h;split
    .rfl
    .exact ud x need r met (by unfold iq;simpa using h)
def ru(x:Int)(need:Nat):∀(a b:List It) (met:Nat),(∀i∈a,i.2.2≠x)->(met=0\/need<=met)->mC x need (a++b) met=mC x need b met
 |[],b,met,_,_=>rfl
 |it::r,b,met,h,hm=>by
   rw[bX,mC,if_neg (h it (aM ..)),if_neg om,ru x need r b met (λj hj=>h j (aN _ hj)) hm]
def ue(x:Int)(need:Nat)(C:List It)(hC:∀i∈C,i.2.2≠x):∀(S:List It) (met:Nat),0<met->met+iq x S=need->(S=[]\/∃S' z,S=S'++[z]/\z.2.2=x)->mC x need (S++C) met=S.all λi=>decide (i.2.2=x\/i.1<0)
 |[],met,h0,hm,_=>by
   have hm:met=need:=by simpa[iq]using hm
   have:=ru x need C [] met hC (.inr om);rw[bF]at this;rw[cr,this];unfold mC;simp[hm]
 |it::r,met,h0,hm,ht=>by
   have ht':r=[]\/∃S' z,r=S'++[z]/\z.2.2=x:=by
    rcases ht with h|⟨S',z,h1,h2⟩
    .cases h
    .cases S' with
     |nil=>simp only[cr,cy]at h1;exact .inl h1.2
     |cons s S'=>simp only[bX,cy]at h1;exact .inr ⟨S',z,h1.2,h2⟩
   unfold iq at hm;rw[dL]at hm;rw[bX,mC,gQ];by_cases q:it.2.2=x
   .simp only[q,decide_true,if_true]at hm;rw[if_pos q,ue x need C hC r (met+1) om (by unfold iq;omega) ht'];simp[q]
   .simp only[q,decide_false]at hm;have hm:met+iq x r=need:=by unfold iq;simpa using hm
    have hlt:met<need:=by
     rcases ht with h|⟨S',z,h1,h2⟩
     .cases h
     .rcases ht' with h|⟨S'',z',h3,h4⟩
      .subst h;cases S' with
       |nil=>simp only[cr,cy,and_true]at h1;subst h1;exact absurd h2 q
       |cons s S'=>simp at h1
      .have:0<iq x r:=by
        rw[h3,vK];unfold iq;simp[h4]
       omega
    rw[if_neg q];by_cases q2:0<=it.1
    .have:¬it.1<0:=om;rw[if_pos ⟨q2,h0,hlt⟩];simp[q,this]
    .have:it.1<0:=om;rw[if_neg (λh=>q2 h.1),ue x need C hC r met h0 hm ht'];simp[this]
def jy(n:Nat)(es:List (Int×Int))(row:List It)(pl:List Int)(x:Int):Bool :=
 decide (0<=x/\x<n)&&!decide (x∈pl)&&(decide ((dr es x).length=0)||mC x (dr es x).length row 0)
def EX(hes:es.all (okE n)=true)(v:Inv n es row pl):jy n es row pl x=ip n es row pl x:=by
 rw[dM,pE];unfold jy;rw[aU,aU,aK,dZ,ce,and_assoc];refine and_congr_right λhx=>and_congr_right λ_=>?_;have hno:(dr es x).length=0->∀i∈row,i.2.2≠x:=λh0 i hi e=>by
  rcases v.it i hi with⟨_,h⟩|⟨k,h1,h2,h3⟩
  .omega
  .rw[e]at h2;have:=rM.2 ⟨k,rfl,_,h2⟩;rw[aW.1 h0]at this;simp at this
 rw[dm,aK,rF];by_cases h0:(dr es x).length=0
 .exact⟨λ_=>.inl ⟨h0,hno h0⟩,λ_=>.inl h0⟩
 constructor
 .rintro (h|h)
  .exact absurd h h0
  .rcases qI x row with hn|⟨A,X,C,c⟩
   .rw[ud x _ row 0 (by rw[sX hn];omega)]at h;cases h
   .by_cases hc:iq x X=(dr es x).length
    .refine .inr ⟨A,X,C,c,hc,?_⟩;rw[c.eq,bL,ru x _ A _ 0 c.na (.inl rfl)]at h;obtain⟨a,X',h1,h2⟩:=c.hd;have hp:=c.pos;rw[h1]at hc;unfold iq at hc;rw[dL]at hc;simp only[h2,decide_true,if_true]at hc;rw[h1,bX,mC,if_pos h2,ue x _ C c.nc X' 1 om (by unfold iq;omega) (by
      obtain⟨X'',z,h3,h4⟩:=c.tl;rw[h1]at h3;cases X'' with
      |nil=>simp only[cr,cy]at h3;exact .inl h3.2
      |cons s S'=>simp only[bX,cy]at h3;exact .inr ⟨S',z,h3.2,h4⟩),bK]at h
     intro i hi;rw[h1]at hi;rcases aF.1 hi with rfl|hi
     .exact .inl h2
     .have h5:=aY (h i hi);rcases h5 with h5|h5
      .exact .inl h5
      .rcases v.it i (by rw[c.eq,h1];simp[hi])with⟨_,q⟩|⟨k,q,_⟩
       .exact .inr q
       .omega
    .rw[ud x _ row 0 (by rw[c.cnt];omega)]at h;cases h
 .rintro (⟨h,_⟩|⟨A,X,C,c,hc,hb⟩)
  .exact absurd h h0
  .right;rw[c.eq,bL,ru x _ A _ 0 c.na (.inl rfl)];obtain⟨a,X',h1,h2⟩:=c.hd;have hc2:=hc;rw[h1]at hc2;unfold iq at hc2;rw[dL]at hc2;simp only[h2,decide_true,if_true]at hc2;rw[h1,bX,mC,if_pos h2,ue x _ C c.nc X' 1 om (by unfold iq;omega) (by
    obtain⟨X'',z,h3,h4⟩:=c.tl;rw[h1]at h3;cases X'' with
    |nil=>simp only[cr,cy]at h3;exact .inl h3.2
    |cons s S'=>simp only[bX,cy]at h3;exact .inr ⟨S',z,h3.2,h4⟩),bK]
   intro i hi;refine aH ?_;rcases hb i (by rw[h1];simp[hi])with q|q
   .exact .inl q
   .rcases v.it i (by rw[c.eq,h1];simp[hi])with⟨q2,_⟩|⟨k,_,q2,_⟩
    .omega
    ·
     rw[q]at q2;have:=(lM (bK.1 hes _ (eP q2))).2.2.1;simp only at this;omega
open Go.Am
def ju{P:RP}{b:Nat}{l l2:List ROper}{s:Option (Tm×AH)}{K:Tm->AH->Prop}{ts:Tm}{d:Option Nat}{f:FuncId}{args:List RO}{g:Option (Nat×Bool)}{nm:Option Nat}{cs:List (Nat×ROp×Option (Nat×Bool))}{vs:List AV}{Q:AV->AH->Prop}(n:Nat)
 (hs:lF b (l.take n) s=some (ts,h)) (hd:l.drop n=⟨d,.call f args,g,nm,cs⟩::l2) (hw:wanted ts g=some true) (ha:args.map (RO.ev ts)=vs) (hc:C P f vs h Q)
 (hk:∀v h',Q v h'->gZ (dH ts d v) h' cs=true/\G P b l2 (some (dH ts d v,h')) K):G P b l s K:=by
 subst ha;rw[<-cH n l];refine tO ?_;rw[hs,hd];exact Ew hw (hc.mono hk)
def qD(xs:List Int):(fQ xs).Perm xs:=kP _ _
def Ax:(jJ es x outs row).length<=row.length+outs.length+1:=by
 obtain⟨A,X,C,e1,_,e3,_⟩:=DM es x row;rw[e3,e1];simp only[aJ];have:(eV es x outs).length<=outs.length+1:=by
  unfold eV;split
  .simp
  .simp
 omega
def FO(hf:IsFront h fb pb n es row pl)(ho:SlI h ov outs)(hov:∀b o m c,ov=.sl b o m c->b≠fb/\b≠pb)(hl:row.length<2^29)(hl2:pl.length<2^29)(hl3:outs.length<2^29) :
 C prg 34 [.ptr fb 0,.int .i64 x,ov] h λr h' =>
   if ip n es row pl x=true then
    if fQ outs=dJ es x then ∃g pb',r=.tup [g,.int .i64 0]/\IsSl h' 3 h.next g ((lQ x row).flatMap eT)/\IsFront h' fb pb' n es (jJ es x outs row) (pl++[x])/\h.next<=pb'/\Kp (λc=>c=fb\/c=pb) h h'
    else r=.tup [.nils,.int .i64 1]/\Ext h.next h h'
   else r=.tup [.nils,.int .i64 3]/\Ext h.next h h':=by
 refine Oj rfl ?_;refine ae (ak (Mi0) ?_);refine ae (ae (bM (bj 2 (Mi0) rfl (Zi0) (Mi0) (HD (x:=x) hf om om) λr h1 hq=>?_)));obtain⟨rfl,x1⟩:=hq;refine bI (M0) ?_;have hf1:=hf.ext x1;obtain⟨iv,vp,pv,hV,g,si,so,vv,vx,v1,v2,v3,pp⟩:=hf1;have hv:=vv.at vx;have hfb:=AH.lt_of_get g;have hlow:fb<h.next/\pb<h.next:=by
  obtain⟨iv,vp,pv,hV,g,si,so,vv,vx,v1,v2,v3,pp⟩:=hf;exact⟨AH.lt_of_get g,v3⟩
 refine cF (t:=!ip n es row pl x) (Z0) (λq=>?_) λq=>?_
 .have q:ip n es row pl x=false:=by simpa using q
  refine ae (ak (M0) ?_);refine bu ⟨.tup [.nils,.int .i64 3],(by simp only[rs,rf34,am,aL,simprocAttr]<;>rfl),?_⟩;rw[if_neg (by simp[q])];exact⟨rfl,x1⟩
 have q:ip n es row pl x=true:=by simpa using q
 refine bz ?_;have ho1:=ho.ext x1 (ab _);have r1:ai h1 fb 1 1=some [vp]:=bq g rfl;obtain⟨vb,hvb⟩:∃vb,vp=.ptr vb 0:=by obtain⟨b,_,_,_,_,_,hb,_⟩:=hv;exact⟨b,hb⟩
 subst hvb;refine ae (ae (bM (ju 6 (Mi1 r1) rfl (Zi1 r1) (Mi1 r1) (pA ho1.cells.1) λr h2 hq=>?_)));obtain⟨rfl,hh2⟩:=hq;have x2:Ext h1.next h1 h2:=by rw[hh2];exact Oe (ab _)
 have n2:h2.next=h1.next+1:=by rw[hh2];rfl
 have g2:h2.get h1.next=some (.cells [ov] 1 false):=by rw[hh2,AH.get_new,if_pos rfl]
 have r2:ai h2 fb 1 1=some [.ptr vb 0]:=by rw[bi (x2.gt _ hfb)];exact r1
 refine⟨Z1 r2,?_⟩;refine ju 0 (M0) rfl (Z0) (M0) (pD (bq g2 rfl) (ho1.ext x2 (ab _)) om om) λr h3 hq=>?_;obtain⟨i3,x3⟩:=hq;have X3:=x2.trans (x3.mono x2.nx);have r3:ai h3 fb 1 1=some [.ptr vb 0]:=by rw[bi (X3.gt _ hfb)];exact r1
 refine⟨Z1 r3,?_⟩;have hv3:=hv.ext X3;refine jW (Z0) (M0) (DN (x:=x) hv3) λr4 h4 hq=>?_;obtain⟨i4,x4⟩:=hq;have lo:=ho.len;have s3':SlI h3 r (fQ outs):=Ob om (λ_=>rfl) i3;have s3:=s3'.ext x4 (ab _);have s4:SlI h4 r4 (dJ es x):=Ob om (λ_=>rfl) i4;have X4:=X3.trans (x4.mono X3.nx);have hol:(dJ es x).length<=128:=by
  obtain⟨_,_,_,_,_,_,_,_,_,_,_,_,_,_,_,_,_,hm,_⟩:=hv;exact cu (fG _ _ _) hm
 refine jW (Z0) (M0) (xH s3 s4 (by rw[gH];omega) om) λr5 h5 hq=>?_;obtain⟨rfl,e5⟩:=hq;subst e5;refine bI (M0) ?_;have XX4:=x1.trans (X4.mono x1.nx);refine cF (t:=!(fQ outs==dJ es x)) (Z0) (λq2=>?_) λq2=>?_
 .have q2:¬fQ outs=dJ es x:=by simpa using q2
  refine ae (ak (M0) ?_);refine bu ⟨.tup [.nils,.int .i64 1],(by simp only[rs,rf34,am,aL,simprocAttr]<;>rfl),?_⟩;rw[if_pos q,if_neg q2];exact⟨rfl,XX4⟩
 have q2:fQ outs=dJ es x:=by simpa using q2
 refine bz ?_;have g4:h5.get fb=some (.cells [iv,.ptr vb 0,pv] 3 false):=by rw[X4.gt _ hfb];exact g
 have si4:=si.ext X4 (ab _);refine ae (bM (bj 4 (Mi0) rfl (Zi0) (Mi0) (DD (x:=x) g4 si4 om) λr6 h6 hq=>?_));obtain⟨rfl,x6⟩:=hq;refine bI (M0) ?_;have X6:=X4.trans (x6.mono X4.nx);have XX6:=x1.trans (X6.mono x1.nx);have g6:h6.get fb=some (.cells [iv,.ptr vb 0,pv] 3 false):=by rw[X6.gt _ hfb];exact g
 have nx6:=XX6.nx;have pI:IsSl h6 1 0 pv (pl.flatMap eI):=by
  rcases pp with⟨rfl,rfl,_⟩|⟨m,rfl,p2,rfl,_⟩
  .exact .inl ⟨rfl,rfl⟩
  .exact .inr ⟨pb,_,dv _,rfl,by rw[X6.gt _ v3];exact p2,by rw[ee,aP]⟩
 have pb6:∀b m,pv=.sl b 0 m m->b=pb:=λb m hb=>by
  rcases pp with⟨rfl,_,_⟩|⟨m',rfl,_,_,_⟩
  .cases hb
  .cases hb;rfl
 have pbf:∀b m,pv=.sl b 0 m m->b≠fb:=λb m hb=>by
  rcases pp with⟨rfl,_,_⟩|⟨m',rfl,_,_,hne⟩
  .cases hb
  .cases hb;exact hne
 have x7:Ext h6.next h6 (h6.new (.cells [.int .i64 x] 1 false)):=Oe (ab _);have g7:(h6.new (.cells [.int .i64 x] 1 false)).get h6.next=some (.cells [.int .i64 x] 1 false):=by rw[AH.get_new,if_pos rfl]
 have n7:(h6.new (.cells [.int .i64 x] 1 false)).next=h6.next+1:=rfl;have r6:ai (h6.new (.cells [.int .i64 x] 1 false)) fb 2 1=some [pv]:=by rw[bi (x7.gt _ (AH.lt_of_get g6))];exact bq g6 rfl
 have r6':ai h6 fb 2 1=some [pv]:=bq g6 rfl
 obtain⟨pv',h8,a8,i8,x8,hpv',n8,k8,t8⟩:=(pI.ext x7 (ab _)).app (bytes:=8) (x:=h6.next) (new:=[.int .i64 x]) (dv _) om g7 (dv _) (λb m hb=>by have:=pb6 b m hb;omega) rfl rfl
  (by rw[ee];unfold bf;omega) (by rw[ee];unfold bf;omega)
 rw[n7]at hpv' n8;rw[ee,dN]at hpv';have g8:h8.get fb=some (.cells [iv,.ptr vb 0,pv] 3 false):=by rw[k8 fb om (λb m hb=>(pbf b m hb).symm),x7.gt _ (AH.lt_of_get g6)];exact g6
 have w8:bP h8 fb 2 [pv']=some (h8.put fb (.cells [iv,.ptr vb 0,pv'] 3 false)):=by rw[dw g8];rfl
 obtain⟨pc,po⟩:=i8.cells;refine ae (ak (Mi5 r6' a8 pc po w8) ?_);have u9:=Oi (o:=.cells [iv,.ptr vb 0,pv'] 3 false) g8;have n9:(h8.put fb (.cells [iv,.ptr vb 0,pv'] 3 false)).next=h8.next:=rfl;have K9:Kp (λc=>c=fb\/c=pb) h1 (h8.put fb (.cells [iv,.ptr vb 0,pv'] 3 false)):=by
  refine⟨by have:=X6.nx;omega,λc hc hn=>?_,λc hc=>?_⟩
  .have:=X6.nx;rw[u9.ne (λe=>hn (.inl e)),k8 c om (λb m hb e=>hn (.inr (e.trans (pb6 b m hb)))),x7.gt _ om,X6.gt _ hc]
  .rw[u9.ty,t8];have:=X6.nx;rw[x7.ty _ om,X6.ty _ hc]
 generalize h8.put fb (.cells [iv,.ptr vb 0,pv'] 3 false)=h9 at *
 have ho9:SlI h9 ov outs:=ho1.cong λb o m c hb=>K9.gt _ (ho1.lt hb) λhn=>by
  obtain⟨e1,e2⟩:=hov b o m c hb;rcases hn with hn|hn
  .exact e1 hn
  .exact e2 hn
 have si9:SlT h9 iv row:=si.cong λb o m c hb=>K9.gt _ (si.lt hb) λhn=>by
  obtain⟨e1,e2⟩:=so b o m c hb;rcases hn with hn|hn
  .exact e1 hn
  .exact e2 hn
 have xV9:Ext hV.next hV h9:=by
  refine⟨cu vx.nx K9.nx,λc hc=>?_,λc hc=>?_⟩
  .rw[K9.gt c (du hc vx.nx) (by rintro (e|e)<;>omega),vx.gt _ hc]
  .rw[K9.ty c (du hc vx.nx),vx.ty _ hc]
 have hv9:=vv.at xV9;have hr9:∀i∈outs,0<=i/\i<es.length:=λi hi=>by
  have:i∈dJ es x:=by rw[<-q2];exact(qD outs).mem_iff.2 hi
  obtain⟨k,rfl,t,ht⟩:=fp.1 this;have:=(au.1 ht).1;omega
 have sok:=qY x row;have elo:(if (dS x row).1<0 then(0:Int)else(dS x row).1)=((loM x row:Nat):Int):=by
  unfold loM;split<;>omega
 obtain⟨hi,hhi⟩:∃hi:Nat,(dS x row).2.1=hi:=⟨(dS x row).2.1.toNat,om⟩
 have hlo:loM x row<=hi/\hi<=row.length:=by unfold loM;omega
 refine ae (bM (bj 9 (Mi3 @mx2 elo hhi) rfl (Zi3 @mx2 elo hhi) (Mi3 @mx2 elo hhi) (Kb (x:=x) u9.get hv9 ho9 hr9 om) λw h10 hq=>?_));obtain⟨i10,x10⟩:=hq;have s10:SlT h10 w (eV es x outs):=Ob om (λ_=>rfl) i10;have g10:h10.get fb=some (.cells [iv,.ptr vb 0,pv'] 3 false):=by rw[x10.gt _ (AH.lt_of_get u9.get)];exact u9.get
 have hal:(eV es x outs).length<=outs.length+1:=by
  unfold eV;split
  .simp
  .simp
 refine jW (Z0) (M0) (Kw g10 (si9.ext x10 (ab _)) s10 hlo.1 hlo.2 om om) λgv h11 hq=>?_;obtain⟨i11,iv',g11,si11,K11⟩:=hq;refine bI (M0) ?_;have n10:=x10.nx;have n11:=K11.nx;have KK:Kp (λc=>c=fb\/c=pb) h1 h11:=K9.trans ((x10.kp (S:=λc=>c=fb\/c=pb) (ab _)).trans (K11.mono λc _ e=>.inl e) (λ_ _ e=>e)) (λ_ _ e=>e);have hout:jJ es x outs row=row.take (loM x row)++eV es x outs++row.drop hi:=by unfold jJ;rw[hhi];rfl
 have hgone:lQ x row=(row.drop (loM x row)).take (hi-loM x row):=by unfold lQ;rw[hhi];rfl
 have nx1:=x1.nx;have X6n:=X6.nx;refine bu ⟨.tup [gv,.int .i64 0],(by simp only[rs,rf34,am,aL,simprocAttr]<;>rfl),?_⟩;rw[if_pos q,if_pos q2];refine⟨gv,h6.next+1,rfl,?_,?_,om,(x1.kp (ab _)).trans KK λ_ _ e=>e⟩
 .rw[hgone];exact i11.mono om
 .rw[hout];refine⟨iv',.ptr vb 0,pv',hV,g11,Ob om (λ_=>rfl) si11,λb o m c hb=>?_,vv,?_,v1,om,?_,.inr ⟨pl.length+1,hpv',?_,by simp,om⟩⟩
  .rcases si11 with⟨rfl,_⟩|⟨b',m',hb',rfl,_,_⟩
   .cases hb
   .cases hb;constructor<;>omega
  .refine⟨cu vx.nx KK.nx,λc hc=>?_,λc hc=>?_⟩
   .rw[KK.gt c (du hc vx.nx) (by rintro (e|e)<;>omega),vx.gt _ hc]
   .rw[KK.ty c (du hc vx.nx),vx.ty _ hc]
  .omega
  .have h8g:h8.get (h6.next+1)=some (.cells ((pl++[x]).flatMap eI) 1 false):=by
    rw[hpv']at i8;rcases i8 with⟨e,_⟩|⟨b,m,_,e,hg,_⟩
    .cases e
    .cases e;rw[hg,br];rfl
   rw[K11.gt _ om om,x10.gt _ om,u9.ne om,h8g]
end Go.Proofs.YtklpoimdclflmaaGreatDoor
