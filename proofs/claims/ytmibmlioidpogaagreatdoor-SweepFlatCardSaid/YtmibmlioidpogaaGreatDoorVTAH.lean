/- front -/
import Derived.Test.YtmibmlioidpogaaGreatDoorVTAG
set_option linter.all false
namespace Go.Proofs.YtmibmlioidpogaaGreatDoor
open Go.Am
variable {A X row:List It}{es:List (Int×Int)}{fb n pb:Nat}{h:AH}{i x y:Int}{iv ov pv vp:AV}{l outs pl:List Int}
def IsFront(h:AH)(fb pb n:Nat)(es:List (Int×Int))(row:List It)(pl:List Int):Prop :=
 ∃(iv vp pv:AV) (hV:AH),h.get fb=some (.cells [iv,vp,pv] 3 false)/\SlT h iv row/\(∀b o n c,iv=.sl b o n c->b≠fb/\b≠pb)/\IsView hV vp n es/\Ext hV.next hV h/\hV.next<=fb/\hV.next<=pb/\pb<h.next /\
   ((pv=.nils/\pl=[]/\pb=fb)\/∃m,pv=.sl pb 0 m m/\h.get pb=some (.cells (pl.flatMap eI) 1 false)/\m=pl.length/\pb≠fb)
theorem IsView.at{hV:AH}(hv:IsView hV vp n es)(hx:Ext hV.next hV h):IsView h vp n es:=hv.ext hx
theorem IsFront.ext{h h':AH}{fb pb n:Nat}{es:List (Int×Int)}{row:List It}{pl:List Int}(hf:IsFront h fb pb n es row pl)(hx:Ext h.next h h'):IsFront h' fb pb n es row pl:=by
 obtain⟨iv,vp,pv,hV,g,si,so,vv,vx,v1,v2,v3,pp⟩:=hf;refine⟨iv,vp,pv,hV,by rw[hx.gt _ (AH.lt_of_get g)];exact g,si.ext hx (ab _),so,vv,vx.trans (hx.mono vx.nx),v1,v2,bS v3 hx.nx,?_⟩;rcases pp with pp|⟨m,p1,p2,p3⟩
 .exact .inl pp
 .exact .inr ⟨m,p1,by rw[hx.gt _ v3];exact p2,p3⟩
theorem CS(pp:(pv=.nils/\pl=[]/\pb=fb)\/∃m,pv=.sl pb 0 m m/\h.get pb=some (.cells (pl.flatMap eI) 1 false)/\m=pl.length/\pb≠fb):SlI h pv pl:=by
 rcases pp with⟨rfl,rfl,_⟩|⟨m,rfl,p2,rfl,_⟩
 .exact .inl ⟨rfl,.inl rfl⟩
 .exact LY (lo:=0) om (λ_=>rfl) (.inr ⟨pb,_,om,rfl,p2,by rw[fy,aM]⟩)
theorem Ic{lo hi:Nat}{w:AV}{items:List It}(hg:h.get fb=some (.cells [iv,vp,pv] 3 false))(hv:SlT h iv row)(hw:SlT h w items)(hlo:lo<=hi)(hhi:hi<=row.length)(hl:row.length<2^30)(hl2:items.length<2^30) :
 C prg 27 [.ptr fb 0,.int .i64 (lo:Nat),.int .i64 (hi:Nat),w] h λr h'=>IsSl h' 3 h.next r (((row.drop lo).take (hi-lo)).flatMap eT)/\∃iv',h'.get fb=some (.cells [iv',vp,pv] 3 false)/\IsSl h' 3 h.next iv' ((row.take lo++items++row.drop hi).flatMap eT)/\Kp (·=fb) h h':=by
 refine Me pf27 ?_;refine ae (ar (Mi0) ?_);have r1:ak h fb 0 1=some [iv]:=br hg rfl;obtain⟨v1,s1,t1,_⟩:=hv.part hlo (by rw[ah];exact hhi);rw[<-ez,<-ew]at t1;refine ae (bM (aV 7 (by simp only[am,aD,simprocAttr,bE,r1,cY,bh,s1]<;>rfl) rfl (by simp only[am,aD,simprocAttr,bE,r1,cY,bh,s1]) (by simp only[am,aD,simprocAttr,bE,r1,cY,bh,s1]<;>rfl) (uX t1 (by rw[bB,cH];omega)) λg h1 hq=>?_));obtain⟨ig,x1,_⟩:=hq;refine bF (M0) ?_;have n1:=x1.nx;have hfb:=AH.lt_of_get hg;have kg:∀c,c<h1.next->(h1.keep 1).get c=h1.get c:=λc hc=>by rw[AH.keep_get,if_neg om]
 have q7:(h1.keep 1).get h1.next=some .resv:=fZ;have g1:h1.get fb=some (.cells [iv,vp,pv] 3 false):=by rw[x1.gt _ hfb];exact hg
 have r2:ak (h1.keep 1) fb 0 1=some [iv]:=br (by rw[kg _ om];exact g1) rfl;have hv1:=hv.ext x1 (ab _);have hvk:SlT (h1.keep 1) iv row:=hv1.cong λb o n c e=>kg _ (hv1.lt e);obtain⟨v2,f2,t2,t2b,_⟩:=hvk.upto (hi:=lo) (by rw[ah];omega);obtain⟨v3,f3,t3,t3b,_⟩:=hvk.from (lo:=hi) (by rw[ah];omega);rw[<-ew]at t2;rw[<-ez]at t3;have hw1:=hw.ext x1 (ab _);obtain⟨p1,p2,p3,p4⟩:=jm (h:=h1) (o:=.cells [v2,w,v3] 1 false);have kgp:∀c,c<h1.next->((h1.keep 1).put h1.next (.cells [v2,w,v3] 1 false)).get c=(h1.keep 1).get c:=λc hc=>by rw[p4 c hc,kg c hc]
 have ivb:InB (λb=>b<h1.next) iv:=by
  rcases hv1 with⟨_,rfl|rfl⟩|⟨b,o,c,cs,ro,rfl,hgg,_⟩
  .trivial
  .trivial
  .exact AH.lt_of_get hgg
 have t2':SlT ((h1.keep 1).put h1.next (.cells [v2,w,v3] 1 false)) v2 (row.take lo):=t2.cong λb o n c e=>kgp _ (by have:=t2b _ ivb;rw[e]at this;exact this);have t3':SlT ((h1.keep 1).put h1.next (.cells [v2,w,v3] 1 false)) v3 (row.drop hi):=t3.cong λb o n c e=>kgp _ (by have:=t3b _ ivb;rw[e]at this;exact this);have hw':SlT ((h1.keep 1).put h1.next (.cells [v2,w,v3] 1 false)) w items:=hw1.cong λb o n c e=>p4 _ (hw1.lt e);have hcat:=Ax (h:=(h1.keep 1).put h1.next (.cells [v2,w,v3] 1 false)) (v:=.sl h1.next 0 3 3) (vs:=[v2,w,v3]) (xss:=[row.take lo,items,row.drop hi]) (Ma p2 rfl (ab _)) rfl (λi w' xs hw'' hx=>by
  match i with
  |0 =>
    simp only[aP,aa]at hw'' hx;subst hw'' hx;exact t2'
  |1 =>
    simp only[bP,aP,aa]at hw'' hx;subst hw'' hx;exact hw'
  |2 =>
    simp only[bP,aP,aa]at hw'' hx;subst hw'' hx;exact t3'
  |i+3=>simp at hw'') (by simp) (by simp only[fD,fk,bW,aC,cH,bB];omega)
 refine ae (my (aV 15 (by simp only[am,aD,simprocAttr,bE,r2,cY,bh,f2,f3,dS,dG q7,t2.cells.1,t3.cells.1,hw.cells.1]<;>rfl) rfl (by simp only[am,aD,simprocAttr,bE,r2,cY,bh,f2,f3,dS,dG q7,t2.cells.1,t3.cells.1,hw.cells.1]) (by simp only[am,aD,simprocAttr,bE,r2,cY,bh,f2,f3,dS,dG q7,t2.cells.1,t3.cells.1,hw.cells.1]<;>rfl) (hcat) λr h8 hq=>?_));obtain⟨i8,x8⟩:=hq;have n8:=x8.nx;rw[p3]at n8;have g8:h8.get fb=some (.cells [iv,vp,pv] 3 false):=by rw[x8.gt _ om,p4 _ om];exact g1
 have w8:bV h8 fb 0 [r]=some (h8.put fb (.cells [r,vp,pv] 3 false)):=by rw[eL g8];rfl
 obtain⟨rc,ro⟩:=i8.cells;refine bF (by simp only[am,aD,simprocAttr,rc,ro,w8]<;>rfl) ?_;have u9:=Md (o:=.cells [r,vp,pv] 3 false) g8;generalize h8.put fb (.cells [r,vp,pv] 3 false)=h9 at *
 refine ae (ar (M0) ?_);have e8:[row.take lo,items,row.drop hi].flatten=row.take lo++items++row.drop hi:=by simp
 rw[e8,p3]at i8;refine bG ⟨g,(by simp only[rs,rf27,am,aD,simprocAttr]<;>rfl),?_,r,u9.get,(i8.upd u9 om).mono om,?_⟩
 .exact(((ig.ext p1 (ab _)).ext x8 om).cong λb n e hb=>u9.ne om)
 .exact(x1.kp (S:=(·=fb)) (ab _)).trans ((p1.kp (ab _)).trans ((x8.kp (ab _)).trans (u9.kp (S:=(·=fb)) rfl) (λ_ _ q=>q)) (λ_ _ q=>q)) (λ_ _ q=>q)
def gz(es:List (Int×Int))(x:Int)(outs:List Int):List It:=if outs=[]then [(-1,x,-1)]else outs.map λi=>(i,x,((es[i.toNat]?).getD (0,0)).2)
theorem HH(hg:h.get fb=some (.cells [iv,vp,pv] 3 false))(hv:IsView h vp n es)(ho:SlI h ov outs)(hr:∀i∈outs,0<=i/\i<es.length)(hl:outs.length<2^30) :
 C prg 28 [.ptr fb 0,.int .i64 x,ov] h λr h'=>IsSl h' 3 h.next r ((gz es x outs).flatMap eT)/\Ext h.next h h':=by
 obtain⟨b,ev,os,is,ob,ib,rfl,g1,g2,g3,g4,g5,g6,g7,g8,m1,m2,m3,m4⟩:=hv;have lo:=ho.len;rw[ah]at lo;refine Me pf28 ?_;refine ae (ar (Mi0) ?_);refine ae (ae (ar (Mi1 lo) ?_));by_cases q:outs=[]
 .subst q;refine dg (by simp only[am,aD,simprocAttr];rfl) (ae (ar (Mi0) ?_));refine bG ⟨.sl h.next 0 1 1,(by simp only[rs,rf28,am,aD,simprocAttr]<;>rfl),?_,Mb (ab _)⟩;exact .inr ⟨h.next,1,ab _,rfl,by rw[AH.get_new,if_pos rfl];rfl,rfl⟩
 have ql:outs.length≠0:=λe=>q (aY.1 e);have c1:decide (((outs.length:Nat):Int)=0)=false:=aN om;refine dQ (Z1 c1) (bK ?_);have hA:gz es x outs=outs.map λi=>(i,x,((es[i.toNat]?).getD (0,0)).2):=by unfold gz;rw[if_neg q]
 rw[hA];refine ae (ae (ar (Mi1 lo) ?_));refine fj (α:=AV) (N:=outs.length) (λ_ a=>[(0,.ptr fb 0),(1,.int .i64 x),(15,ov),(6,a)]) (λk a h'=>IsSl h' 3 h.next a (((outs.map λi=>(i,x,((es[i.toNat]?).getD (0,0)).2)).take k).flatMap eT)/\Ext h.next h h') .nils (λ_ _=>rfl) om (Oi0) ⟨.inl ⟨rfl,rfl⟩,Mc⟩ ?_ ?_
 .rintro k a ts h1 hk ⟨j1,jx⟩ ⟨ei,en,e0,e1,e15,e6,-⟩;simp only at ei en e0 e1 e15 e6;obtain⟨b1,p1,a1,r4,_⟩:=(ho.ext jx (ab _)).at1 (eJ (f:=eI) hk);obtain⟨hi1,hi2⟩:=hr _ (aZ hk);obtain⟨i,hi⟩:∃i:Nat,outs[k]=i:=⟨outs[k].toNat,om⟩
  rw[hi]at r4 hi2;have hil:i<es.length:=om;obtain⟨eb1,ep,a7,_,r7,_⟩:=(g2.ext jx (ab _)).at (eJ (f:=eE) hil);have r7:=r7 1 (.int .i64 es[i].2) rfl;have rf1:ak h1 fb 1 1=some [.ptr b 0]:=br (by rw[jx.gt _ (AH.lt_of_get hg)];exact hg) rfl;have rv:ak h1 b 1 1=some [ev]:=br (by rw[jx.gt _ (AH.lt_of_get g1)];exact g1) rfl;have hlen:(((outs.map λi=>(i,x,((es[i.toNat]?).getD (0,0)).2)).take k).flatMap eT).length=k*3:=by
   rw[fQ (f:=eT) (e:=3) (λ_=>rfl),bB,ah,dZ om]
  obtain⟨s',h2,a2,i2,x2,n2⟩:=j1.push (bytes:=24) (eT (((i:Nat):Int),x,es[i].2)) jx.nx om rfl rfl (by rw[hlen,AX _ om];unfold bd;omega) (by rw[hlen,AX _ om];unfold bd;omega);rw[show eT (((i:Nat):Int),x,es[i].2)=[.int .i64 ((i:Nat):Int),.int .i64 x,.int .i64 es[i].2] from rfl]at a2 i2;refine ae (ar (M4 e15 ei a1 r4) ?_);refine ar (M8 e0 e1 e6 rf1 rv a7 r7 a2) ?_;refine⟨s',⟨?_,jx.trans x2⟩,O5 ei en e0 e1 e15⟩;have e1:(outs.map λi=>(i,x,((es[i.toNat]?).getD (0,0)).2)).take (k+1)=(outs.map λi=>(i,x,((es[i.toNat]?).getD (0,0)).2)).take k++[(((i:Nat):Int),x,es[i].2)]:=by
   rw[be (by rw[ah];exact hk),List.getElem_map,hi,bU,ai hil,cX]
  rw[e1,dD];exact i2
 .rintro a ts h1 ⟨j1,jx⟩ ⟨e0,e1,e15,e6,-⟩;simp only at e0 e1 e15 e6;rw[cB (by rw[ah];exact ab _)]at j1;refine ae (ar (M1 e6) ?_);exact bG ⟨a,(by simp only[rs,rf28,am,aD,simprocAttr]<;>rfl),j1,jx⟩
def ii(n:Nat)(es:List (Int×Int))(row:List It)(pl:List Int)(x:Int):Bool :=
 decide (0<=x/\x<n)&&!decide (x∈pl)&&(decide ((eH x row).2.2=((eD es x).length:Nat))&&(decide ((eD es x).length=0)||vk x ((row.drop (eH x row).1.toNat).take ((eH x row).2.1.toNat-(eH x row).1.toNat))))
theorem Fc(hf:IsFront h fb pb n es row pl)(hl:row.length<2^30)(hl2:pl.length<2^30) :
 C prg 25 [.ptr fb 0,.int .i64 x] h λr h'=>r=.bool (ii n es row pl x)/\Ext h.next h h':=by
 obtain⟨iv,vp,pv,hV,g,si,so,vv,vx,v1,v2,v3,pp⟩:=hf;have hv:=vv.at vx;have hv0:=hv;obtain⟨b,ev,os,is,ob,ib,rfl,g1,g2,g3,g4,g5,g6,g7,g8,m1,m2,m3,m4⟩:=hv;have sp:=CS pp;refine Me pf25 ?_;have rf1:ak h fb 1 1=some [.ptr b 0]:=br g rfl;have rf2:ak h fb 2 1=some [pv]:=br g rfl;have rn:ak h b 0 1=some [.int .i64 (n:Nat)]:=br g1 rfl;refine ae (ar (Mi0) ?_);by_cases q1:x<0
 .have c1:decide (x<0)=true:=bj q1;refine ae (ae (bM (ja 20 (Mi1 c1) rfl (Z0) ?_)));refine bF (M0) ?_;refine dg (Z0) (ae (ar (M0) ?_));refine bG ⟨.bool false,(by simp only[rs,rf25,am,aD,simprocAttr]<;>rfl),?_,Mc⟩;have:decide (0<=x/\x<(n:Int))=false:=aN om;simp only[ii,this,lE]
 have c1:decide (x<0)=false:=aN q1;by_cases q2:((n:Nat):Int)<=x
 .have c2:decide (((n:Nat):Int)<=x)=true:=bj q2;refine ae (ae (bM (ja 20 (Mi4 c1 c2 rf1 rn) rfl (Z0) ?_)));refine bF (M0) ?_;refine dg (Z0) (ae (ar (M0) ?_));refine bG ⟨.bool false,(by simp only[rs,rf25,am,aD,simprocAttr]<;>rfl),?_,Mc⟩;have:decide (0<=x/\x<(n:Int))=false:=aN om;simp only[ii,this,lE]
 have c2:decide (((n:Nat):Int)<=x)=false:=aN q2;have c3:decide (0<=x/\x<(n:Int))=true:=bj om;refine ae (ae (bM (aV 20 (Mi5 c1 c2 rf1 rf2 rn) rfl (Zi5 c1 c2 rf1 rf2 rn) (Mi5 c1 c2 rf1 rf2 rn) (nh (y:=x) sp om) λr h1 hq=>?_)));obtain⟨rfl,x1⟩:=hq;rw[wZ];refine bF (M0) ?_;refine dY (t:=decide (x∈pl)) (Z0) (λq=>?_) λq=>?_
 .refine ae (ar (M0) ?_);refine bG ⟨.bool false,(by simp only[rs,rf25,am,aD,simprocAttr]<;>rfl),?_,x1⟩;simp only[ii,q,cz,xn,lE]
 refine bK ?_;have hred:ii n es row pl x=(decide ((eH x row).2.2=((eD es x).length:Nat))&&(decide ((eD es x).length=0)||vk x ((row.drop (eH x row).1.toNat).take ((eH x row).2.1.toNat-(eH x row).1.toNat)))):=by
  simp only[ii,c3,q,cj,zr]
 rw[hred];have gf1:h1.get fb=some (.cells [iv,.ptr b 0,pv] 3 false):=by rw[x1.gt _ (AH.lt_of_get g)];exact g
 have rg1:ak h1 fb 1 1=some [.ptr b 0]:=br gf1 rfl;refine ae (bM (aV 5 (Mi1 rg1) rfl (Zi1 rg1) (Mi1 rg1) (JG (x:=x) (hv0.ext x1)) λr h2 hq=>?_));obtain⟨i2,x2⟩:=hq;have s2:SlI h2 r (eD es x):=LY om (λ_=>rfl) i2;have l2:=s2.len;rw[ah]at l2;refine bF (M1 l2) ?_;have X2:=x1.trans (x2.mono x1.nx);have gf2:h2.get fb=some (.cells [iv,.ptr b 0,pv] 3 false):=by rw[X2.gt _ (AH.lt_of_get g)];exact g
 refine ae (bM (aV 4 (Mi0) rfl (Zi0) (Mi0) (Bh (x:=x) gf2 (si.ext X2 (ab _)) hl) λr h3 hq=>?_));obtain⟨rfl,x3⟩:=hq;refine bF (M0) ?_;have X3:=X2.trans (x3.mono X2.nx);have gf3:h3.get fb=some (.cells [iv,.ptr b 0,pv] 3 false):=by rw[X3.gt _ (AH.lt_of_get g)];exact g
 have sok:=xE x row;by_cases q3:(eH x row).2.2=((eD es x).length:Nat)
 case neg =>
  have d3:decide ((eH x row).2.2=((eD es x).length:Nat))=false:=aN q3;refine ae (bM (ja 13 (M1 d3) rfl (Z0) ?_));refine bF (M0) ?_;exact bG ⟨.bool false,(by simp only[rs,rf25,am,aD,simprocAttr]<;>rfl),by rw[d3,lE],X3⟩
 have d3:decide ((eH x row).2.2=((eD es x).length:Nat))=true:=bj q3;by_cases q4:(eD es x).length=0
 .have d4:decide ((((eD es x).length:Nat):Int)=0)=true:=bj om;refine ae (bM (ja 13 (M2 d3 d4) rfl (Z0) ?_));refine bF (M0) ?_;exact bG ⟨.bool true,(by simp only[rs,rf25,am,aD,simprocAttr]<;>rfl),by rw[d3,bj q4];rfl,X3⟩
 .have d4:decide ((((eD es x).length:Nat):Int)=0)=false:=aN om;rcases sok with sok|sok
  .omega
  obtain⟨lo,hlo⟩:∃lo:Nat,(eH x row).1=lo:=⟨(eH x row).1.toNat,om⟩
  obtain⟨hi,hhi⟩:∃hi:Nat,(eH x row).2.1=hi:=⟨(eH x row).2.1.toNat,om⟩
  rw[hlo,hhi];refine ae (bM (aV 13 (Mi2 d3 d4) rfl (Zi2 d3 d4) (Mi2 d3 d4) (HA (x:=x) (lo:=lo) (hi:=hi) gf3 (si.ext X3 (ab _)) hl om om) λr h4 hq=>?_));obtain⟨rfl,x4⟩:=hq;refine bF (M0) ?_;exact bG ⟨_,(by simp only[rs,rf25,am,aD,simprocAttr]<;>rfl),by rw[d3,aN q4,bU,bU];rfl,X3.trans (x4.mono X3.nx)⟩
open Go.Am
theorem Ag{α:Type}[DecidableEq α]:∀{l m:List α},l.Nodup->(∀x∈l,x∈m)->l.length<=m.length
 |[],_,_,_=>dA _
 |a::l,m,hn,hs=>by
   have hm:=hs a (bt ..);have hn':=aS.1 hn;have:=Ag (l:=l) (m:=m.erase a) hn'.2 λx hx=>(List.mem_erase_of_ne (λe:x=a=>hn'.1 (e▸hx))).2 (hs x (aQ _ hx));rw[List.length_erase_of_mem hm]at this;have:0<m.length:=List.length_pos_of_mem hm;simp only[aq];omega
theorem oJ(p:Int×Int->Bool):∀(es:List (Int×Int)) (i j:Nat) (e:Int×Int),es[j]?=some e->p e=true->((i+j:Nat):Int)∈dX p es i
 |[],i,j,e,h,_=>by simp at h
 |y::r,i,0,e,h,hp=>by
   simp only[aP,aa]at h;subst h;simp[dX,hp]
 |y::r,i,j+1,e,h,hp=>by
   simp only[bP]at h;have:=oJ p r (i+1) j e h hp;rw[show i+1+j=i+(j+1) by omega]at this;unfold dX;split
   .exact aQ _ this
   .exact this
theorem md(p:Int×Int->Bool):∀(es:List (Int×Int)) (i:Nat),(dX p es i).Nodup
 |[],i=>lD
 |y::r,i=>by
   unfold dX;split
   .refine aS.2 ⟨λh=>?_,md p r (i+1)⟩;obtain⟨j,hj,_⟩:=gp p r (i+1) _ h;omega
   .exact md p r (i+1)
theorem vR:i∈eD es y↔∃k:Nat,i=k/\∃t,es[k]?=some (t,y):=by
 constructor
 .intro h;obtain⟨j,hj,_,e,he,hp⟩:=gp _ es 0 _ h;rw[bL]at hj;have:e.2=y:=bN hp;exact⟨j,hj,e.1,by rw[he,<-this]⟩
 .rintro⟨k,rfl,t,ht⟩;have:=oJ (λe=>decide (e.2=y)) es 0 k _ ht (by simp);rwa [bL]at this
theorem jD:i∈eY es y↔∃k:Nat,i=k/\∃t,es[k]?=some (y,t):=by
 constructor
 .intro h;obtain⟨j,hj,_,e,he,hp⟩:=gp _ es 0 _ h;rw[bL]at hj;have:e.1=y:=bN hp;exact⟨j,hj,e.2,by rw[he,<-this]⟩
 .rintro⟨k,rfl,t,ht⟩;have:=oJ (λe=>decide (e.1=y)) es 0 k _ ht (by simp);rwa [bL]at this
def wK(x:Int)(row:List It):Nat:=row.countP λi=>decide (i.2.2=x)
structure Cut(x:Int)(row A X C:List It):Prop where
 eq:row=A++X++C
 na:∀i∈A,i.2.2≠x
 nc:∀i∈C,i.2.2≠x
 hd:∃a X',X=a::X'/\a.2.2=x
 tl:∃X' z,X=X'++[z]/\z.2.2=x
theorem wJ(x:Int):∀row:List It,(∀i∈row,i.2.2≠x)\/∃A X C,Cut x row A X C
 |[]=>.inl (by simp)
 |it::r=>by
   by_cases q:it.2.2=x
   .refine .inr ?_;rcases wJ x r with h|⟨A,X,C,c⟩
    .exact⟨[],[it],r,by simp,by simp,h,⟨it,[],rfl,q⟩,⟨[],it,rfl,q⟩⟩
    .obtain⟨X',z,hX,hz⟩:=c.tl;refine⟨[],it::(A++X),C,by rw[c.eq];simp,by simp,c.nc,⟨it,A++X,rfl,q⟩,⟨it::(A++X'),z,by rw[hX];simp,hz⟩⟩
   .rcases wJ x r with h|⟨A,X,C,c⟩
    .refine .inl λi hi=>?_;rcases au.1 hi with rfl|hi
     .exact q
     .exact h i hi
    .refine .inr ⟨it::A,X,C,by rw[c.eq];simp,λi hi=>?_,c.nc,c.hd,c.tl⟩;rcases au.1 hi with rfl|hi
     .exact q
     .exact c.na i hi
theorem Cut.pos{C:List It}(c:Cut x row A X C):0<wK x X:=by
 obtain⟨a,X',h1,h2⟩:=c.hd;rw[h1];unfold wK;rw[fp];simp[h2]
theorem nB(x:Int):∀(a b:List It) (i:Nat) (s:Int×Int×Int),fG x (a++b) i s=fG x b (i+a.length) (fG x a i s)
 |[],b,i,s=>rfl
 |it::r,b,i,s=>by
   rw[aB,fG,nB x r b (i+1),fG,aq,show i+1+r.length=i+(r.length+1) by omega]
theorem lT(x:Int):∀(a:List It) (i:Nat) (s:Int×Int×Int),(∀j∈a,j.2.2≠x)->fG x a i s=s
 |[],i,s,_=>rfl
 |it::r,i,s,h=>by
   rw[fG,if_neg (h it (bt ..)),lT x r _ _ λj hj=>h j (aQ _ hj)]
theorem tW(x:Int):∀(a:List It) (i:Nat) (s:Int×Int×Int),(fG x a i s).2.2=s.2.2+(wK x a:Nat)
 |[],i,s=>by simp[fG,wK]
 |it::r,i,s=>by
   rw[fG,tW x r];unfold wK;rw[fp];by_cases q:it.2.2=x
   .simp only[q,if_true,decide_true];omega
   .simp only[q,if_false,decide_false];simp
theorem od(x:Int):∀(a:List It) (i:Nat) (s:Int×Int×Int),s.1≠-1->(fG x a i s).1=s.1
 |[],i,s,_=>rfl
 |it::r,i,s,h=>by
   rw[fG];by_cases q:it.2.2=x
   .rw[if_pos q,if_neg h];exact od x r _ _ h
   .rw[if_neg q,od x r _ _ h]
theorem pK(h:∀i∈row,i.2.2≠x):eH x row=(-1,0,0):=lT x row 0 _ h
theorem Cut.span{x:Int}{X C:List It}(c:Cut x row A X C):eH x row=(((A.length:Nat):Int),((A.length+X.length:Nat):Int),((wK x X:Nat):Int)):=by
 unfold eH;rw[c.eq,bD,nB,lT x A _ _ c.na,nB,lT x C _ _ c.nc,bL];obtain⟨a,X',h1,h2⟩:=c.hd;obtain⟨X'',z,h3,h4⟩:=c.tl;have p1:(fG x X A.length (-1,0,0)).1=(A.length:Nat):=by
  rw[h1,fG,if_pos h2,if_pos rfl,od];simp only;omega
 have p2:(fG x X A.length (-1,0,0)).2.1=(A.length+X.length:Nat):=by
  rw[h3,nB,fG,if_pos h4,aC];rfl
 have p3:=tW x X A.length (-1,0,0);simp only[Int.zero_add]at p3;exact Prod.ext p1 (Prod.ext p2 p3)
def loM(x:Int)(row:List It):Nat:=(max (eH x row).1 0).toNat
def mT(x:Int)(row:List It):List It:=(row.drop (loM x row)).take ((eH x row).2.1.toNat-loM x row)
def kQ(es:List (Int×Int))(x:Int)(outs:List Int)(row:List It):List It:=row.take (loM x row)++gz es x outs++row.drop (eH x row).2.1.toNat
theorem Dq(h:∀i∈row,i.2.2≠x):mT x row=[]:=by
 unfold mT loM;rw[pK h];simp
theorem uo(h:∀i∈row,i.2.2≠x):kQ es x outs row=gz es x outs++row:=by
 unfold kQ loM;rw[pK h];have:(max (-1:Int) 0).toNat=0:=by decide
 simp[this]
theorem Cut.lo{C:List It}(c:Cut x row A X C):loM x row=A.length:=by
 unfold loM;rw[c.span];simp only;omega
theorem Cut.gone{C:List It}(c:Cut x row A X C):mT x row=X:=by
 unfold mT;rw[c.lo,c.span];simp only[bU];rw[c.eq,bD,ip,eK,jz]
theorem Cut.next{C:List It}(c:Cut x row A X C):kQ es x outs row=A++gz es x outs++C:=by
 unfold kQ;rw[c.lo,c.span];simp only[bU];rw[c.eq,<-aC,ip,bD A X C,jz]
def zM(es:List (Int×Int))(row:List It)(x:Int):Bool:=decide ((eH x row).2.2=((eD es x).length:Nat))&&(decide ((eD es x).length=0)||vk x ((row.drop (eH x row).1.toNat).take ((eH x row).2.1.toNat-(eH x row).1.toNat)))
theorem CN:ii n es row pl x=true↔(0<=x/\x<n)/\x∉pl/\zM es row x=true:=by
 unfold ii zM;rw[aL,aL,aI,cZ,aO,and_assoc]
theorem HB:vk x X=true↔∀i∈X,i.2.2=x\/i.2.2=-1:=by
 unfold vk;rw[cZ,pF];refine forall_congr' λi=>forall_congr' λ_=>?_;rw[aI];omega
theorem Bp:zM es row x=true↔((eD es x).length=0/\∀i∈row,i.2.2≠x)\/∃A X C,Cut x row A X C/\wK x X=(eD es x).length/\∀i∈X,i.2.2=x\/i.2.2=-1:=by
 rcases wJ x row with h|⟨A,X,C,c⟩
 .unfold zM;rw[pK h];simp only;constructor
  .intro q;rw[aL,aI]at q;exact .inl ⟨om,h⟩
  .rintro (⟨q,_⟩|⟨A,X,C,c,_⟩)
   .rw[q];rfl
   .obtain⟨a,X',h1,h2⟩:=c.hd;exact absurd h2 (h a (by rw[c.eq,h1];simp))
 .have hp:=c.pos;have hne:¬ ∀i∈row,i.2.2≠x:=by
   obtain⟨a,X',h1,h2⟩:=c.hd;exact λh=>absurd h2 (h a (by rw[c.eq,h1];simp))
  have key:zM es row x=true↔wK x X=(eD es x).length/\∀i∈X,i.2.2=x\/i.2.2=-1:=by
   unfold zM;rw[c.span];simp only[bU,eK];rw[show(row.drop A.length).take X.length=X by rw[c.eq,bD,ip,jz],aL,df,aI,aI,HB];constructor
   .rintro⟨h1,h2⟩;have h1:wK x X=(eD es x).length:=om;exact⟨h1,h2.resolve_left om⟩
   .rintro⟨h1,h2⟩;exact⟨om,.inr h2⟩
  rw[key];constructor
  .rintro⟨h1,h2⟩;exact .inr ⟨A,X,C,c,h1,h2⟩
  .rintro (⟨_,q⟩|⟨A',X',C',c',h1,h2⟩)
   .exact absurd q hne
   .have e:=c.gone;rw[c'.gone]at e;subst e;exact⟨h1,h2⟩
structure Inv(n:Nat)(es:List (Int×Int))(row:List It)(pl:List Int):Prop where
 it:∀i∈row,(i.1=-1/\i.2.2=-1)\/∃k:Nat,i.1=k/\es[k]?=some (i.2.1,i.2.2)/\i.2.1∈pl
 nd:((row.filter λi=>decide (0<=i.1)).map (·.1)).Nodup
 src:(pl=[]/\row=[])\/∀s:Nat,s<n->(eD es s).length=0->((s:Nat):Int)∈pl
theorem Inv.start:Inv n es [] []:=⟨by simp,by simp,.inl ⟨rfl,rfl⟩⟩
def OutsOk(es:List (Int×Int))(x:Int)(l:List Int):Prop:=l.Perm (eY es x)
theorem OutsOk.mem(h:OutsOk es x l):i∈l↔i∈eY es x:=h.mem_iff
theorem OutsOk.nodup(h:OutsOk es x l):l.Nodup:=h.nodup_iff.2 (md _ _ _)
theorem HI(h:OutsOk es x l){i:It}(hi:i∈gz es x l):(i.1=-1/\i.2.2=-1)\/∃k:Nat,i.1=k/\es[k]?=some (i.2.1,i.2.2)/\i.2.1=x/\i.1∈l:=by
 unfold gz at hi;split at hi
 .simp only[au,aR,or_false]at hi;subst hi;exact .inl ⟨rfl,rfl⟩
 .obtain⟨j,hj,rfl⟩:=bA.1 hi;obtain⟨k,rfl,t,ht⟩:=jD.1 (h.mem.1 hj);refine .inr ⟨k,rfl,?_,rfl,hj⟩;simp only[bU,ht,cX]
theorem zj(h:OutsOk es x l):((gz es x l).filter λi=>decide (0<=i.1)).map (·.1)=l:=by
 unfold gz;split
 .rename_i q
  subst q;rfl
 .rw[List.filter_eq_self.2,jI]
  .exact List.map_id' l
  .intro i hi;obtain⟨j,hj,rfl⟩:=bA.1 hi;obtain⟨k,rfl,_⟩:=jD.1 (h.mem.1 hj);simp
theorem Bv(es:List (Int×Int))(x:Int)(row:List It):∃A X C,row=A++X++C/\mT x row=X/\(∀outs,kQ es x outs row=A++gz es x outs++C)/\((A=[]/\X=[]/\C=row/\∀i∈row,i.2.2≠x)\/Cut x row A X C):=by
 rcases wJ x row with h|⟨A,X,C,c⟩
 .exact⟨[],[],row,rfl,Dq h,λ_=>by rw[uo h];rfl,.inl ⟨rfl,rfl,rfl,h⟩⟩
 .exact⟨A,X,C,c.eq,c.gone,λ_=>c.next,.inr c⟩
theorem Inv.next(v:Inv n es row pl)(ho:OutsOk es x l)(hx:x∉pl)(hr:zM es row x=true)(hone:∀a b:Nat,a<n->b<n->(eD es a).length=0->(eD es b).length=0->a=b)(hxn:0<=x/\x<n):Inv n es (kQ es x l row) (pl++[x]):=by
 obtain⟨A,X,C,e1,e2,e3,e4⟩:=Bv es x row;have sub:(A++C).Sublist row:=by
  rw[e1,bD];exact(List.Sublist.refl A).append (List.sublist_append_right X C)
 have hmem:∀i,i∈A++C->i∈row:=λi hi=>sub.subset hi;refine⟨λi hi=>?_,?_,.inr λs hs h0=>?_⟩
 .rw[e3,aw,aw]at hi;have old:i∈row->(i.1=-1/\i.2.2=-1)\/∃k:Nat,i.1=k/\es[k]?=some (i.2.1,i.2.2)/\i.2.1∈pl++[x]:=λhm=>by
   rcases v.it i hm with h|⟨k,h1,h2,h3⟩
   .exact .inl h
   .exact .inr ⟨k,h1,h2,bp _ h3⟩
  rcases hi with(hi|hi)|hi
  .exact old (hmem i (bp _ hi))
  .rcases HI ho hi with h|⟨k,h1,h2,h3,_⟩
   .exact .inl h
   .exact .inr ⟨k,h1,h2,by rw[h3];simp⟩
  .exact old (hmem i (eZ _ hi))
 .rw[e3,dW,dW,dn,dn,zj ho];have nd1:(((A++C).filter λi=>decide (0<=i.1)).map (·.1)).Nodup:=((sub.filter _).map _).nodup v.nd;rw[dW,dn,aJ]at nd1;have dis:∀i∈row,i.1∈l->False:=λi hi hl=>by
   rcases v.it i hi with⟨h,_⟩|⟨k,h1,h2,h3⟩
   .obtain⟨k,hk,_⟩:=jD.1 (ho.mem.1 hl);omega
   .obtain⟨k',hk,t,ht⟩:=jD.1 (ho.mem.1 hl);have:k'=k:=om;subst this;rw[h2]at ht;simp only[aa,aj]at ht;exact hx (ht.1▸h3)
  have disA:∀z∈(A.filter λi=>decide (0<=i.1)).map (·.1),z∈l->False:=λz hz hl=>by
   obtain⟨i,hi,rfl⟩:=bA.1 hz;exact dis i (hmem i (bp _ (bq.1 hi).1)) hl
  have disC:∀z∈(C.filter λi=>decide (0<=i.1)).map (·.1),z∈l->False:=λz hz hl=>by
   obtain⟨i,hi,rfl⟩:=bA.1 hz;exact dis i (hmem i (eZ _ (bq.1 hi).1)) hl
  rw[aJ,aJ];refine⟨⟨nd1.1,ho.nodup,λa ha b hb e=>disA a ha (e▸hb)⟩,nd1.2.1,λa ha b hb e=>?_⟩;rcases aw.1 ha with ha|ha
  .exact nd1.2.2 a ha b hb e
  .exact disC b hb (e▸ha)
 .rcases v.src with⟨h1,h2⟩|h
  .subst h1 h2;rcases Bp.1 hr with⟨q,_⟩|⟨A,X,C,c,_⟩
   .obtain⟨m,rfl⟩:∃m:Nat,x=m:=⟨x.toNat,om⟩
    have:=hone s m hs om h0 q;subst this;simp
   .obtain⟨a,X',h1,_⟩:=c.hd;have:=c.eq;rw[h1]at this;simp at this
  .exact bp _ (h s hs h0)
def tE(n:Nat)(es:List (Int×Int))(outs:List (List Int)):List Int->List Int->List It->List (List It)->Nat->(List (List It)×List It) ⊕ Nat
 |[],_,row,ends,_=>.inl (ends,row)
 |x::q,pl,row,ends,i=>if ii n es row pl x then tE n es outs q (pl++[x]) (kQ es x (outs.getD x.toNat []) row) (ends.set x.toNat (mT x row)) (i+1)else .inr i
open Go.Am
theorem jL{P:RP}{b:Nat}{l l2:List ROper}{s:Option (Tm×AH)}{K:Tm->AH->Prop}{ts:Tm}{d:Option Nat}{f:FuncId}{args:List RO}{g:Option (Nat×Bool)}{nm:Option Nat}{cs:List (Nat×ROp×Option (Nat×Bool))}{vs:List AV}{Q:AV->AH->Prop}(n:Nat)
 (hs:kM b (l.take n) s=some (ts,h)) (hd:l.drop n=⟨d,.call f args,g,nm,cs⟩::l2) (hw:wanted ts g=some true) (ha:args.map (RO.ev ts)=vs) (hc:C P f vs h Q)
 (hk:∀v h',Q v h'->gu (dE ts d v) h' cs=true/\G P b l2 (some (dE ts d v,h')) K):G P b l s K:=by
 subst ha;rw[<-cT n l];refine qQ ?_;rw[hs,hd];exact Ci hw (hc.mono hk)
theorem oH(xs:List Int):(gf xs).Perm xs:=nM _ _
theorem FI:(kQ es x outs row).length<=row.length+outs.length+1:=by
 obtain⟨A,X,C,e1,_,e3,_⟩:=Bv es x row;rw[e3,e1];simp only[aC];have:(gz es x outs).length<=outs.length+1:=by
  unfold gz;split
  .simp
  .simp
 omega
theorem Dr(hf:IsFront h fb pb n es row pl)(ho:SlI h ov outs)(hov:∀b o m c,ov=.sl b o m c->b≠fb/\b≠pb)(hl:row.length<2^29)(hl2:pl.length<2^29)(hl3:outs.length<2^29) :
 C prg 13 [.ptr fb 0,.int .i64 x,ov] h λr h' =>
   if ii n es row pl x=true then
    if gf outs=eY es x then ∃g pb',r=.tup [g,.int .i64 0]/\IsSl h' 3 h.next g ((mT x row).flatMap eT)/\IsFront h' fb pb' n es (kQ es x outs row) (pl++[x])/\h.next<=pb'/\Kp (λc=>c=fb\/c=pb) h h'
    else r=.tup [.nils,.int .i64 1]/\Ext h.next h h'
   else r=.tup [.nils,.int .i64 3]/\Ext h.next h h':=by
 refine Me pf13 ?_;refine ae (ar (Mi0) ?_);refine ae (ae (bM (aV 2 (Mi0) rfl (Zi0) (Mi0) (Fc (x:=x) hf om om) λr h1 hq=>?_)));obtain⟨rfl,x1⟩:=hq;refine bF (M0) ?_;have hf1:=hf.ext x1;obtain⟨iv,vp,pv,hV,g,si,so,vv,vx,v1,v2,v3,pp⟩:=hf1;have hv:=vv.at vx;have hfb:=AH.lt_of_get g;have hlow:fb<h.next/\pb<h.next:=by
  obtain⟨iv,vp,pv,hV,g,si,so,vv,vx,v1,v2,v3,pp⟩:=hf;exact⟨AH.lt_of_get g,v3⟩
 refine dY (t:=!ii n es row pl x) (Z0) (λq=>?_) λq=>?_
 .have q:ii n es row pl x=false:=by simpa using q
  refine ae (ar (M0) ?_);refine bG ⟨.tup [.nils,.int .i64 3],(by simp only[rs,rf13,am,aD,simprocAttr]<;>rfl),?_⟩;rw[if_neg (by simp[q])];exact⟨rfl,x1⟩
 have q:ii n es row pl x=true:=by simpa using q
 refine bK ?_;have ho1:=ho.ext x1 (ab _);have r1:ak h1 fb 1 1=some [vp]:=br g rfl;obtain⟨vb,hvb⟩:∃vb,vp=.ptr vb 0:=by obtain⟨b,_,_,_,_,_,hb,_⟩:=hv;exact⟨b,hb⟩
 subst hvb;refine ae (ae (bM (jL 6 (Mi1 r1) rfl (Zi1 r1) (Mi1 r1) (nz ho1.cells.1) λr h2 hq=>?_)));obtain⟨rfl,hh2⟩:=hq;have x2:Ext h1.next h1 h2:=by rw[hh2];exact Mb (ab _)
 have n2:h2.next=h1.next+1:=by rw[hh2];rfl
 have g2:h2.get h1.next=some (.cells [ov] 1 false):=by rw[hh2,AH.get_new,if_pos rfl]
 have r2:ak h2 fb 1 1=some [.ptr vb 0]:=by rw[cS (x2.gt _ hfb)];exact r1
 refine⟨Z1 r2,?_⟩;refine jL 0 (M0) rfl (Z0) (M0) (nD (br g2 rfl) (ho1.ext x2 (ab _)) om om) λr h3 hq=>?_;obtain⟨i3,x3⟩:=hq;have X3:=x2.trans (x3.mono x2.nx);have r3:ak h3 fb 1 1=some [.ptr vb 0]:=by rw[cS (X3.gt _ hfb)];exact r1
 refine⟨Z1 r3,?_⟩;have hv3:=hv.ext X3;refine jc (Z0) (M0) (Bx (x:=x) hv3) λr4 h4 hq=>?_;obtain⟨i4,x4⟩:=hq;have lo:=ho.len;have s3':SlI h3 r (gf outs):=LY om (λ_=>rfl) i3;have s3:=s3'.ext x4 (ab _);have s4:SlI h4 r4 (eY es x):=LY om (λ_=>rfl) i4;have X4:=X3.trans (x4.mono X3.nx);have hol:(eY es x).length<=128:=by
  obtain⟨_,_,_,_,_,_,_,_,_,_,_,_,_,_,_,_,_,hm,_⟩:=hv;exact cw (gq _ _ _) hm
 refine jc (Z0) (M0) (uK s3 s4 (by rw[jq];omega) om) λr5 h5 hq=>?_;obtain⟨rfl,e5⟩:=hq;subst e5;refine bF (M0) ?_;have XX4:=x1.trans (X4.mono x1.nx);refine dY (t:=!(gf outs==eY es x)) (Z0) (λq2=>?_) λq2=>?_
 .have q2:¬gf outs=eY es x:=by simpa using q2
  refine ae (ar (M0) ?_);refine bG ⟨.tup [.nils,.int .i64 1],(by simp only[rs,rf13,am,aD,simprocAttr]<;>rfl),?_⟩;rw[if_pos q,if_neg q2];exact⟨rfl,XX4⟩
 have q2:gf outs=eY es x:=by simpa using q2
 refine bK ?_;have g4:h5.get fb=some (.cells [iv,.ptr vb 0,pv] 3 false):=by rw[X4.gt _ hfb];exact g
 have si4:=si.ext X4 (ab _);refine ae (bM (aV 4 (Mi0) rfl (Zi0) (Mi0) (Bh (x:=x) g4 si4 om) λr6 h6 hq=>?_));obtain⟨rfl,x6⟩:=hq;refine bF (M0) ?_;have X6:=X4.trans (x6.mono X4.nx);have XX6:=x1.trans (X6.mono x1.nx);have g6:h6.get fb=some (.cells [iv,.ptr vb 0,pv] 3 false):=by rw[X6.gt _ hfb];exact g
 have nx6:=XX6.nx;have pI:IsSl h6 1 0 pv (pl.flatMap eI):=by
  rcases pp with⟨rfl,rfl,_⟩|⟨m,rfl,p2,rfl,_⟩
  .exact .inl ⟨rfl,rfl⟩
  .exact .inr ⟨pb,_,dA _,rfl,by rw[X6.gt _ v3];exact p2,by rw[fy,aM]⟩
 have pb6:∀b m,pv=.sl b 0 m m->b=pb:=λb m hb=>by
  rcases pp with⟨rfl,_,_⟩|⟨m',rfl,_,_,_⟩
  .cases hb
  .cases hb;rfl
 have pbf:∀b m,pv=.sl b 0 m m->b≠fb:=λb m hb=>by
  rcases pp with⟨rfl,_,_⟩|⟨m',rfl,_,_,hne⟩
  .cases hb
  .cases hb;exact hne
 have x7:Ext h6.next h6 (h6.new (.cells [.int .i64 x] 1 false)):=Mb (ab _);have g7:(h6.new (.cells [.int .i64 x] 1 false)).get h6.next=some (.cells [.int .i64 x] 1 false):=by rw[AH.get_new,if_pos rfl]
 have n7:(h6.new (.cells [.int .i64 x] 1 false)).next=h6.next+1:=rfl;have r6:ak (h6.new (.cells [.int .i64 x] 1 false)) fb 2 1=some [pv]:=by rw[cS (x7.gt _ (AH.lt_of_get g6))];exact br g6 rfl
 have r6':ak h6 fb 2 1=some [pv]:=br g6 rfl
 obtain⟨pv',h8,a8,i8,x8,hpv',n8,k8,t8⟩:=(pI.ext x7 (ab _)).app (bytes:=8) (x:=h6.next) (new:=[.int .i64 x]) (dA _) om g7 (dA _) (λb m hb=>by have:=pb6 b m hb;omega) rfl rfl
  (by rw[fy];unfold bd;omega) (by rw[fy];unfold bd;omega)
 rw[n7]at hpv' n8;rw[fy,jy]at hpv';have g8:h8.get fb=some (.cells [iv,.ptr vb 0,pv] 3 false):=by rw[k8 fb om (λb m hb=>(pbf b m hb).symm),x7.gt _ (AH.lt_of_get g6)];exact g6
 have w8:bV h8 fb 2 [pv']=some (h8.put fb (.cells [iv,.ptr vb 0,pv'] 3 false)):=by rw[eL g8];rfl
 obtain⟨pc,po⟩:=i8.cells;refine ae (ar (by simp only[am,aD,simprocAttr,bE,r6',a8,pc,po,w8]<;>rfl) ?_);have u9:=Md (o:=.cells [iv,.ptr vb 0,pv'] 3 false) g8;have n9:(h8.put fb (.cells [iv,.ptr vb 0,pv'] 3 false)).next=h8.next:=rfl;have K9:Kp (λc=>c=fb\/c=pb) h1 (h8.put fb (.cells [iv,.ptr vb 0,pv'] 3 false)):=by
  refine⟨by have:=X6.nx;omega,λc hc hn=>?_,λc hc=>?_⟩
  .have:=X6.nx;rw[u9.ne (λe=>hn (.inl e)),k8 c om (λb m hb e=>hn (.inr (e.trans (pb6 b m hb)))),x7.gt _ om,X6.gt _ hc]
  .rw[u9.ty,t8];have:=X6.nx;rw[x7.ty _ om,X6.ty _ hc]
 generalize h8.put fb (.cells [iv,.ptr vb 0,pv'] 3 false)=h9 at *
 have ho9:SlI h9 ov outs:=ho1.cong λb o m c hb=>K9.gt _ (ho1.lt hb) λhn=>by
  obtain⟨e1,e2⟩:=hov b o m c hb;rcases hn with hn|hn
  .exact e1 hn
  .exact e2 hn
 have si9:SlT h9 iv row:=si.cong λb o m c hb=>K9.gt _ (si.lt hb) λhn=>by
  obtain⟨e1,e2⟩:=so b o m c hb;rcases hn with hn|hn
  .exact e1 hn
  .exact e2 hn
 have xV9:Ext hV.next hV h9:=by
  refine⟨cw vx.nx K9.nx,λc hc=>?_,λc hc=>?_⟩
  .rw[K9.gt c (bS hc vx.nx) (by rintro (e|e)<;>omega),vx.gt _ hc]
  .rw[K9.ty c (bS hc vx.nx),vx.ty _ hc]
 have hv9:=vv.at xV9;have hr9:∀i∈outs,0<=i/\i<es.length:=λi hi=>by
  have:i∈eY es x:=by rw[<-q2];exact(oH outs).mem_iff.2 hi
  obtain⟨k,rfl,t,ht⟩:=jD.1 this;have:=(aG.1 ht).1;omega
 have sok:=xE x row;have elo:(if (eH x row).1<0 then(0:Int)else(eH x row).1)=((loM x row:Nat):Int):=by
  unfold loM;split<;>omega
 obtain⟨hi,hhi⟩:∃hi:Nat,(eH x row).2.1=hi:=⟨(eH x row).2.1.toNat,om⟩
 have hlo:loM x row<=hi/\hi<=row.length:=by unfold loM;omega
 refine ae (bM (aV 9 (Mi3 @mx2 elo hhi) rfl (Zi3 @mx2 elo hhi) (Mi3 @mx2 elo hhi) (HH (x:=x) u9.get hv9 ho9 hr9 om) λw h10 hq=>?_));obtain⟨i10,x10⟩:=hq;have s10:SlT h10 w (gz es x outs):=LY om (λ_=>rfl) i10;have g10:h10.get fb=some (.cells [iv,.ptr vb 0,pv'] 3 false):=by rw[x10.gt _ (AH.lt_of_get u9.get)];exact u9.get
 have hal:(gz es x outs).length<=outs.length+1:=by
  unfold gz;split
  .simp
  .simp
 refine jc (Z0) (M0) (Ic g10 (si9.ext x10 (ab _)) s10 hlo.1 hlo.2 om om) λgv h11 hq=>?_;obtain⟨i11,iv',g11,si11,K11⟩:=hq;refine bF (M0) ?_;have n10:=x10.nx;have n11:=K11.nx;have KK:Kp (λc=>c=fb\/c=pb) h1 h11:=K9.trans ((x10.kp (S:=λc=>c=fb\/c=pb) (ab _)).trans (K11.mono λc _ e=>.inl e) (λ_ _ e=>e)) (λ_ _ e=>e);have hout:kQ es x outs row=row.take (loM x row)++gz es x outs++row.drop hi:=by unfold kQ;rw[hhi];rfl
 have hgone:mT x row=(row.drop (loM x row)).take (hi-loM x row):=by unfold mT;rw[hhi];rfl
 have nx1:=x1.nx;have X6n:=X6.nx;refine bG ⟨.tup [gv,.int .i64 0],(by simp only[rs,rf13,am,aD,simprocAttr]<;>rfl),?_⟩;rw[if_pos q,if_pos q2];refine⟨gv,h6.next+1,rfl,?_,?_,om,(x1.kp (ab _)).trans KK λ_ _ e=>e⟩
 .rw[hgone];exact i11.mono om
 .rw[hout];refine⟨iv',.ptr vb 0,pv',hV,g11,LY om (λ_=>rfl) si11,λb o m c hb=>?_,vv,?_,v1,om,?_,.inr ⟨pl.length+1,hpv',?_,by simp,om⟩⟩
  .rcases si11 with⟨rfl,_⟩|⟨b',m',hb',rfl,_,_⟩
   .cases hb
   .cases hb;constructor<;>omega
  .refine⟨cw vx.nx KK.nx,λc hc=>?_,λc hc=>?_⟩
   .rw[KK.gt c (bS hc vx.nx) (by rintro (e|e)<;>omega),vx.gt _ hc]
   .rw[KK.ty c (bS hc vx.nx),vx.ty _ hc]
  .omega
  .have h8g:h8.get (h6.next+1)=some (.cells ((pl++[x]).flatMap eI) 1 false):=by
    rw[hpv']at i8;rcases i8 with⟨e,_⟩|⟨b,m,_,e,hg,_⟩
    .cases e
    .cases e;rw[hg,dD];rfl
   rw[K11.gt _ om om,x10.gt _ om,u9.ne om,h8g]
open Go.Am
theorem IsFront.bounds(hf:IsFront h fb pb n es row pl):1<=n/\n<=64/\es.length<=128/\es.all (okE n)=true:=by
 obtain⟨iv,vp,pv,hV,g,si,so,vv,vx,v1,v2,v3,pp⟩:=hf;obtain⟨_,_,_,_,_,_,_,_,_,_,_,_,_,_,_,q⟩:=vv;exact q
theorem JM(hf:IsFront h fb pb n es row pl)(hl:row.length<2^30):C prg 14 [.ptr fb 0] h λr h'=>IsSl h' 3 h.next r (row.flatMap eT)/\Ext h.next h h':=by
 obtain⟨iv,vp,pv,hV,g,si,so,vv,vx,v1,v2,v3,pp⟩:=hf;have r1:ak h fb 0 1=some [iv]:=br g rfl;refine Me pf14 ?_;refine ae (ar (Mi0) ?_);refine ae (bM (aV 4 (Mi1 r1) rfl (Zi1 r1) (Mi1 r1) (uX si om) λr h1 hq=>?_));obtain⟨i1,x1,_⟩:=hq;refine bF (M0) ?_;exact bG ⟨_,(by simp only[rs,rf14,am,aD,simprocAttr]<;>rfl),i1,x1⟩
theorem JN{n:Int}{ev:AV}(he:SlE h ev es)(hl:es.length<2^30) :
 C prg 10 [.agg [.int .i64 n,ev]] h λr h'=>Ext h.next h h'/\((qP n es/\∃fb,h.next<=fb/\r=.tup [.ptr fb 0,.int .i64 0]/\IsFront h' fb fb n.toNat es [] [])\/(¬qP n es/\r=.tup [.nilp,.int .i64 1])):=by
 obtain⟨ec,eo⟩:=he.cells;refine Me pf10 ?_;have x0:Ext h.next h (h.new (.cells [.int .i64 n,ev] 2 false)):=Mb (ab _);have g0:(h.new (.cells [.int .i64 n,ev] 2 false)).get h.next=some (.cells [.int .i64 n,ev] 2 false):=by rw[AH.get_new,if_pos rfl]
 have n0:(h.new (.cells [.int .i64 n,ev] 2 false)).next=h.next+1:=rfl;refine ae (ar (Mi0) ?_);generalize h.new (.cells [.int .i64 n,ev] 2 false)=h0 at *
 have r0:ak h0 h.next 0 2=some [.int .i64 n,ev]:=by rw[aU g0];rfl
 refine ae (ae (bM (aV 1 (Mi1 r0) rfl (Zi1 r0) (Mi1 r0) (Hj (he.ext x0 (ab _)) hl) λr h2 hq=>?_)));obtain⟨⟨c,a,v,rfl,hc⟩,x2⟩:=hq;have X2:=x0.trans (x2.mono x0.nx);refine bF (by simp only[am,aD,simprocAttr,GJ,ui]<;>rfl) ?_;refine dY (t:=!decide (c=0)) (by simp only[am,aD,simprocAttr,bu]) (λq=>?_) λq=>?_
 .have q:¬c=0:=by simpa using q
  refine ae (ar (M0) ?_);exact bG ⟨.tup [.nilp,.int .i64 1],(by simp only[rs,rf10,am,aD,simprocAttr]<;>rfl),X2,.inr ⟨λhg=>q (hc.2 hg),rfl⟩⟩
 have q:c=0:=by simpa using q
 have hg:=hc.1 q;obtain⟨nn,rfl⟩:∃nn:Nat,n=nn:=⟨n.toNat,by
  have:=hg.1;simp only[lW,aL,aI]at this;omega⟩
 refine bK ?_;have r2:ak h2 h.next 0 2=some [.int .i64 (nn:Nat),ev]:=by rw[cS (x2.gt _ om)];exact r0
 refine ae (bM (aV 1 (Mi1 r2) rfl (Zi1 r2) (Mi1 r2) (Ao (he.ext X2 (ab _)) hg.1) λvp h3 hq=>?_));obtain⟨hv,x3⟩:=hq;have hvb:∃vb,vp=.ptr vb 0:=by obtain⟨b,_,_,_,_,_,hb,_⟩:=hv;exact⟨b,hb⟩
 obtain⟨vb,rfl⟩:=hvb;have X3:=X2.trans (x3.mono X2.nx);refine bF (M0) ?_;have x4:Ext h3.next h3 (h3.new (.cells [.nils,.ptr vb 0,.nils] 3 false)):=Mb (ab _);have g4:(h3.new (.cells [.nils,.ptr vb 0,.nils] 3 false)).get h3.next=some (.cells [.nils,.ptr vb 0,.nils] 3 false):=by rw[AH.get_new,if_pos rfl]
 have n4:(h3.new (.cells [.nils,.ptr vb 0,.nils] 3 false)).next=h3.next+1:=rfl;generalize h3.new (.cells [.nils,.ptr vb 0,.nils] 3 false)=h4 at *
 refine bG ⟨.tup [.ptr h3.next 0,.int .i64 0],(by simp only[rs,rf10,am,aD,simprocAttr]<;>rfl),X3.trans (x4.mono X3.nx),.inl ⟨hg,h3.next,X3.nx,rfl,?_⟩⟩;rw[bU];exact⟨.nils,.ptr vb 0,.nils,h3,g4,.inl ⟨rfl,.inl rfl⟩,λb o m c e=>(by cases e),hv,x4,ab _,ab _,om,.inl ⟨rfl,rfl,rfl⟩⟩
end Go.Proofs.YtmibmlioidpogaaGreatDoor
